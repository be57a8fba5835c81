/- Rules for runs of the canonical machine. No condition. -/
import Derived.Test.YtekojjilbchkgaaCan
namespace Go.Proofs.Ytekojjilbchkgaa.Can
open Go

/-! ### more fuel, the same answer -/
def LeO {α : Type} (x y : Option α) : Prop := ∀ r, x = some r → y = some r
theorem LeO.refl {α : Type} (x : Option α) : LeO x x := fun _ h => h
def LeC (c d : CallFn) : Prop := ∀ f a h, LeO (c f a h) (d f a h)

theorem evOp_mono {c d : CallFn} (hc : LeC c d) (o : COp) (h : Heap) : LeO (evOp c o h) (evOp d o h) := by
  intro r hr
  unfold evOp at hr ⊢
  split at hr
  · exact hc _ _ _ _ hr
  · exact hc _ _ _ _ hr
  · exact hr

theorem evR_mono {c d : CallFn} (hc : LeC c d) (l : Reg) : ∀ h, LeO (evR c l h) (evR d l h) := by
  induction l with
  | done e => intro h r hr; exact hr
  | op o k ih =>
    intro h r hr
    simp only [evR] at hr ⊢
    cases hx : evOp c o h with
    | none => rw [hx] at hr; exact absurd hr (by simp)
    | some y => rw [hx] at hr; rw [evOp_mono hc _ _ _ hx]; exact ih _ _ _ hr
  | opg g w o k ih =>
    intro h r hr
    simp only [evR] at hr ⊢
    cases hw : wantV g w with
    | none => rw [hw] at hr; exact absurd hr (by simp)
    | some b =>
      rw [hw] at hr
      cases b with
      | true =>
        simp only at hr ⊢
        cases hx : evOp c o h with
        | none => rw [hx] at hr; exact absurd hr (by simp)
        | some y => rw [hx] at hr; rw [evOp_mono hc _ _ _ hx]; exact ih _ _ _ hr
      | false => exact ih _ _ _ hr
  | snap k ih => intro h r hr; simp only [evR] at hr ⊢; exact ih _ _ _ hr
  | chk g hj o v k ih =>
    intro h r hr
    simp only [evR] at hr ⊢
    split at hr
    · rename_i hx; rw [if_pos hx]; exact ih _ _ hr
    · exact absurd hr (by simp)

theorem iter_mono {f g : Env → Heap → Option (X × Env × Heap)} (hf : ∀ e h, LeO (f e h) (g e h)) : ∀ n m, n ≤ m → ∀ e h, LeO (iter f n e h) (iter g m e h) := by
  intro n
  induction n with
  | zero => intro m _ e h r hr; exact absurd hr (by simp [iter])
  | succ n ih =>
    intro m hm e h r hr
    obtain ⟨m, rfl⟩ : ∃ j, m = j + 1 := ⟨m - 1, by omega⟩
    simp only [iter] at hr ⊢
    cases hx : f e h with
    | none => rw [hx] at hr; exact absurd hr (by simp)
    | some y =>
      rw [hx] at hr; rw [hf _ _ _ hx]
      obtain ⟨x, e', h'⟩ := y
      cases x with
      | normal => exact ih m (by omega) _ _ _ hr
      | exit i => exact hr
      | ret => exact hr

theorem evC_mono {c d : CallFn} (hc : LeC c d) {n m : Nat} (hn : n ≤ m) (x : CC) : ∀ e h, LeO (evC c n x e h) (evC d m x e h) := by
  induction x with
  | skip => intro e h r hr; exact hr
  | region ops =>
    intro e h r hr
    simp only [evC, Option.map_eq_some_iff] at hr ⊢
    obtain ⟨a, ha, rfl⟩ := hr
    exact ⟨a, evR_mono hc _ _ _ ha, rfl⟩
  | seq a b iha ihb =>
    intro e h r hr
    simp only [evC] at hr ⊢
    cases hx : evC c n a e h with
    | none => rw [hx] at hr; exact absurd hr (by simp)
    | some y =>
      rw [hx] at hr; rw [iha _ _ _ hx]
      obtain ⟨x, e', h'⟩ := y
      cases x with
      | normal => exact ihb _ _ _ hr
      | exit i => exact hr
      | ret => exact hr
  | cond t a b iha ihb =>
    intro e h r hr
    simp only [evC] at hr ⊢
    split at hr
    · exact iha _ _ _ hr
    · exact ihb _ _ _ hr
    · exact absurd hr (by simp)
  | block id b ih =>
    intro e h r hr
    simp only [evC] at hr ⊢
    cases hx : evC c n b e h with
    | none => rw [hx] at hr; exact absurd hr (by simp)
    | some y =>
      rw [hx] at hr; rw [ih _ _ _ hx]
      exact hr
  | loop b ih => intro e h; exact iter_mono (fun e h => ih e h) n m hn e h
  | exit id => intro e h r hr; exact hr
  | ret => intro e h r hr; exact hr
  | bad => intro e h r hr; exact hr

theorem evF_mono1 (CP : CProg) : ∀ n, LeC (evF CP n) (evF CP (n + 1)) := by
  intro n
  induction n with
  | zero => intro f a h r hr; exact absurd hr (by simp [evF])
  | succ n ih =>
    intro f a h r hr
    rw [evF] at hr ⊢
    cases hf : CP f with
    | none => rw [hf] at hr; exact absurd hr (by simp)
    | some fn =>
      rw [hf] at hr
      simp only at hr ⊢
      cases hx : evC (evF CP n) n fn.body (initE a) h with
      | none => rw [hx] at hr; exact absurd hr (by simp)
      | some y => rw [hx] at hr; rw [evC_mono ih (Nat.le_succ n) _ _ _ _ hx]; exact hr

theorem evF_mono (CP : CProg) {n m : Nat} (h : n ≤ m) : LeC (evF CP n) (evF CP m) := by
  induction h with
  | refl => intro f a h r hr; exact hr
  | step h ih => intro f a h r hr; exact evF_mono1 CP _ _ _ _ _ (ih _ _ _ _ hr)

/-! ### runs -/
section
variable (CP : CProg)
abbrev Post := X → Env → Heap → Prop

def CALL (f : FuncId) (args : List Value) (h : Heap) (Q : Value → Heap → Prop) : Prop :=
  ∃ n v h', evF CP n f args h = some (v, h') ∧ Q v h'
def RunR (r : Reg) (h : Heap) (Q : Post) : Prop :=
  ∃ n e' h', evR (evF CP n) r h = some (e', h') ∧ Q .normal e' h'
def RunC (c : CC) (e : Env) (h : Heap) (Q : Post) : Prop :=
  ∃ n x e' h', evC (evF CP n) n c e h = some (x, e', h') ∧ Q x e' h'

def seqQ (b : CC) (Q : Post) : Post
  | .normal, e, h => RunC CP b e h Q
  | x, e, h => Q x e h
def blockQ (id : Nat) (Q : Post) : Post
  | .exit i, e, h => if i = id then Q .normal e h else Q (.exit i) e h
  | x, e, h => Q x e h
def finQ (v : Option Value) (h : Heap) (Q : Value → Heap → Prop) : Prop :=
  match v with
  | some v => Q v h
  | none => False
def retQ (rs : List RV) (Q : Value → Heap → Prop) : Post
  | .normal, e, h => finQ (resultsV e h rs) h Q
  | .ret, e, h => finQ (resultsV e h rs) h Q
  | .exit _, _, _ => False
def callQ (k : Value → Reg) (Q : Post) : Value → Heap → Prop := fun v h => RunR CP (k v) h Q
def afterR (r : Option (Value × Heap)) (k : Value → Reg) (Q : Post) : Prop :=
  match r with
  | some (v, h) => RunR CP (k v) h Q
  | none => False
def guardR (b : Option Bool) (o : COp) (k : Value → Reg) (h : Heap) (Q : Post) : Prop :=
  match b with
  | some true => RunR CP (.op o k) h Q
  | some false => RunR CP (k (.tuple #[])) h Q
  | none => False

theorem CALL.mono {CP : CProg} {f : FuncId} {args : List Value} {h : Heap} {Q Q' : Value → Heap → Prop} (c : CALL CP f args h Q) (hq : ∀ v h, Q v h → Q' v h) : CALL CP f args h Q' :=
  let ⟨n, v, h', e, q⟩ := c; ⟨n, v, h', e, hq _ _ q⟩
theorem RunC.mono {CP : CProg} {c : CC} {e : Env} {h : Heap} {Q Q' : Post} (r : RunC CP c e h Q) (hq : ∀ x e h, Q x e h → Q' x e h) : RunC CP c e h Q' :=
  let ⟨n, x, e', h', k, q⟩ := r; ⟨n, x, e', h', k, hq _ _ _ q⟩

/-- A call has one outcome. -/
theorem CALL_det {CP : CProg} {f : FuncId} {args : List Value} {h : Heap} {v : Value} {h' : Heap} (c : CALL CP f args h fun x g => x = v ∧ g = h') (Q : Value → Heap → Prop) : CALL CP f args h Q ↔ Q v h' := by
  obtain ⟨n, x, g, he, rfl, rfl⟩ := c
  constructor
  · rintro ⟨m, x2, g2, he2, hq⟩
    have h1 := evF_mono CP (Nat.le_max_left n m) f args h _ he
    have h2 := evF_mono CP (Nat.le_max_right n m) f args h _ he2
    rw [h1] at h2
    simp only [Option.some.injEq, Prod.mk.injEq] at h2
    obtain ⟨rfl, rfl⟩ := h2
    exact hq
  · exact fun hq => ⟨n, _, _, he, hq⟩
theorem CALL_enter {f : FuncId} {fn : CFn} (hf : CP f = some fn) (args : List Value) (h : Heap) (Q : Value → Heap → Prop) :
    CALL CP f args h Q ↔ RunC CP fn.body (initE args) h (retQ fn.results Q) := by
  constructor
  · rintro ⟨n, v, h', hx, hq⟩
    cases n with
    | zero => simp [evF] at hx
    | succ n =>
      simp only [evF, hf] at hx
      cases hy : evC (evF CP n) n fn.body (initE args) h with
      | none => rw [hy] at hx; simp at hx
      | some y =>
        obtain ⟨x, e, h''⟩ := y
        rw [hy] at hx
        cases x with
        | normal =>
          simp only [Option.map_eq_some_iff, Prod.mk.injEq] at hx
          obtain ⟨u, hu, rfl, rfl⟩ := hx
          exact ⟨n, _, _, _, hy, by simp only [retQ, hu, finQ]; exact hq⟩
        | ret =>
          simp only [Option.map_eq_some_iff, Prod.mk.injEq] at hx
          obtain ⟨u, hu, rfl, rfl⟩ := hx
          exact ⟨n, _, _, _, hy, by simp only [retQ, hu, finQ]; exact hq⟩
        | exit i => simp at hx
  · rintro ⟨n, x, e, h', hx, hq⟩
    have fin : ∀ o : Option Value, finQ o h' Q → ∃ u, o = some u ∧ Q u h' := fun o ho => by
      cases o with
      | none => exact ho.elim
      | some u => exact ⟨u, rfl, ho⟩
    cases x with
    | normal =>
      obtain ⟨u, hu, hq⟩ := fin _ hq
      exact ⟨n + 1, u, h', by simp only [evF, hf, hx, hu]; rfl, hq⟩
    | ret =>
      obtain ⟨u, hu, hq⟩ := fin _ hq
      exact ⟨n + 1, u, h', by simp only [evF, hf, hx, hu]; rfl, hq⟩
    | exit i => exact hq.elim

theorem RunC_skip (e : Env) (h : Heap) (Q : Post) : RunC CP .skip e h Q ↔ Q .normal e h :=
  ⟨fun ⟨_, _, _, _, hx, hq⟩ => by simp only [evC, Option.some.injEq, Prod.mk.injEq] at hx; obtain ⟨rfl, rfl, rfl⟩ := hx; exact hq, fun q => ⟨0, _, _, _, rfl, q⟩⟩
theorem RunC_ret (e : Env) (h : Heap) (Q : Post) : RunC CP .ret e h Q ↔ Q .ret e h :=
  ⟨fun ⟨_, _, _, _, hx, hq⟩ => by simp only [evC, Option.some.injEq, Prod.mk.injEq] at hx; obtain ⟨rfl, rfl, rfl⟩ := hx; exact hq, fun q => ⟨0, _, _, _, rfl, q⟩⟩
theorem RunC_exit (id : Nat) (e : Env) (h : Heap) (Q : Post) : RunC CP (.exit id) e h Q ↔ Q (.exit id) e h :=
  ⟨fun ⟨_, _, _, _, hx, hq⟩ => by simp only [evC, Option.some.injEq, Prod.mk.injEq] at hx; obtain ⟨rfl, rfl, rfl⟩ := hx; exact hq, fun q => ⟨0, _, _, _, rfl, q⟩⟩
theorem RunC_region (r : Env → Reg) (e : Env) (h : Heap) (Q : Post) : RunC CP (.region r) e h Q ↔ RunR CP (r e) h Q := by
  constructor
  · rintro ⟨n, x, e', h', hx, hq⟩
    simp only [evC, Option.map_eq_some_iff, Prod.mk.injEq] at hx
    obtain ⟨⟨a, b⟩, ha, rfl, rfl, rfl⟩ := hx
    exact ⟨n, _, _, ha, hq⟩
  · rintro ⟨n, e', h', hx, hq⟩
    exact ⟨n, .normal, e', h', by simp [evC, hx], hq⟩

theorem RunC_seq (a b : CC) (e : Env) (h : Heap) (Q : Post) : RunC CP (.seq a b) e h Q ↔ RunC CP a e h (seqQ CP b Q) := by
  constructor
  · rintro ⟨n, x, e', h', hx, hq⟩
    simp only [evC] at hx
    cases hy : evC (evF CP n) n a e h with
    | none => rw [hy] at hx; simp at hx
    | some y =>
      obtain ⟨x1, e1, h1⟩ := y
      rw [hy] at hx
      cases x1 with
      | normal => exact ⟨n, _, _, _, hy, n, _, _, _, hx, hq⟩
      | exit i => simp only [Option.some.injEq, Prod.mk.injEq] at hx; obtain ⟨rfl, rfl, rfl⟩ := hx; exact ⟨n, _, _, _, hy, hq⟩
      | ret => simp only [Option.some.injEq, Prod.mk.injEq] at hx; obtain ⟨rfl, rfl, rfl⟩ := hx; exact ⟨n, _, _, _, hy, hq⟩
  · rintro ⟨n, x, e1, h1, hx, hq⟩
    cases x with
    | normal =>
      obtain ⟨m, x2, e2, h2, hy, hq⟩ := hq
      refine ⟨max n m, x2, e2, h2, ?_, hq⟩
      simp only [evC]
      rw [evC_mono (evF_mono CP (Nat.le_max_left n m)) (Nat.le_max_left n m) _ _ _ _ hx]
      exact evC_mono (evF_mono CP (Nat.le_max_right n m)) (Nat.le_max_right n m) _ _ _ _ hy
    | exit i => exact ⟨n, _, _, _, by simp only [evC, hx], hq⟩
    | ret => exact ⟨n, _, _, _, by simp only [evC, hx], hq⟩

theorem RunC_cond (c : Env → Value) (a b : CC) (e : Env) (h : Heap) (Q : Post) :
    RunC CP (.cond c a b) e h Q ↔ match c e with
      | .bool true => RunC CP a e h Q
      | .bool false => RunC CP b e h Q
      | _ => False := by
  constructor
  · rintro ⟨n, x, e', h', hx, hq⟩
    simp only [evC] at hx
    split at hx
    · rename_i heq; simp only [heq]; exact ⟨n, _, _, _, hx, hq⟩
    · rename_i heq; simp only [heq]; exact ⟨n, _, _, _, hx, hq⟩
    · exact absurd hx (by simp)
  · intro r
    split at r
    · rename_i heq; obtain ⟨n, x, e', h', hx, hq⟩ := r; exact ⟨n, _, _, _, by simp only [evC, heq]; exact hx, hq⟩
    · rename_i heq; obtain ⟨n, x, e', h', hx, hq⟩ := r; exact ⟨n, _, _, _, by simp only [evC, heq]; exact hx, hq⟩
    · exact r.elim

/-- A test, its outcome under one name. -/
def condQ (v : Value) (a b : CC) (e : Env) (h : Heap) (Q : Post) : Prop :=
  match v with
  | .bool true => RunC CP a e h Q
  | .bool false => RunC CP b e h Q
  | _ => False
theorem RunC_condQ (c : Env → Value) (a b : CC) (e : Env) (h : Heap) (Q : Post) : RunC CP (.cond c a b) e h Q ↔ condQ CP (c e) a b e h Q :=
  RunC_cond CP c a b e h Q
theorem condQ_true (a b : CC) (e : Env) (h : Heap) (Q : Post) : condQ CP (.bool true) a b e h Q ↔ RunC CP a e h Q := Iff.rfl
theorem condQ_false (a b : CC) (e : Env) (h : Heap) (Q : Post) : condQ CP (.bool false) a b e h Q ↔ RunC CP b e h Q := Iff.rfl
theorem condQ_dec (p : Prop) [Decidable p] (a b : CC) (e : Env) (h : Heap) (Q : Post) :
    condQ CP (.bool (decide p)) a b e h Q ↔ ((p → RunC CP a e h Q) ∧ (¬ p → RunC CP b e h Q)) := by
  by_cases hp : p <;> simp [condQ, hp]
theorem condQ_b (t : Bool) (a b : CC) (e : Env) (h : Heap) (Q : Post) :
    condQ CP (.bool t) a b e h Q ↔ ((t = true → RunC CP a e h Q) ∧ (t = false → RunC CP b e h Q)) := by
  cases t <;> simp [condQ]

theorem RunC_block (id : Nat) (b : CC) (e : Env) (h : Heap) (Q : Post) : RunC CP (.block id b) e h Q ↔ RunC CP b e h (blockQ id Q) := by
  constructor
  · rintro ⟨n, x, e', h', hx, hq⟩
    simp only [evC] at hx
    cases hy : evC (evF CP n) n b e h with
    | none => rw [hy] at hx; simp at hx
    | some y =>
      obtain ⟨x1, e1, h1⟩ := y
      rw [hy] at hx
      cases x1 with
      | normal => simp only [Option.some.injEq, Prod.mk.injEq] at hx; obtain ⟨rfl, rfl, rfl⟩ := hx; exact ⟨n, _, _, _, hy, hq⟩
      | ret => simp only [Option.some.injEq, Prod.mk.injEq] at hx; obtain ⟨rfl, rfl, rfl⟩ := hx; exact ⟨n, _, _, _, hy, hq⟩
      | exit i =>
        by_cases hi : i = id
        · simp only [hi, if_true, Option.some.injEq, Prod.mk.injEq] at hx; obtain ⟨rfl, rfl, rfl⟩ := hx
          exact ⟨n, _, _, _, hy, by simp only [blockQ, hi, if_true]; exact hq⟩
        · simp only [hi, if_false, Option.some.injEq, Prod.mk.injEq] at hx; obtain ⟨rfl, rfl, rfl⟩ := hx
          exact ⟨n, _, _, _, hy, by simp only [blockQ, hi, if_false]; exact hq⟩
  · rintro ⟨n, x, e', h', hx, hq⟩
    cases x with
    | normal => exact ⟨n, _, _, _, by simp only [evC, hx], hq⟩
    | ret => exact ⟨n, _, _, _, by simp only [evC, hx], hq⟩
    | exit i =>
      by_cases hi : i = id
      · simp only [blockQ, hi, if_true] at hq
        exact ⟨n, _, _, _, by simp only [evC, hx, hi, if_true], hq⟩
      · simp only [blockQ, hi, if_false] at hq
        exact ⟨n, _, _, _, by simp only [evC, hx, hi, if_false], hq⟩

def loopQ (I : Env → Heap → Prop) (Q : Post) : Post
  | .normal, e, h => I e h
  | x, e, h => Q x e h

/-- A loop that ends within d rounds. -/
theorem RunC_loop (b : CC) (Q : Post) (I : Nat → Env → Heap → Prop)
    (round : ∀ d e h, I d e h → RunC CP b e h (loopQ (fun e h => ∃ d', d' < d ∧ I d' e h) Q)) :
    ∀ d e h, I d e h → RunC CP (.loop b) e h Q := by
  intro d
  induction d using Nat.strongRecOn with
  | _ d ih =>
    intro e h hI
    obtain ⟨n, x, e1, h1, hx, hq⟩ := round d e h hI
    cases x with
    | normal =>
      obtain ⟨d', hlt, hI'⟩ := hq
      obtain ⟨m, x2, e2, h2, hy, hq2⟩ := ih d' hlt e1 h1 hI'
      refine ⟨max n m + 1, x2, e2, h2, ?_, hq2⟩
      simp only [evC, iter]
      rw [evC_mono (evF_mono CP (Nat.le_succ_of_le (Nat.le_max_left n m))) (Nat.le_succ_of_le (Nat.le_max_left n m)) _ _ _ _ hx]
      simp only
      simp only [evC] at hy
      exact iter_mono (fun e h => evC_mono (evF_mono CP (Nat.le_succ_of_le (Nat.le_max_right n m))) (Nat.le_succ_of_le (Nat.le_max_right n m)) b e h) m (max n m) (Nat.le_max_right n m) e1 h1 _ hy
    | exit i =>
      refine ⟨n + 1, _, _, _, ?_, hq⟩
      simp only [evC, iter]
      rw [evC_mono (evF_mono CP (Nat.le_succ n)) (Nat.le_succ n) _ _ _ _ hx]
    | ret =>
      refine ⟨n + 1, _, _, _, ?_, hq⟩
      simp only [evC, iter]
      rw [evC_mono (evF_mono CP (Nat.le_succ n)) (Nat.le_succ n) _ _ _ _ hx]

/-- One round, then the loop again. -/
theorem RunC_unroll (b : CC) (Q : Post) (e : Env) (h : Heap) (r : RunC CP b e h (loopQ (fun e h => RunC CP (.loop b) e h Q) Q)) : RunC CP (.loop b) e h Q := by
  obtain ⟨n, x, e1, h1, hx, hq⟩ := r
  cases x with
  | normal =>
    obtain ⟨m, x2, e2, h2, hy, hq2⟩ := hq
    refine ⟨max n m + 1, x2, e2, h2, ?_, hq2⟩
    simp only [evC, iter]
    rw [evC_mono (evF_mono CP (Nat.le_succ_of_le (Nat.le_max_left n m))) (Nat.le_succ_of_le (Nat.le_max_left n m)) _ _ _ _ hx]
    simp only
    simp only [evC] at hy
    exact iter_mono (fun e h => evC_mono (evF_mono CP (Nat.le_succ_of_le (Nat.le_max_right n m))) (Nat.le_succ_of_le (Nat.le_max_right n m)) b e h) m (max n m) (Nat.le_max_right n m) e1 h1 _ hy
  | exit i =>
    refine ⟨n + 1, _, _, _, ?_, hq⟩
    simp only [evC, iter]
    rw [evC_mono (evF_mono CP (Nat.le_succ n)) (Nat.le_succ n) _ _ _ _ hx]
  | ret =>
    refine ⟨n + 1, _, _, _, ?_, hq⟩
    simp only [evC, iter]
    rw [evC_mono (evF_mono CP (Nat.le_succ n)) (Nat.le_succ n) _ _ _ _ hx]

theorem RunR_done (e : Env) (h : Heap) (Q : Post) : RunR CP (.done e) h Q ↔ Q .normal e h :=
  ⟨fun ⟨_, _, _, hx, hq⟩ => by simp only [evR, Option.some.injEq, Prod.mk.injEq] at hx; obtain ⟨rfl, rfl⟩ := hx; exact hq, fun q => ⟨0, _, _, rfl, q⟩⟩

/-- A closure's call. -/
def callvQ (fv : Value) (args : List Value) (h : Heap) (Q : Value → Heap → Prop) : Prop :=
  match fv with
  | .func (.func g) first captured => CALL CP g (first.toList ++ args ++ captured.toList) h Q
  | _ => False
theorem callvQ_eq (g : FuncId) (first captured : Array Value) (args : List Value) (h : Heap) (Q : Value → Heap → Prop) :
    callvQ CP (.func (.func g) first captured) args h Q ↔ CALL CP g (first.toList ++ args ++ captured.toList) h Q := Iff.rfl

theorem run_some {α : Type} {x : Option α} {y : α} (h : x = some y) : x = some y := h
theorem RunR_call0 {o : COp} {f : FuncId} {args : List Value} (ho : ∀ c h, evOp c o h = c f args h) (k : Value → Reg) (h : Heap) (Q : Post) :
    RunR CP (.op o k) h Q ↔ CALL CP f args h (callQ CP k Q) := by
  constructor
  · rintro ⟨n, e', h', hx, hq⟩
    simp only [evR, ho] at hx
    cases hc : evF CP n f args h with
    | none => rw [hc] at hx; simp at hx
    | some y => rw [hc] at hx; exact ⟨n, _, _, hc, n, _, _, hx, hq⟩
  · rintro ⟨n, v, h1, hc, m, e', h', hx, hq⟩
    refine ⟨max n m, e', h', ?_, hq⟩
    simp only [evR, ho]
    rw [evF_mono CP (Nat.le_max_left n m) _ _ _ _ hc]
    exact evR_mono (evF_mono CP (Nat.le_max_right n m)) _ _ _ hx
theorem RunR_cop0 {o : COp} (ho : ∀ c h, evOp c o h = cop o h) (k : Value → Reg) (h : Heap) (Q : Post) :
    RunR CP (.op o k) h Q ↔ afterR CP (cop o h) k Q := by
  constructor
  · rintro ⟨n, e', h', hx, hq⟩
    simp only [evR, ho] at hx
    cases hc : cop o h with
    | none => rw [hc] at hx; simp at hx
    | some y => rw [hc] at hx; exact ⟨n, _, _, hx, hq⟩
  · intro r
    cases hc : cop o h with
    | none => rw [hc] at r; exact r.elim
    | some y =>
      rw [hc] at r
      obtain ⟨n, e', h', hx, hq⟩ := r
      exact ⟨n, e', h', by simp only [evR, ho, hc]; exact hx, hq⟩
theorem RunR_callv (f : Value) (args : List Value) (k : Value → Reg) (h : Heap) (Q : Post) :
    RunR CP (.op (.callv f args) k) h Q ↔ callvQ CP f args h (callQ CP k Q) := by
  cases f with
  | func fn first captured =>
    cases fn with
    | func g => exact RunR_call0 CP (fun _ _ => rfl) k h Q
    | _ => exact ⟨fun ⟨n, e', h', hx, _⟩ => by simp [evR, evOp, cop] at hx, fun r => r.elim⟩
  | _ => exact ⟨fun ⟨n, e', h', hx, _⟩ => by simp [evR, evOp, cop] at hx, fun r => r.elim⟩

theorem RunR_op (o : COp) (k : Value → Reg) (h : Heap) (Q : Post) :
    RunR CP (.op o k) h Q ↔ match o with
      | .call f args => CALL CP f args h (callQ CP k Q)
      | .callv f args => callvQ CP f args h (callQ CP k Q)
      | o => afterR CP (cop o h) k Q := by
  cases o with
  | call f args => exact RunR_call0 CP (fun _ _ => rfl) k h Q
  | callv f args => exact RunR_callv CP f args k h Q
  | _ => exact RunR_cop0 CP (fun _ _ => rfl) k h Q

theorem RunR_opg (g : Value) (w : Bool) (o : COp) (k : Value → Reg) (h : Heap) (Q : Post) :
    RunR CP (.opg g w o k) h Q ↔ guardR CP (wantV g w) o k h Q := by
  unfold RunR guardR
  simp only [evR]
  cases hw : wantV g w with
  | none => simp
  | some b => cases b <;> simp only [RunR, evR]
theorem guardR_true (o : COp) (k : Value → Reg) (h : Heap) (Q : Post) : guardR CP (some true) o k h Q ↔ RunR CP (.op o k) h Q := Iff.rfl
theorem guardR_false (o : COp) (k : Value → Reg) (h : Heap) (Q : Post) : guardR CP (some false) o k h Q ↔ RunR CP (k (.tuple #[])) h Q := Iff.rfl
theorem RunR_snap (k : Heap → Reg) (h : Heap) (Q : Post) : RunR CP (.snap k) h Q ↔ RunR CP (k h) h Q := by
  unfold RunR; simp only [evR]
theorem RunR_chk (g : Option (Value × Bool)) (hj : Option Heap) (o : COp) (v : Value) (k : Reg) (h : Heap) (Q : Post) : RunR CP (.chk g hj o v k) h Q ↔ (Holds g (hj.getD h) o v ∧ RunR CP k h Q) := by
  unfold RunR; simp only [evR]
  by_cases hc : Holds g (hj.getD h) o v <;> simp [hc]
theorem beq_ft : (false == true) = false := rfl
theorem beq_tf : (true == false) = false := rfl
theorem wantV_bool (x w : Bool) : wantV (.bool x) w = some (x == w) := rfl
theorem wantV_none (w : Bool) : wantV (.tuple #[]) w = some false := rfl
theorem afterR_some (v : Value) (h : Heap) (k : Value → Reg) (Q : Post) : afterR CP (some (v, h)) k Q ↔ RunR CP (k v) h Q := Iff.rfl
theorem seqQ_normal (b : CC) (Q : Post) (e : Env) (h : Heap) : seqQ CP b Q .normal e h ↔ RunC CP b e h Q := Iff.rfl
theorem seqQ_ret (b : CC) (Q : Post) (e : Env) (h : Heap) : seqQ CP b Q .ret e h ↔ Q .ret e h := Iff.rfl
theorem seqQ_exit (b : CC) (Q : Post) (i : Nat) (e : Env) (h : Heap) : seqQ CP b Q (.exit i) e h ↔ Q (.exit i) e h := Iff.rfl
theorem blockQ_normal (id : Nat) (Q : Post) (e : Env) (h : Heap) : blockQ id Q .normal e h ↔ Q .normal e h := Iff.rfl
theorem blockQ_ret (id : Nat) (Q : Post) (e : Env) (h : Heap) : blockQ id Q .ret e h ↔ Q .ret e h := Iff.rfl
theorem blockQ_exit (id i : Nat) (Q : Post) (e : Env) (h : Heap) : blockQ id Q (.exit i) e h ↔ if i = id then Q .normal e h else Q (.exit i) e h := Iff.rfl
theorem loopQ_normal (I : Env → Heap → Prop) (Q : Post) (e : Env) (h : Heap) : loopQ I Q .normal e h ↔ I e h := Iff.rfl
theorem loopQ_ret (I : Env → Heap → Prop) (Q : Post) (e : Env) (h : Heap) : loopQ I Q .ret e h ↔ Q .ret e h := Iff.rfl
theorem loopQ_exit (I : Env → Heap → Prop) (Q : Post) (i : Nat) (e : Env) (h : Heap) : loopQ I Q (.exit i) e h ↔ Q (.exit i) e h := Iff.rfl
theorem retQ_ret (rs : List RV) (Q : Value → Heap → Prop) (e : Env) (h : Heap) : retQ rs Q .ret e h ↔ finQ (resultsV e h rs) h Q := Iff.rfl
theorem retQ_normal (rs : List RV) (Q : Value → Heap → Prop) (e : Env) (h : Heap) : retQ rs Q .normal e h ↔ finQ (resultsV e h rs) h Q := Iff.rfl
theorem finQ_some (v : Value) (h : Heap) (Q : Value → Heap → Prop) : finQ (some v) h Q ↔ Q v h := Iff.rfl
theorem callQ_eq (k : Value → Reg) (Q : Post) (v : Value) (h : Heap) : callQ CP k Q v h ↔ RunR CP (k v) h Q := Iff.rfl
end

/-! ### reading what was written -/
def sel : Bool → Value → Value → Value
  | true, a, _ => a
  | false, _, b => b
theorem sel_t (a b : Value) : sel true a b = a := rfl
theorem sel_f (a b : Value) : sel false a b = b := rfl
theorem upd_at (e : Env) (t s : Nat) (v : Value) : (e.upd t v) s = sel (s == t) v (e s) := by
  by_cases h : s = t
  · subst h; simp [Env.upd, sel]
  · have h2 : (s == t) = false := by simp [h]
    rw [h2]; simp [Env.upd, h, sel]
theorem upd_same (e : Env) (t : Nat) (v : Value) : (e.upd t v) t = v := by simp [Env.upd]
theorem initE_at (args : List Value) (t : Nat) : initE args t = args.getD t (.tuple #[]) := rfl
theorem obj_upd_same (h : Heap) (b : Nat) (o : Obj) : (h.upd b o).obj b = o := by simp [Heap.upd]
theorem obj_upd_ne (h : Heap) {b x : Nat} (o : Obj) (hne : x ≠ b) : (h.upd b o).obj x = h.obj x := by simp [Heap.upd, hne]
theorem obj_new_same (h : Heap) (o : Obj) : (h.new o).obj h.next = o := by simp [Heap.new]
theorem obj_new_ne (h : Heap) {x : Nat} (o : Obj) (hne : x ≠ h.next) : (h.new o).obj x = h.obj x := by simp [Heap.new, hne]
theorem obj_updnew_same (h : Heap) (b : Nat) (p o : Obj) : ((h.upd b p).new o).obj h.next = o := obj_new_same (h.upd b p) o
theorem obj_updnew_same2 (h : Heap) (b c : Nat) (p q o : Obj) : (((h.upd b p).upd c q).new o).obj h.next = o := obj_new_same ((h.upd b p).upd c q) o
theorem obj_new2_same (h : Heap) (p o : Obj) : ((h.new p).new o).obj (h.next + 1) = o := obj_new_same (h.new p) o
theorem obj_new3_same (h : Heap) (q p o : Obj) : (((h.new q).new p).new o).obj (h.next + 1 + 1) = o := obj_new_same ((h.new q).new p) o
theorem obj_newupd_same (h : Heap) (b : Nat) (q p o : Obj) : (((h.new q).upd b p).new o).obj (h.next + 1) = o := obj_new_same ((h.new q).upd b p) o
theorem obj_new_ne2 (h : Heap) {x : Nat} (p o : Obj) (hne : x ≠ h.next + 1) : ((h.new p).new o).obj x = (h.new p).obj x := obj_new_ne _ _ hne
theorem obj_new_ne3 (h : Heap) {x : Nat} (q p o : Obj) (hne : x ≠ h.next + 1 + 1) : (((h.new q).new p).new o).obj x = ((h.new q).new p).obj x := obj_new_ne _ _ hne
theorem obj_new_ne4 (h : Heap) {x : Nat} (r q p o : Obj) (hne : x ≠ h.next + 1 + 1 + 1) : ((((h.new r).new q).new p).new o).obj x = (((h.new r).new q).new p).obj x := obj_new_ne _ _ hne
theorem next_upd (h : Heap) (b : Nat) (o : Obj) : (h.upd b o).next = h.next := rfl
theorem next_new (h : Heap) (o : Obj) : (h.new o).next = h.next + 1 := rfl
theorem add_zero_addr (a : Addr) : a.add 0 = a := rfl
theorem add_addr (b o n : Nat) (s : Option Nat) (hn : 0 < n) : (⟨b, o, s⟩ : Addr).add n = ⟨b, o + n, none⟩ := by
  unfold Addr.add; rw [if_neg (by omega)]
theorem add_plain (b o n : Nat) : (⟨b, o, none⟩ : Addr).add n = ⟨b, o + n, none⟩ := by
  unfold Addr.add
  split
  · rename_i h; subst h; rfl
  · rfl
theorem get_cells (c : List Value) (e : TypeId) (g : How) (o : Nat) : (Obj.cells c e g).get o = c[o]? := rfl
theorem read_cells (c : List Value) (e : TypeId) (g : How) (o n : Nat) : (Obj.cells c e g).read o n = if o + n ≤ c.length then some ((c.drop o).take n) else none := rfl
theorem src_ro (c : List Value) (e : TypeId) (o n : Nat) : (Obj.cells c e .ro).src o n = if o + n ≤ c.length ∧ ((c.drop o).take n).all scalar = true then some ((c.drop o).take n) else none := rfl
theorem src_fix (c : List Value) (e : TypeId) (o n : Nat) : (Obj.cells c e .fix).src o n = if o + n ≤ c.length then some ((c.drop o).take n) else none := rfl
theorem src_grow (c : List Value) (e : TypeId) (o n : Nat) : (Obj.cells c e .grow).src o n = if o + n ≤ c.length then some ((c.drop o).take n) else none := rfl
theorem write_fix (c : List Value) (e : TypeId) (o : Nat) (vs : List Value) : (Obj.cells c e .fix).write o vs = if o + vs.length ≤ c.length then some (.cells (setAt c o vs) e .fix) else none := rfl
theorem write_grow (c : List Value) (e : TypeId) (o : Nat) (vs : List Value) : (Obj.cells c e .grow).write o vs = if o + vs.length ≤ c.length then some (.cells (setAt c o vs) e .grow) else none := rfl
theorem elemOk_ro (c : List Value) (e t : TypeId) : (Obj.cells c e .ro).elemOk t = true := rfl
theorem elemOk_fix (c : List Value) (e t : TypeId) : (Obj.cells c e .fix).elemOk t = true := rfl
theorem elemOk_grow (c : List Value) (e t : TypeId) : (Obj.cells c e .grow).elemOk t = (e == t) := rfl
theorem stiff_ro (c : List Value) (e : TypeId) : (Obj.cells c e .ro).stiff = true := rfl
theorem stiff_fix (c : List Value) (e : TypeId) : (Obj.cells c e .fix).stiff = true := rfl
set_option linter.unusedSimpArgs false
theorem wrap_i64 {n : Int} (h0 : -9223372036854775808 ≤ n) (h1 : n ≤ 9223372036854775807) : IntKind.i64.wrap n = n := by
  show (if (true && decide (n % 18446744073709551616 ≥ 9223372036854775808)) = true then n % 18446744073709551616 - 18446744073709551616 else n % 18446744073709551616) = n
  simp only [Bool.true_and, Bool.false_and, decide_eq_true_eq, Bool.false_eq_true, if_false]
  split <;> omega
theorem wrap_i32 {n : Int} (h0 : -2147483648 ≤ n) (h1 : n ≤ 2147483647) : IntKind.i32.wrap n = n := by
  show (if (true && decide (n % 4294967296 ≥ 2147483648)) = true then n % 4294967296 - 4294967296 else n % 4294967296) = n
  simp only [Bool.true_and, Bool.false_and, decide_eq_true_eq, Bool.false_eq_true, if_false]
  split <;> omega
theorem wrap_i16 {n : Int} (h0 : -32768 ≤ n) (h1 : n ≤ 32767) : IntKind.i16.wrap n = n := by
  show (if (true && decide (n % 65536 ≥ 32768)) = true then n % 65536 - 65536 else n % 65536) = n
  simp only [Bool.true_and, Bool.false_and, decide_eq_true_eq, Bool.false_eq_true, if_false]
  split <;> omega
theorem wrap_i8 {n : Int} (h0 : -128 ≤ n) (h1 : n ≤ 127) : IntKind.i8.wrap n = n := by
  show (if (true && decide (n % 256 ≥ 128)) = true then n % 256 - 256 else n % 256) = n
  simp only [Bool.true_and, Bool.false_and, decide_eq_true_eq, Bool.false_eq_true, if_false]
  split <;> omega
theorem wrap_u8 {n : Int} (h0 : 0 ≤ n) (h1 : n ≤ 255) : IntKind.u8.wrap n = n := by
  show (if (false && decide (n % 256 ≥ 128)) = true then n % 256 - 256 else n % 256) = n
  simp only [Bool.true_and, Bool.false_and, decide_eq_true_eq, Bool.false_eq_true, if_false]
  omega
theorem wrap_u16 {n : Int} (h0 : 0 ≤ n) (h1 : n ≤ 65535) : IntKind.u16.wrap n = n := by
  show (if (false && decide (n % 65536 ≥ 32768)) = true then n % 65536 - 65536 else n % 65536) = n
  simp only [Bool.true_and, Bool.false_and, decide_eq_true_eq, Bool.false_eq_true, if_false]
  omega
theorem wrap_u32 {n : Int} (h0 : 0 ≤ n) (h1 : n ≤ 4294967295) : IntKind.u32.wrap n = n := by
  show (if (false && decide (n % 4294967296 ≥ 2147483648)) = true then n % 4294967296 - 4294967296 else n % 4294967296) = n
  simp only [Bool.true_and, Bool.false_and, decide_eq_true_eq, Bool.false_eq_true, if_false]
  omega
theorem wrap_u64 {n : Int} (h0 : 0 ≤ n) (h1 : n ≤ 18446744073709551615) : IntKind.u64.wrap n = n := by
  show (if (false && decide (n % 18446744073709551616 ≥ 9223372036854775808)) = true then n % 18446744073709551616 - 18446744073709551616 else n % 18446744073709551616) = n
  simp only [Bool.true_and, Bool.false_and, decide_eq_true_eq, Bool.false_eq_true, if_false]
  omega

def ints (k : IntKind) (l : List Int) : List Value := l.map (.int k)
theorem ints_len (k : IntKind) (l : List Int) : (ints k l).length = l.length := by simp [ints]
theorem ints_get (k : IntKind) (l : List Int) {i : Nat} {x : Int} (h : l[i]? = some x) : (ints k l)[i]? = some (.int k x) := by simp [ints, h]
theorem ints_set (k : IntKind) (l : List Int) (i : Nat) (x : Int) : (ints k l).set i (.int k x) = ints k (l.set i x) := by simp [ints, List.map_set]

/-- What was there is as it was. -/
structure Old (h h' : Heap) : Prop where
  next : h.next ≤ h'.next
  obj : ∀ b, b < h.next → h'.obj b = h.obj b
theorem Old.refl (h : Heap) : Old h h := ⟨Nat.le_refl _, fun _ _ => rfl⟩
theorem Old.trans {a b c : Heap} (h : Old a b) (k : Old b c) : Old a c := ⟨Nat.le_trans h.next k.next, fun x hx => by rw [k.obj x (Nat.lt_of_lt_of_le hx h.next), h.obj x hx]⟩
theorem CALL_heap {CP : CProg} {f : FuncId} {args : List Value} {h : Heap} {Q : Value → Heap → Prop} (P : Heap → Prop) (hp : P h) (k : ∀ h', P h' → CALL CP f args h' Q) : CALL CP f args h Q := k h hp
/-! ### where the simplifier is to look (to be made congruence rules where they are used) -/
theorem RunR_congr {CP : CProg} {r r' : Reg} (h : Heap) (Q : Post) (e : r = r') : RunR CP r h Q = RunR CP r' h Q := by rw [e]
theorem RunC_congr {CP : CProg} {c c' : CC} (e : Env) (h : Heap) (Q : Post) (q : c = c') : RunC CP c e h Q = RunC CP c' e h Q := by rw [q]
theorem afterR_congr {CP : CProg} {r r' : Option (Value × Heap)} (k : Value → Reg) (Q : Post) (e : r = r') : afterR CP r k Q = afterR CP r' k Q := by rw [e]
theorem guardR_congr {CP : CProg} {b b' : Option Bool} (o : COp) (k : Value → Reg) (h : Heap) (Q : Post) (e : b = b') : guardR CP b o k h Q = guardR CP b' o k h Q := by rw [e]
theorem condQ_congr {CP : CProg} {v v' : Value} (a b : CC) (e : Env) (h : Heap) (Q : Post) (q : v = v') : condQ CP v a b e h Q = condQ CP v' a b e h Q := by rw [q]
theorem CALL_congr {CP : CProg} {f : FuncId} {args args' : List Value} (h : Heap) (Q : Value → Heap → Prop) (e : args = args') : CALL CP f args h Q = CALL CP f args' h Q := by rw [e]
theorem finQ_congr {v v' : Option Value} (h : Heap) (Q : Value → Heap → Prop) (e : v = v') : finQ v h Q = finQ v' h Q := by rw [e]
theorem op_congr {o o' : COp} (k : Value → Reg) (e : o = o') : Reg.op o k = Reg.op o' k := by rw [e]
theorem opg_congr {g g' : Value} {w : Bool} {o : COp} (k : Value → Reg) (e : g = g') : Reg.opg g w o k = Reg.opg g' w o k := by rw [e]
end Go.Proofs.Ytekojjilbchkgaa.Can
