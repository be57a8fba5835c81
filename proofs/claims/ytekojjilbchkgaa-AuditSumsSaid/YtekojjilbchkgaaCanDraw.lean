/- A statement whose operations may change places: whatever the order, it comes to what the text's order does. No condition. -/
import Derived.Test.YtekojjilbchkgaaCanReg
namespace Go.Proofs.Ytekojjilbchkgaa.Can
open Go
set_option linter.unusedSimpArgs false
set_option linter.unusedVariables false

/-! ### kinds of operations -/
theorem evOp_plain {call : CallFn} {o : COp} (hk : kindC o ≠ .write) (h : Heap) : evOp call o h = cop o h := by
  cases o <;> first | rfl | (exact absurd rfl hk)

theorem kind_pure {o : COp} (hk : kindC o = .pure) {h h1 : Heap} {v : Value} (hc : cop o h = some (v, h1)) : h1 = h ∧ ∀ h', cop o h' = some (v, h') := by
  cases o <;> first
    | (simp only [kindC, reduceCtorEq] at hk; done)
    | (simp only [cop] at hc ⊢; (repeat' split at hc) <;> simp_all; done)
    | (simp only [cop, Option.map_eq_some_iff, Prod.mk.injEq] at hc
       obtain ⟨a, ha, rfl, rfl⟩ := hc
       exact ⟨rfl, fun _ => by simp only [cop, ha, Option.map_some]⟩)
    | skip
  case eqAgg neg ks x y =>
    simp only [cop] at hc ⊢
    split at hc
    · simp only [Option.map_eq_some_iff, Prod.mk.injEq] at hc
      obtain ⟨a, ha, rfl, rfl⟩ := hc
      exact ⟨rfl, fun _ => by simp only [ha, Option.map_some]⟩
    · simp at hc
  case sliceStr x lo hi =>
    simp only [cop] at hc ⊢
    split at hc
    · simp only [Option.bind_eq_some_iff, Option.map_eq_some_iff, Prod.mk.injEq] at hc
      obtain ⟨a, ha, b, hb, rfl, rfl⟩ := hc
      exact ⟨rfl, fun _ => by simp only [ha, hb, Option.bind_some, Option.map_some]⟩
    · simp at hc
  case field off agg x =>
    simp only [cop] at hc ⊢
    split at hc
    · cases agg with
      | some n =>
        simp only at hc ⊢
        split at hc
        · rename_i hle
          simp only [Option.some.injEq, Prod.mk.injEq] at hc
          obtain ⟨rfl, rfl⟩ := hc
          exact ⟨rfl, fun _ => by rw [if_pos hle]⟩
        · simp at hc
      | none =>
        simp only [Option.map_eq_some_iff, Prod.mk.injEq] at hc ⊢
        obtain ⟨a, ha, rfl, rfl⟩ := hc
        exact ⟨rfl, fun _ => ⟨_, ha, rfl, trivial⟩⟩
    · simp at hc
  case indexStr x i =>
    simp only [cop] at hc ⊢
    split at hc
    · split at hc
      · rename_i hle
        simp only [Option.map_eq_some_iff, Prod.mk.injEq] at hc
        obtain ⟨a, ha, rfl, rfl⟩ := hc
        exact ⟨rfl, fun _ => by rw [if_pos hle, ha]; rfl⟩
      · simp at hc
    · simp at hc
  case indexAgg n size agg x i =>
    simp only [cop] at hc ⊢
    split at hc
    · split at hc
      · rename_i hj
        cases agg with
        | some n =>
          simp only at hc ⊢
          split at hc
          · rename_i hle
            simp only [Option.some.injEq, Prod.mk.injEq] at hc
            obtain ⟨rfl, rfl⟩ := hc
            exact ⟨rfl, fun _ => by rw [if_pos hj, if_pos hle]⟩
          · simp at hc
        | none =>
          simp only [Option.map_eq_some_iff, Prod.mk.injEq] at hc
          obtain ⟨a, ha, rfl, rfl⟩ := hc
          exact ⟨rfl, fun _ => by rw [if_pos hj]; simp only [ha, Option.map_some]⟩
      · simp at hc
    · simp at hc
  case extract x i =>
    simp only [cop] at hc ⊢
    split at hc
    · split at hc
      · rename_i hle
        split at hc
        · rename_i b hb
          split at hc
          · rename_i hi
            simp only [Option.some.injEq, Prod.mk.injEq] at hc
            obtain ⟨rfl, rfl⟩ := hc
            exact ⟨rfl, fun _ => by rw [if_pos hle]; simp [hb, hi]⟩
          · simp at hc
        · simp at hc
      · rename_i hle
        simp only [Option.map_eq_some_iff, Prod.mk.injEq] at hc
        obtain ⟨a, ha, rfl, rfl⟩ := hc
        exact ⟨rfl, fun _ => by rw [if_neg hle, ha]; rfl⟩
    · simp at hc
  case minmax big xs =>
    simp only [cop] at hc ⊢
    split at hc
    · simp at hc
    · simp only [Option.map_eq_some_iff, Prod.mk.injEq] at hc
      obtain ⟨a, ha, rfl, rfl⟩ := hc
      exact ⟨rfl, fun _ => by simp only [ha, Option.map_some]⟩

theorem kind_read {o : COp} (hk : kindC o = .read) {h h1 : Heap} {v : Value} (hc : cop o h = some (v, h1)) : h1 = h := by
  have key : ∀ {u : Value} {g : Heap}, some (u, h) = some (v, g) → g = h := fun hc => by
    simp only [Option.some.injEq, Prod.mk.injEq] at hc; exact hc.2.symm
  have mp : ∀ {α : Type} {x : Option α} {f : α → Value}, (x.map fun a => (f a, h)) = some (v, h1) → h1 = h := fun hc => by
    simp only [Option.map_eq_some_iff, Prod.mk.injEq] at hc; obtain ⟨a, _, _, e⟩ := hc; exact e.symm
  have bd : ∀ {α : Type} {x : Option α} {f : α → Option (Value × Heap)}, (∀ a, f a = some (v, h1) → h1 = h) → x.bind f = some (v, h1) → h1 = h := fun hf hc => by
    simp only [Option.bind_eq_some_iff] at hc; obtain ⟨a, _, e⟩ := hc; exact hf a e
  cases o <;> first
    | (simp only [kindC, reduceCtorEq] at hk; done)
    | skip
  case load agg a =>
    simp only [cop] at hc
    split at hc
    · split at hc
      · exact mp hc
      · exact mp hc
    · simp at hc
  case ptrSame t n x =>
    simp only [cop] at hc
    split at hc
    · split at hc
      · split at hc
        · exact key hc
        · simp at hc
      · simp at hc
    · simp at hc
  case toStr x =>
    simp only [cop] at hc
    split at hc
    · exact key hc
    · split at hc
      · exact bd (fun a ha => mp ha) hc
      · simp at hc
    · simp at hc
  case slice t s x lo hi =>
    simp only [cop] at hc
    split at hc
    · exact bd (fun a ha => mp ha) hc
    · split at hc
      · exact bd (fun a ha => mp ha) hc
      · simp at hc
    · simp at hc
  case sliceArr n s x lo hi =>
    simp only [cop] at hc
    split at hc
    · split at hc
      · exact bd (fun a ha => mp ha) hc
      · simp at hc
    · simp at hc
  case lenMap x =>
    simp only [cop] at hc
    split at hc
    · exact key hc
    · split at hc
      · exact key hc
      · simp at hc
    · simp at hc
  case lookup kk z ok mm k =>
    simp only [cop] at hc
    split at hc
    · simp only [Option.map_eq_some_iff, Prod.mk.injEq] at hc; obtain ⟨a, _, _, e⟩ := hc; exact e.symm
    · split at hc
      · refine bd (fun a ha => ?_) hc
        simp only [Option.map_eq_some_iff] at ha
        obtain ⟨b, _, hb⟩ := ha
        cases b <;> (simp only [Prod.mk.injEq] at hb; exact hb.2.symm)
      · simp at hc
    · simp at hc

theorem kind_alloc {o : COp} (hk : kindC o = .alloc) {h h1 : Heap} {v : Value} (hc : cop o h = some (v, h1)) : ∃ ob, h1 = h.new ob ∧ ∀ h', h'.next = h.next → cop o h' = some (v, h'.new ob) := by
  cases o <;> first
    | (simp only [kindC, reduceCtorEq] at hk; done)
    | (simp only [cop, Option.some.injEq, Prod.mk.injEq] at hc
       obtain ⟨rfl, rfl⟩ := hc
       exact ⟨_, rfl, fun h' hn => by simp only [cop, hn]⟩)
    | (simp only [cop, Option.map_eq_some_iff, Prod.mk.injEq] at hc
       obtain ⟨a, ha, rfl, rfl⟩ := hc
       exact ⟨_, rfl, fun h' hn => by simp only [cop, hn, ha, Option.map_some]⟩)
    | (simp only [cop] at hc ⊢
       split at hc
       · first
         | (simp only [Option.some.injEq, Prod.mk.injEq] at hc
            obtain ⟨rfl, rfl⟩ := hc
            exact ⟨_, rfl, fun h' hn => by simp only [hn, *]⟩)
         | (split at hc
            · simp only [Option.some.injEq, Prod.mk.injEq] at hc
              obtain ⟨rfl, rfl⟩ := hc
              exact ⟨_, rfl, fun h' hn => by rw [if_pos ‹_›, hn]⟩
            · simp at hc)
       · simp at hc)

/-! ### operands alone decide -/
theorem opt_congr {ρ σ : Rho} (o : Option Operand) (h : ∀ x ∈ o.toArray, ρ x = σ x) : o.map ρ = o.map σ := by
  cases o with
  | none => rfl
  | some x => simp [h x (by simp)]
theorem list_congr {ρ σ : Rho} (l : Array Operand) (h : ∀ x ∈ l, ρ x = σ x) : l.toList.map ρ = l.toList.map σ :=
  List.map_congr_left fun x hx => h x (by simpa using hx)
theorem parts_congr {ρ σ : Rho} {β : Type} (l : Array (Nat × Operand)) (g : Nat → Value → β) (h : ∀ x ∈ (l.toList.map (·.2)).toArray, ρ x = σ x) : (l.toList.map fun (i, x) => g i (ρ x)) = (l.toList.map fun (i, x) => g i (σ x)) :=
  List.map_congr_left fun x hx => by
    obtain ⟨i, y⟩ := x
    simp only
    rw [h y (by simp only [List.mem_toArray, List.mem_map]; exact ⟨(i, y), hx, rfl⟩)]

theorem resP_congr {P : Program} (o : Oper) {ρ σ : Rho} (h : ∀ x ∈ o.op.operands, ρ x = σ x) : resP P o ρ = resP P o σ := by
  obtain ⟨dst, op, ty, pos, after, guard⟩ := o
  cases op <;> simp only [Op.operands] at h <;> first
    | rfl
    | skip
  case move x => simp only [resP, h x (by simp)]
  case assign x => simp only [resP, h x (by simp)]
  case pick a b c => simp only [resP, h a (by simp), h b (by simp), h c (by simp)]
  case box t x => simp only [resP, h x (by simp)]
  case build t ps =>
    have h1 := parts_congr ps (fun i v => (i, v)) h
    simp only [resP]
    simp only at h1
    rw [h1]
    have h2 : ∀ e : TypeId, (ps.toList.map fun (i, x) => (i * P.cellsOf e, P.cellsOf e, ρ x)) = (ps.toList.map fun (i, x) => (i * P.cellsOf e, P.cellsOf e, σ x)) := fun e => parts_congr ps (fun i v => (i * P.cellsOf e, P.cellsOf e, v)) h
    (repeat' split) <;> first | rfl | rw [h2]
  case buildSlice t n ps =>
    have h2 : ∀ e : TypeId, (ps.toList.map fun (i, x) => (i * P.cellsOf e, P.cellsOf e, ρ x)) = (ps.toList.map fun (i, x) => (i * P.cellsOf e, P.cellsOf e, σ x)) := fun e => parts_congr ps (fun i v => (i * P.cellsOf e, P.cellsOf e, v)) h
    simp only [resP, h2]
  case load t x => simp only [resP, h x (by simp)]
  case store t x y => simp only [resP, h x (by simp), h y (by simp)]
  case nilCheck x => simp only [resP, h x (by simp)]
  case binOp op t x y yt => simp only [resP, h x (by simp), h y (by simp)]
  case unOp op t x => simp only [resP, h x (by simp)]
  case convert s d x => simp only [resP, h x (by simp)]
  case makeFunc fn first captured =>
    have h1 := list_congr first fun x hx => h x (by simp [hx])
    have h2 := list_congr captured fun x hx => h x (by simp [hx])
    cases fn <;> simp only [resP, h1, h2]
  case makeMap t r =>
    cases r with
    | none => rfl
    | some x => cases x with
      | const v => cases v <;> rfl
      | _ => rfl
  case makeSlice t x y => simp only [resP, h x (by simp), h y (by simp)]
  case slice t x lo hi mx =>
    have h0 := h x (by simp)
    have h1 := opt_congr lo fun x hx => h x (by simp at hx ⊢; simp [hx])
    have h2 := opt_congr hi fun x hx => h x (by simp at hx ⊢; simp [hx])
    cases mx <;> simp only [resP, h0, h1, h2]
  case fieldAddr t x i => simp only [resP, h x (by simp)]
  case field t x i => simp only [resP, h x (by simp)]
  case indexAddr t x i => simp only [resP, h x (by simp), h i (by simp)]
  case index t x i => simp only [resP, h x (by simp), h i (by simp)]
  case lookup t x i ok => simp only [resP, h x (by simp), h i (by simp)]
  case mapUpdate t x i y => simp only [resP, h x (by simp), h i (by simp), h y (by simp)]
  case mapEntry t x i => simp only [resP, h x (by simp), h i (by simp)]
  case entryStore t x i y => simp only [resP, h x (by simp), h i (by simp), h y (by simp)]
  case range t x => simp only [resP, h x (by simp)]
  case next x b => cases b <;> simp only [resP, h x (by simp)]
  case extract x i => simp only [resP, h x (by simp)]
  case call c =>
    obtain ⟨callee, args, ts⟩ := c
    cases callee with
    | value f => rfl
    | invoke r mth => rfl
    | builtin b =>
      have ha : ∀ x ∈ args.toList, ρ x = σ x := fun x hx => h x (by simp [Call.operands]; simpa using hx)
      have hm : args.toList.map ρ = args.toList.map σ := List.map_congr_left ha
      simp only [resP]
      split <;> first
        | rfl
        | rw [hm]
        | (rename_i hargs hts
           rw [hargs] at ha
           simp only [List.mem_cons, List.not_mem_nil, or_false, forall_eq_or_imp, forall_eq] at ha
           simp only [ha])
theorem resOp_congr {P : Program} (o : Oper) {ρ σ : Rho} (h : ∀ x ∈ o.op.operands, ρ x = σ x) : resOp P o ρ = resOp P o σ := by
  have hp := resP_congr (P := P) o h
  cases hop : o.op with
  | call c =>
    obtain ⟨callee, args, ts⟩ := c
    rw [hop] at h
    simp only [Op.operands, Call.operands] at h
    cases callee with
    | value f =>
      have hf : ρ f = σ f := h f (by simp)
      have ha : args.toList.map ρ = args.toList.map σ := list_congr args fun x hx => h x (by simp [hx])
      unfold resOp
      rw [hop]
      cases f <;> simp only [ha, hf]
    | invoke r mth => unfold resOp; rw [hop]; simp only [hp]
    | builtin b => unfold resOp; rw [hop]; simp only [hp]
  | _ => unfold resOp; rw [hop]; simp only [hp]

/-! ### the canonical run, step by step -/
section
variable (P : Program) (call : CallFn) (p : Pers) (all : Array Oper) (ah : List (List Nat))

/-- What the j-th operation is, its operands put in. -/
def At (E L : Nat → Env) (j : Nat) (o : Oper) : COp := resOp P o (lookE p (E j) (L j))

structure StepT (j : Nat) (o : Oper) (E L : Nat → Env) (H : Nat → Heap) (V : Nat → Value) (R : Nat → Bool) : Prop where
  dst : dstOk p o.dst = true
  env : E (j + 1) = (putE p (E j) (L j) o.dst (V j)).1
  loc : L (j + 1) = (putE p (E j) (L j) o.dst (V j)).2
  guard : (o.guard = none ∧ R j = true) ∨ ∃ jj w t, o.guard = some (jj, w) ∧ (all[jj]?).bind (·.dst) = some t ∧ wantV (lookE p (E j) (L j) (.tmp t)) w = some (R j)
  ran : R j = true → evOp call (At P p E L j o) (H j) = some (V j, H (j + 1))
  idle : R j = false → V j = .tuple #[] ∧ H (j + 1) = H j
end

section
variable {P : Program} {call : CallFn} {p : Pers} {all : Array Oper} {ah : List (List Nat)}

theorem chks_inv {l : List Hist} {k : Reg} {h : Heap} {r : Env × Heap} (hr : evR call (chks l k) h = some r) : (∀ x ∈ l, Holds x.g h x.o x.v) ∧ evR call k h = some r := by
  induction l with
  | nil => exact ⟨fun x hx => by simp at hx, hr⟩
  | cons x l ih =>
    simp only [chks, evR] at hr
    split at hr
    · rename_i hh
      obtain ⟨h1, h2⟩ := ih hr
      exact ⟨fun y hy => by
        rcases List.mem_cons.1 hy with rfl | hy
        · exact hh
        · exact h1 y hy, h2⟩
    · simp at hr
theorem chksAt_inv {x : Hist} {l : List (Nat × Heap)} {k : Reg} {h : Heap} {r : Env × Heap} (hr : evR call (chksAt x l k) h = some r) : (∀ s ∈ l, Holds x.g s.2 x.o x.v) ∧ evR call k h = some r := by
  induction l with
  | nil => exact ⟨fun x hx => by simp at hx, hr⟩
  | cons s l ih =>
    simp only [chksAt, evR] at hr
    split at hr
    · rename_i hh
      obtain ⟨h1, h2⟩ := ih hr
      exact ⟨fun y hy => by
        rcases List.mem_cons.1 hy with rfl | hy
        · exact hh
        · exact h1 y hy, h2⟩
    · simp at hr

/-- What one operation and what is behind it come to. -/
theorem opReg_inv {o : Oper} {e l : Env} {k : Value → Reg} {h : Heap} {r : Env × Heap} (hr : evR call (opReg P p all o e l k) h = some r) :
    dstOk p o.dst = true ∧ ∃ (b : Bool) (v : Value) (h' : Heap), ((o.guard = none ∧ b = true) ∨ ∃ jj w t, o.guard = some (jj, w) ∧ (all[jj]?).bind (·.dst) = some t ∧ wantV (lookE p e l (.tmp t)) w = some b) ∧
      (b = true → evOp call (resOp P o (lookE p e l)) h = some (v, h')) ∧ (b = false → v = .tuple #[] ∧ h' = h) ∧ evR call (k v) h' = some r := by
  unfold opReg at hr
  split at hr
  case isFalse => simp [evR, evOp, cop] at hr
  rename_i hd
  refine ⟨hd, ?_⟩
  split at hr
  · rename_i hg
    simp only [evR] at hr
    split at hr
    · rename_i v h' hop
      exact ⟨true, v, h', .inl ⟨hg, rfl⟩, fun _ => hop, fun h => by simp at h, hr⟩
    · simp at hr
  · rename_i j w hg
    split at hr
    · rename_i t ht
      simp only [evR] at hr
      split at hr
      · rename_i hw
        split at hr
        · rename_i v h' hop
          exact ⟨true, v, h', .inr ⟨j, w, t, hg, ht, hw⟩, fun _ => hop, fun h => by simp at h, hr⟩
        · simp at hr
      · rename_i hw
        exact ⟨false, .tuple #[], h, .inr ⟨j, w, t, hg, ht, hw⟩, fun h => by simp at h, fun _ => ⟨rfl, rfl⟩, hr⟩
      · simp at hr
    · simp [evR, evOp, cop] at hr

/-- If the operation is wanted, what was to hold of it does. -/
theorem Holds.at {o : Oper} {e l : Env} {b : Bool} (hb : (o.guard = none ∧ b = true) ∨ ∃ jj w t, o.guard = some (jj, w) ∧ (all[jj]?).bind (·.dst) = some t ∧ wantV (lookE p e l (.tmp t)) w = some b) (ht : b = true)
    {h : Heap} {c : COp} {v : Value} (hh : Holds (guardV p all o e l) h c v) : cop c h = some (v, h) := by
  subst ht
  unfold guardV at hh
  rcases hb with ⟨hg, _⟩ | ⟨jj, w, t, hg, ht, hw⟩
  · rw [hg] at hh; exact hh
  · rw [hg] at hh
    simp only [ht] at hh
    rcases hh with h1 | h1
    · rw [hw] at h1; simp at h1
    · exact h1

/-- The canonical run of a statement: its states, and what was looked at. -/
structure Trace (P : Program) (call : CallFn) (p : Pers) (all : Array Oper) (ah : List (List Nat)) (i : Nat) (ops : List Oper) (E L : Nat → Env) (H : Nat → Heap) (V : Nat → Value) (R : Nat → Bool) : Prop where
  step : ∀ k o, ops[k]? = some o → StepT P call p all (i + k) o E L H V R
  rw : ∀ r j x y, r < j → ops[r]? = some x → ops[j]? = some y → kindC (At P p E L (i + r) x) = .read → kindC (At P p E L (i + j) y) = .write → (ah.getD (i + j) []).elem (i + r) = false → R (i + r) = true →
    cop (At P p E L (i + r) x) (H (i + j + 1)) = some (V (i + r), H (i + j + 1))
  wr : ∀ j r y x, j < r → ops[j]? = some y → ops[r]? = some x → kindC (At P p E L (i + j) y) = .write → kindC (At P p E L (i + r) x) = .read → (ah.getD (i + r) []).elem (i + j) = false → R (i + r) = true →
    cop (At P p E L (i + r) x) (H (i + j)) = some (V (i + r), H (i + j))
  ww : ∀ j r y x, j < r → ops[j]? = some y → ops[r]? = some x → kindC (At P p E L (i + j) y) = .write → kindC (At P p E L (i + r) x) = .write → (ah.getD (i + r) []).elem (i + j) = true

theorem trace_of : ∀ (ops : List Oper) (i : Nat) (e l : Env) (hist : List Hist) (snaps : List (Nat × Heap)) (h : Heap) (r : Env × Heap), evR call (toRegD P p all ah ops i e l hist snaps) h = some r →
    ∃ (E L : Nat → Env) (H : Nat → Heap) (V : Nat → Value) (R : Nat → Bool), E i = e ∧ L i = l ∧ H i = h ∧ E (i + ops.length) = r.1 ∧ H (i + ops.length) = r.2 ∧ Trace P call p all ah i ops E L H V R ∧
      (∀ x ∈ hist, ∀ k o, ops[k]? = some o → kindC (At P p E L (i + k) o) = .write → (ah.getD (i + k) []).elem x.no = false → Holds x.g (H (i + k + 1)) x.o x.v) ∧
      (∀ s ∈ snaps, ∀ k o, ops[k]? = some o → kindC (At P p E L (i + k) o) = .read → (ah.getD (i + k) []).elem s.1 = false → R (i + k) = true → cop (At P p E L (i + k) o) s.2 = some (V (i + k), s.2)) ∧
      (∀ s ∈ snaps, ∀ k o, ops[k]? = some o → kindC (At P p E L (i + k) o) = .write → (ah.getD (i + k) []).elem s.1 = true)
  | [], i, e, l, hist, snaps, h, r, hr => by
    simp only [toRegD, evR, Option.some.injEq] at hr
    subst hr
    exact ⟨fun _ => e, fun _ => l, fun _ => h, fun _ => .nilIface, fun _ => false, rfl, rfl, rfl, rfl, rfl, ⟨fun k o hk => by simp at hk, fun _ _ _ _ _ hk => by simp at hk, fun _ _ _ _ _ hk => by simp at hk, fun _ _ _ _ _ hk => by simp at hk⟩,
      fun x _ k o hk => by simp at hk, fun s _ k o hk => by simp at hk, fun s _ k o hk => by simp at hk⟩
  | o :: ops, i, e, l, hist, snaps, h, r, hr => by
    -- the first operation's state laid ahead of those behind it
    have glue : ∀ (b : Bool) (v : Value) (h' : Heap) (hist' : List Hist) (snaps' : List (Nat × Heap)), dstOk p o.dst = true →
        ((o.guard = none ∧ b = true) ∨ ∃ jj w t, o.guard = some (jj, w) ∧ (all[jj]?).bind (·.dst) = some t ∧ wantV (lookE p e l (.tmp t)) w = some b) →
        (b = true → evOp call (resOp P o (lookE p e l)) h = some (v, h')) → (b = false → v = .tuple #[] ∧ h' = h) →
        evR call (toRegD P p all ah ops (i + 1) (putE p e l o.dst v).1 (putE p e l o.dst v).2 hist' snaps') h' = some r →
        (∀ x ∈ hist, x ∈ hist') → (∀ s ∈ snaps, s ∈ snaps') →
        (kindC (resOp P o (lookE p e l)) = .read → (⟨i, guardV p all o e l, resOp P o (lookE p e l), v⟩ : Hist) ∈ hist') →
        (kindC (resOp P o (lookE p e l)) = .write → (i, h) ∈ snaps') →
        (kindC (resOp P o (lookE p e l)) = .write → ∀ x ∈ hist, (ah.getD i []).elem x.no = false → Holds x.g h' x.o x.v) →
        (kindC (resOp P o (lookE p e l)) = .read → ∀ s ∈ snaps, (ah.getD i []).elem s.1 = false → Holds (guardV p all o e l) s.2 (resOp P o (lookE p e l)) v) →
        (kindC (resOp P o (lookE p e l)) = .write → ∀ s ∈ snaps, (ah.getD i []).elem s.1 = true) →
        ∃ (E L : Nat → Env) (H : Nat → Heap) (V : Nat → Value) (R : Nat → Bool), E i = e ∧ L i = l ∧ H i = h ∧ E (i + (o :: ops).length) = r.1 ∧ H (i + (o :: ops).length) = r.2 ∧ Trace P call p all ah i (o :: ops) E L H V R ∧
          (∀ x ∈ hist, ∀ k o', (o :: ops)[k]? = some o' → kindC (At P p E L (i + k) o') = .write → (ah.getD (i + k) []).elem x.no = false → Holds x.g (H (i + k + 1)) x.o x.v) ∧
          (∀ s ∈ snaps, ∀ k o', (o :: ops)[k]? = some o' → kindC (At P p E L (i + k) o') = .read → (ah.getD (i + k) []).elem s.1 = false → R (i + k) = true → cop (At P p E L (i + k) o') s.2 = some (V (i + k), s.2)) ∧
          (∀ s ∈ snaps, ∀ k o', (o :: ops)[k]? = some o' → kindC (At P p E L (i + k) o') = .write → (ah.getD (i + k) []).elem s.1 = true) := by
      intro b v h' hist' snaps' hd hg hran hidle hrest hhi hsn hread hwrite hck1 hck2 hck3
      obtain ⟨E, L, H, V, R, q1, q2, q3, q4, q5, q6, q7, q8, q9⟩ := trace_of ops (i + 1) _ _ hist' snaps' h' r hrest
      -- the functions with i's own row
      let E' : Nat → Env := fun n => if n = i then e else E n
      let L' : Nat → Env := fun n => if n = i then l else L n
      let H' : Nat → Heap := fun n => if n = i then h else H n
      let V' : Nat → Value := fun n => if n = i then v else V n
      let R' : Nat → Bool := fun n => if n = i then b else R n
      have ei : E' i = e := if_pos rfl
      have li : L' i = l := if_pos rfl
      have hi : H' i = h := if_pos rfl
      have vi : V' i = v := if_pos rfl
      have ri : R' i = b := if_pos rfl
      have en : ∀ n, i < n → E' n = E n := fun n hn => if_neg (by omega)
      have ln : ∀ n, i < n → L' n = L n := fun n hn => if_neg (by omega)
      have hn' : ∀ n, i < n → H' n = H n := fun n hn => if_neg (by omega)
      have vn : ∀ n, i < n → V' n = V n := fun n hn => if_neg (by omega)
      have rn : ∀ n, i < n → R' n = R n := fun n hn => if_neg (by omega)
      have at0 : ∀ x, At P p E' L' i x = resOp P x (lookE p e l) := fun x => by unfold At; rw [ei, li]
      have atn : ∀ n x, i < n → At P p E' L' n x = At P p E L n x := fun n x hn => by unfold At; rw [en n hn, ln n hn]
      have hh' : H' (i + 1) = h' := by rw [hn' _ (by omega), q3]
      have sh : ∀ k : Nat, i + (k + 1) = i + 1 + k := fun k => by omega
      refine ⟨E', L', H', V', R', ei, li, hi, ?_, ?_, ⟨?_, ?_, ?_, ?_⟩, ?_, ?_, ?_⟩
      · rw [en _ (by simp)]; rw [← q4]; congr 1; simp; omega
      · rw [hn' _ (by simp)]; rw [← q5]; congr 1; simp; omega
      · intro k o' hk
        cases k with
        | zero =>
          simp only [List.getElem?_cons_zero, Option.some.injEq] at hk
          subst hk
          rw [Nat.add_zero]
          refine ⟨hd, ?_, ?_, ?_, ?_, ?_⟩
          · rw [en _ (by omega), q1, ei, li, vi]
          · rw [ln _ (by omega), q2, ei, li, vi]
          · rw [ri, ei, li]; exact hg
          · rw [ri, at0, hi, vi, hh']; exact hran
          · rw [ri, vi, hh', hi]; exact hidle
        | succ k =>
          simp only [List.getElem?_cons_succ] at hk
          have s := q6.step k o' hk
          rw [sh]
          refine ⟨s.dst, ?_, ?_, ?_, ?_, ?_⟩
          · rw [en _ (by omega), en _ (by omega), ln _ (by omega), vn _ (by omega)]; exact s.env
          · rw [ln _ (by omega), en _ (by omega), ln _ (by omega), vn _ (by omega)]; exact s.loc
          · rw [rn _ (by omega), en _ (by omega), ln _ (by omega)]; exact s.guard
          · rw [rn _ (by omega), atn _ _ (by omega), hn' _ (by omega), hn' _ (by omega), vn _ (by omega)]; exact s.ran
          · rw [rn _ (by omega), hn' _ (by omega), hn' _ (by omega), vn _ (by omega)]; exact s.idle
      · intro r0 j x y hlt hx hy hkx hky hno hr0
        obtain ⟨j, rfl⟩ : ∃ q, j = q + 1 := ⟨j - 1, by omega⟩
        simp only [List.getElem?_cons_succ] at hy
        rw [sh] at hky hno ⊢
        rw [atn _ _ (by omega)] at hky
        rw [hn' _ (by omega)]
        cases r0 with
        | zero =>
          simp only [List.getElem?_cons_zero, Option.some.injEq] at hx
          subst hx
          rw [Nat.add_zero] at hkx hno hr0 ⊢
          rw [at0] at hkx ⊢
          rw [ri] at hr0
          rw [vi]
          exact (q7 _ (hread hkx) j y hy hky hno).at hg hr0
        | succ r0 =>
          simp only [List.getElem?_cons_succ] at hx
          rw [sh] at hkx hno hr0 ⊢
          rw [atn _ _ (by omega)] at hkx ⊢
          rw [rn _ (by omega)] at hr0
          rw [vn _ (by omega)]
          exact q6.rw r0 j x y (by omega) hx hy hkx hky hno hr0
      · intro j r0 y x hlt hy hx hky hkx hno hr0
        obtain ⟨r0, rfl⟩ : ∃ q, r0 = q + 1 := ⟨r0 - 1, by omega⟩
        simp only [List.getElem?_cons_succ] at hx
        rw [sh] at hkx hno hr0 ⊢
        rw [atn _ _ (by omega)] at hkx ⊢
        rw [rn _ (by omega)] at hr0
        rw [vn _ (by omega)]
        cases j with
        | zero =>
          simp only [List.getElem?_cons_zero, Option.some.injEq] at hy
          subst hy
          simp only [Nat.add_zero] at hky hno ⊢
          rw [at0] at hky
          rw [hi]
          exact q8 (i, h) (hwrite hky) r0 x hx hkx hno hr0
        | succ j =>
          simp only [List.getElem?_cons_succ] at hy
          rw [sh j] at hky hno ⊢
          rw [atn _ _ (by omega)] at hky
          rw [hn' (i + 1 + j) (by omega)]
          exact q6.wr j r0 y x (by omega) hy hx hky hkx hno hr0
      · intro j r0 y x hlt hy hx hky hkx
        obtain ⟨r0, rfl⟩ : ∃ q, r0 = q + 1 := ⟨r0 - 1, by omega⟩
        simp only [List.getElem?_cons_succ] at hx
        rw [sh] at hkx ⊢
        rw [atn _ _ (by omega)] at hkx
        cases j with
        | zero =>
          simp only [List.getElem?_cons_zero, Option.some.injEq] at hy
          subst hy
          rw [Nat.add_zero] at hky ⊢
          rw [at0] at hky
          exact q9 (i, h) (hwrite hky) r0 x hx hkx
        | succ j =>
          simp only [List.getElem?_cons_succ] at hy
          rw [sh] at hky ⊢
          rw [atn _ _ (by omega)] at hky
          exact q6.ww j r0 y x (by omega) hy hx hky hkx
      · intro x hx k o' hk hkw hno
        cases k with
        | zero =>
          simp only [List.getElem?_cons_zero, Option.some.injEq] at hk
          subst hk
          rw [Nat.add_zero] at hkw hno ⊢
          rw [at0] at hkw
          rw [hh']
          exact hck1 hkw x hx hno
        | succ k =>
          simp only [List.getElem?_cons_succ] at hk
          rw [sh] at hkw hno ⊢
          rw [atn _ _ (by omega)] at hkw
          rw [hn' _ (by omega)]
          exact q7 x (hhi x hx) k o' hk hkw hno
      · intro s hs k o' hk hkr hno hr0
        cases k with
        | zero =>
          simp only [List.getElem?_cons_zero, Option.some.injEq] at hk
          subst hk
          rw [Nat.add_zero] at hkr hno hr0 ⊢
          rw [at0] at hkr ⊢
          rw [ri] at hr0
          rw [vi]
          exact (hck2 hkr s hs hno).at hg hr0
        | succ k =>
          simp only [List.getElem?_cons_succ] at hk
          rw [sh] at hkr hno hr0 ⊢
          rw [atn _ _ (by omega)] at hkr ⊢
          rw [rn _ (by omega)] at hr0
          rw [vn _ (by omega)]
          exact q8 s (hsn s hs) k o' hk hkr hno hr0
      · intro s hs k o' hk hkw
        cases k with
        | zero =>
          simp only [List.getElem?_cons_zero, Option.some.injEq] at hk
          subst hk
          rw [Nat.add_zero] at hkw ⊢
          rw [at0] at hkw
          exact hck3 hkw s hs
        | succ k =>
          simp only [List.getElem?_cons_succ] at hk
          rw [sh] at hkw ⊢
          rw [atn _ _ (by omega)] at hkw
          exact q9 s (hsn s hs) k o' hk hkw
    simp only [toRegD] at hr
    split at hr
    · rename_i hk
      split at hr
      · rename_i hall
        simp only [evR] at hr
        obtain ⟨hd, b, v, h', hg, hran, hidle, hrest⟩ := opReg_inv hr
        obtain ⟨hc, hrest⟩ := chks_inv hrest
        refine glue b v h' hist ((i, h) :: snaps) hd hg hran hidle hrest (fun x hx => hx) (fun s hs => List.mem_cons_of_mem _ hs) (fun hk2 => by rw [hk] at hk2; simp at hk2) (fun _ => List.mem_cons_self) (fun _ x hx hno => ?_) (fun hk2 => by rw [hk] at hk2; simp at hk2) (fun _ s hs => ?_)
        · exact hc x (List.mem_filter.2 ⟨hx, by rw [hno]; rfl⟩)
        · exact List.all_eq_true.1 hall s hs
      · simp [evR, evOp, cop] at hr
    · rename_i hk
      obtain ⟨hd, b, v, h', hg, hran, hidle, hrest⟩ := opReg_inv hr
      obtain ⟨hc, hrest⟩ := chksAt_inv hrest
      refine glue b v h' _ snaps hd hg hran hidle hrest (fun x hx => List.mem_cons_of_mem _ hx) (fun s hs => hs) (fun _ => List.mem_cons_self) (fun hk2 => by rw [hk] at hk2; simp at hk2) (fun hk2 => by rw [hk] at hk2; simp at hk2) (fun _ s hs hno => ?_) (fun hk2 => by rw [hk] at hk2; simp at hk2)
      exact hc s (List.mem_filter.2 ⟨hs, by rw [hno]; rfl⟩)
    · rename_i hk1 hk2
      obtain ⟨hd, b, v, h', hg, hran, hidle, hrest⟩ := opReg_inv hr
      exact glue b v h' hist snaps hd hg hran hidle hrest (fun x hx => hx) (fun s hs => hs) (fun hk => absurd hk hk2) (fun hk => absurd hk hk1) (fun hk => absurd hk hk1) (fun hk => absurd hk hk2) (fun hk => absurd hk hk1)
end
end Go.Proofs.Ytekojjilbchkgaa.Can
