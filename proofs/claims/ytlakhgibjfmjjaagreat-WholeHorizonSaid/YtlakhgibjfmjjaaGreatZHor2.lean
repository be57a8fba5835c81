/- Part 2 of 6 of the proof of the row RowWholeHorizon: whatever the input, the law returns true. No condition. -/
import Derived.Test.YtlakhgibjfmjjaaGreatZHor1
import Derived.Below
import Derived.ChangeArms
import Derived.Deep.Slices
import Derived.OpenShut
import Derived.RowKit
import Derived.WideShapes
set_option linter.unusedSimpArgs false
set_option linter.unusedVariables false
set_option linter.defProp false
namespace Go.Proofs.YtlakhgibjfmjjaaGreat.Can
open Go
theorem evOp_plain {call : CallFn} {o : COp} (hk : kindC o ≠ .write) (h : Heap) : evOp call o h = cop o h := by
 cases o <;> first | rfl | (exact absurd rfl hk)
theorem kind_pure {o : COp} (hk : kindC o = .pure) {h h1 : Heap} {v : Value} (hc : cop o h = some (v, h1)) : h1 = h ∧ ∀ h', cop o h' = some (v, h') := by
 cases o <;> first
  | (simp only [kindC, reduceCtorEq] at hk; done)
  | (simp only [cop] at hc ⊢; (repeat' split at hc) <;> simp_all; done)
  | (simp only [cop, Option.map_eq_some_iff, Prod.mk.injEq] at hc
     obtain ⟨a, ha, rfl, rfl⟩ := hc
     exact ⟨rfl, fun _ => by simp only [cop, ha, Option.map_some]⟩)
  | skip
 case eqAgg neg ks x y =>
  simp only [cop] at hc ⊢
  split at hc
  ·simp only [Option.map_eq_some_iff, Prod.mk.injEq] at hc
   obtain ⟨a, ha, rfl, rfl⟩ := hc
   exact ⟨rfl, fun _ => by simp only [ha, Option.map_some]⟩
  ·simp at hc
 case sliceStr x lo hi =>
  simp only [cop] at hc ⊢
  split at hc
  ·simp only [Option.bind_eq_some_iff, Option.map_eq_some_iff, Prod.mk.injEq] at hc
   obtain ⟨a, ha, b, hb, rfl, rfl⟩ := hc
   exact ⟨rfl, fun _ => by simp only [ha, hb, Option.bind_some, Option.map_some]⟩
  ·simp at hc
 case field off agg x =>
  simp only [cop] at hc ⊢
  split at hc
  ·cases agg with
   | some n =>
    simp only at hc ⊢
    split at hc
    ·rename_i hle
     simp only [Option.some.injEq, Prod.mk.injEq] at hc
     obtain ⟨rfl, rfl⟩ := hc
     exact ⟨rfl, fun _ => by rw [if_pos hle]⟩
    ·simp at hc
   | none =>
    simp only [Option.map_eq_some_iff, Prod.mk.injEq] at hc ⊢
    obtain ⟨a, ha, rfl, rfl⟩ := hc
    exact ⟨rfl, fun _ => ⟨_, ha, rfl, trivial⟩⟩
  ·simp at hc
 case indexStr x i =>
  simp only [cop] at hc ⊢
  split at hc
  ·split at hc
   ·rename_i hle
    simp only [Option.map_eq_some_iff, Prod.mk.injEq] at hc
    obtain ⟨a, ha, rfl, rfl⟩ := hc
    exact ⟨rfl, fun _ => by rw [if_pos hle, ha]; rfl⟩
   ·simp at hc
  ·simp at hc
 case indexAgg n size agg x i =>
  simp only [cop] at hc ⊢
  split at hc
  ·split at hc
   ·rename_i hj
    cases agg with
    | some n =>
     simp only at hc ⊢
     split at hc
     ·rename_i hle
      simp only [Option.some.injEq, Prod.mk.injEq] at hc
      obtain ⟨rfl, rfl⟩ := hc
      exact ⟨rfl, fun _ => by rw [if_pos hj, if_pos hle]⟩
     ·simp at hc
    | none =>
     simp only [Option.map_eq_some_iff, Prod.mk.injEq] at hc
     obtain ⟨a, ha, rfl, rfl⟩ := hc
     exact ⟨rfl, fun _ => by rw [if_pos hj]; simp only [ha, Option.map_some]⟩
   ·simp at hc
  ·simp at hc
 case extract x i =>
  simp only [cop] at hc ⊢
  split at hc
  ·split at hc
   ·rename_i hle
    split at hc
    ·rename_i b hb
     split at hc
     ·rename_i hi
      simp only [Option.some.injEq, Prod.mk.injEq] at hc
      obtain ⟨rfl, rfl⟩ := hc
      exact ⟨rfl, fun _ => by rw [if_pos hle]; simp [hb, hi]⟩
     ·simp at hc
    ·simp at hc
   ·rename_i hle
    simp only [Option.map_eq_some_iff, Prod.mk.injEq] at hc
    obtain ⟨a, ha, rfl, rfl⟩ := hc
    exact ⟨rfl, fun _ => by rw [if_neg hle, ha]; rfl⟩
  ·simp at hc
 case minmax big xs =>
  simp only [cop] at hc ⊢
  split at hc
  ·simp at hc
  ·simp only [Option.map_eq_some_iff, Prod.mk.injEq] at hc
   obtain ⟨a, ha, rfl, rfl⟩ := hc
   exact ⟨rfl, fun _ => by simp only [ha, Option.map_some]⟩
theorem kind_read {o : COp} (hk : kindC o = .read) {h h1 : Heap} {v : Value} (hc : cop o h = some (v, h1)) : h1 = h := by
 have key : ∀ {u : Value} {g : Heap}, some (u, h) = some (v, g) → g = h := fun hc => by
  simp only [Option.some.injEq, Prod.mk.injEq] at hc; exact hc.2.symm
 have mp : ∀ {α : Type} {x : Option α} {f : α → Value}, (x.map fun a => (f a, h)) = some (v, h1) → h1 = h := fun hc => by
  simp only [Option.map_eq_some_iff, Prod.mk.injEq] at hc; obtain ⟨a, _, _, e⟩ := hc; exact e.symm
 have bd : ∀ {α : Type} {x : Option α} {f : α → Option (Value × Heap)}, (∀ a, f a = some (v, h1) → h1 = h) → x.bind f = some (v, h1) → h1 = h := fun hf hc => by
  simp only [Option.bind_eq_some_iff] at hc; obtain ⟨a, _, e⟩ := hc; exact hf a e
 cases o <;> first
  | (simp only [kindC, reduceCtorEq] at hk; done)
  | skip
 case load agg a =>
  simp only [cop] at hc
  split at hc
  ·split at hc
   ·exact mp hc
   ·exact mp hc
  ·simp at hc
 case ptrSame t n x =>
  simp only [cop] at hc
  split at hc
  ·split at hc
   ·split at hc
    ·exact key hc
    ·simp at hc
   ·simp at hc
  ·simp at hc
 case toStr x =>
  simp only [cop] at hc
  split at hc
  ·exact key hc
  ·split at hc
   ·exact bd (fun a ha => mp ha) hc
   ·simp at hc
  ·simp at hc
 case slice t s x lo hi =>
  simp only [cop] at hc
  split at hc
  ·exact bd (fun a ha => mp ha) hc
  ·split at hc
   ·exact bd (fun a ha => mp ha) hc
   ·simp at hc
  ·simp at hc
 case sliceArr n s x lo hi =>
  simp only [cop] at hc
  split at hc
  ·split at hc
   ·exact bd (fun a ha => mp ha) hc
   ·simp at hc
  ·simp at hc
 case sliceArr3 n s x lo hi mx =>
  simp only [cop] at hc
  split at hc
  ·split at hc
   ·exact bd (fun a ha => bd (fun a ha => mp ha) ha) hc
   ·simp at hc
  ·simp at hc
 case lenMap x =>
  simp only [cop] at hc
  split at hc
  ·exact key hc
  ·split at hc
   ·exact key hc
   ·simp at hc
  ·simp at hc
 case lookup kk z ok mm k =>
  simp only [cop] at hc
  split at hc
  ·simp only [Option.map_eq_some_iff, Prod.mk.injEq] at hc; obtain ⟨a, _, _, e⟩ := hc; exact e.symm
  ·split at hc
   ·refine bd (fun a ha => ?_) hc
    simp only [Option.map_eq_some_iff] at ha
    obtain ⟨b, _, hb⟩ := ha
    cases b <;> (simp only [Prod.mk.injEq] at hb; exact hb.2.symm)
   ·simp at hc
  ·simp at hc
theorem kind_alloc {o : COp} (hk : kindC o = .alloc) {h h1 : Heap} {v : Value} (hc : cop o h = some (v, h1)) : ∃ ob, h1 = h.new ob ∧ ∀ h', h'.next = h.next → cop o h' = some (v, h'.new ob) := by
 cases o <;> first
  | (simp only [kindC, reduceCtorEq] at hk; done)
  | (simp only [cop, Option.some.injEq, Prod.mk.injEq] at hc
     obtain ⟨rfl, rfl⟩ := hc
     exact ⟨_, rfl, fun h' hn => by simp only [cop, hn]⟩)
  | (simp only [cop, Option.map_eq_some_iff, Prod.mk.injEq] at hc
     obtain ⟨a, ha, rfl, rfl⟩ := hc
     exact ⟨_, rfl, fun h' hn => by simp only [cop, hn, ha, Option.map_some]⟩)
  | (simp only [cop] at hc ⊢
     split at hc
     ·first
      | (simp only [Option.some.injEq, Prod.mk.injEq] at hc
         obtain ⟨rfl, rfl⟩ := hc
         exact ⟨_, rfl, fun h' hn => by simp only [hn, *]⟩)
      | (split at hc
         ·simp only [Option.some.injEq, Prod.mk.injEq] at hc
          obtain ⟨rfl, rfl⟩ := hc
          exact ⟨_, rfl, fun h' hn => by rw [if_pos ‹_›, hn]⟩
         ·simp at hc)
     ·simp at hc)
theorem opt_congr {ρ σ : Rho} (o : Option Operand) (h : ∀ x ∈ o.toArray, ρ x = σ x) : o.map ρ = o.map σ := by
 cases o with
 | none => rfl
 | some x => simp [h x (by simp)]
theorem list_congr {ρ σ : Rho} (l : Array Operand) (h : ∀ x ∈ l, ρ x = σ x) : l.toList.map ρ = l.toList.map σ :=
 List.map_congr_left fun x hx => h x (by simpa using hx)
theorem parts_congr {ρ σ : Rho} {β : Type} (l : Array (Nat × Operand)) (g : Nat → Value → β) (h : ∀ x ∈ (l.toList.map (·.2)).toArray, ρ x = σ x) : (l.toList.map fun (i, x) => g i (ρ x)) = (l.toList.map fun (i, x) => g i (σ x)) :=
 List.map_congr_left fun x hx => by
  obtain ⟨i, y⟩ := x
  simp only
  rw [h y (by simp only [List.mem_toArray, List.mem_map]; exact ⟨(i, y), hx, rfl⟩)]
theorem resP_congr {P : Program} (o : Oper) {ρ σ : Rho} (h : ∀ x ∈ o.op.operands, ρ x = σ x) : resP P o ρ = resP P o σ := by
 obtain ⟨dst, op, ty, pos, after, guard⟩ := o
 cases op <;> simp only [Op.operands] at h <;> first
  | rfl
  | skip
 case move x => simp only [resP, h x (by simp)]
 case assign x => simp only [resP, h x (by simp)]
 case pick a b c => simp only [resP, h a (by simp), h b (by simp), h c (by simp)]
 case box t x => simp only [resP, h x (by simp)]
 case build t ps =>
  have h1 := parts_congr ps (fun i v => (i, v)) h
  simp only [resP]
  simp only at h1
  rw [h1]
  have h2 : ∀ e : TypeId, (ps.toList.map fun (i, x) => (i * P.cellsOf e, P.cellsOf e, ρ x)) = (ps.toList.map fun (i, x) => (i * P.cellsOf e, P.cellsOf e, σ x)) := fun e => parts_congr ps (fun i v => (i * P.cellsOf e, P.cellsOf e, v)) h
  (repeat' split) <;> first | rfl | rw [h2]
 case buildSlice t n ps =>
  have h2 : ∀ e : TypeId, (ps.toList.map fun (i, x) => (i * P.cellsOf e, P.cellsOf e, ρ x)) = (ps.toList.map fun (i, x) => (i * P.cellsOf e, P.cellsOf e, σ x)) := fun e => parts_congr ps (fun i v => (i * P.cellsOf e, P.cellsOf e, v)) h
  simp only [resP, h2]
 case load t x => simp only [resP, h x (by simp)]
 case store t x y => simp only [resP, h x (by simp), h y (by simp)]
 case nilCheck x => simp only [resP, h x (by simp)]
 case binOp op t x y yt => simp only [resP, h x (by simp), h y (by simp)]
 case unOp op t x => simp only [resP, h x (by simp)]
 case convert s d x => simp only [resP, h x (by simp)]
 case makeFunc fn first captured =>
  have h1 := list_congr first fun x hx => h x (by simp [hx])
  have h2 := list_congr captured fun x hx => h x (by simp [hx])
  cases fn <;> simp only [resP, h1, h2]
 case makeMap t r =>
  cases r with
  | none => rfl
  | some x => cases x with
   | const v => cases v <;> rfl
   | _ => rfl
 case makeSlice t x y => simp only [resP, h x (by simp), h y (by simp)]
 case slice t x lo hi mx =>
  have h0 := h x (by simp)
  have h1 := opt_congr lo fun x hx => h x (by simp at hx ⊢; simp [hx])
  have h2 := opt_congr hi fun x hx => h x (by simp at hx ⊢; simp [hx])
  cases mx with
  | none => simp only [resP, h0, h1, h2]
  | some y => simp only [resP, h0, h1, h2, h y (by simp)]
 case makeInterface t x => simp only [resP, h x (by simp)]
 case typeAssert x a b ok => cases ok <;> simp only [resP, h x (by simp)]
 case fieldAddr t x i => simp only [resP, h x (by simp)]
 case field t x i => simp only [resP, h x (by simp)]
 case indexAddr t x i => simp only [resP, h x (by simp), h i (by simp)]
 case index t x i => simp only [resP, h x (by simp), h i (by simp)]
 case lookup t x i ok => simp only [resP, h x (by simp), h i (by simp)]
 case mapUpdate t x i y => simp only [resP, h x (by simp), h i (by simp), h y (by simp)]
 case mapEntry t x i => simp only [resP, h x (by simp), h i (by simp)]
 case entryStore t x i y => simp only [resP, h x (by simp), h i (by simp), h y (by simp)]
 case range t x => simp only [resP, h x (by simp)]
 case next x b => cases b <;> simp only [resP, h x (by simp)]
 case extract x i => simp only [resP, h x (by simp)]
 case call c =>
  obtain ⟨callee, args, ts⟩ := c
  cases callee with
  | value f => rfl
  | invoke r mth => rfl
  | builtin b =>
   have ha : ∀ x ∈ args.toList, ρ x = σ x := fun x hx => h x (by simp [Call.operands]; simpa using hx)
   have hm : args.toList.map ρ = args.toList.map σ := List.map_congr_left ha
   simp only [resP]
   split <;> first
    | rfl
    | rw [hm]
    | (rename_i hargs hts
       rw [hargs] at ha
       simp only [List.mem_cons, List.not_mem_nil, or_false, forall_eq_or_imp, forall_eq] at ha
       simp only [ha])
theorem resOp_congr {P : Program} (o : Oper) {ρ σ : Rho} (h : ∀ x ∈ o.op.operands, ρ x = σ x) : resOp P o ρ = resOp P o σ := by
 have hp := resP_congr (P := P) o h
 cases hop : o.op with
 | call c =>
  obtain ⟨callee, args, ts⟩ := c
  rw [hop] at h
  simp only [Op.operands, Call.operands] at h
  cases callee with
  | value f =>
   have hf : ρ f = σ f := h f (by simp)
   have ha : args.toList.map ρ = args.toList.map σ := list_congr args fun x hx => h x (by simp [hx])
   unfold resOp
   rw [hop]
   cases f <;> simp only [ha, hf]
  | invoke r mth =>
   have hr : ρ r = σ r := h r (by simp)
   have ha : args.toList.map ρ = args.toList.map σ := list_congr args fun x hx => h x (by simp [hx])
   unfold resOp; rw [hop]; simp only [hr, ha]
  | builtin b => unfold resOp; rw [hop]; simp only [hp]
 | _ => unfold resOp; rw [hop]; simp only [hp]
section
variable (P : Program) (call : CallFn) (p : Pers) (all : Array Oper) (ah : List (List Nat))
def At (E L : Nat → Env) (j : Nat) (o : Oper) : COp := resOp P o (lookE p (E j) (L j))
structure StepT (j : Nat) (o : Oper) (E L : Nat → Env) (H : Nat → Heap) (V : Nat → Value) (R : Nat → Bool) : Prop where
 dst : dstOk p o.dst = true
 env : E (j + 1) = (putE p (E j) (L j) o.dst (V j)).1
 loc : L (j + 1) = (putE p (E j) (L j) o.dst (V j)).2
 guard : (o.guard = none ∧ R j = true) ∨ ∃ jj w t, o.guard = some (jj, w) ∧ (all[jj]?).bind (·.dst) = some t ∧ wantV (lookE p (E j) (L j) (.tmp t)) w = some (R j)
 ran : R j = true → evOp call (At P p E L j o) (H j) = some (V j, H (j + 1))
 idle : R j = false → V j = .tuple #[] ∧ H (j + 1) = H j
end
section
variable {P : Program} {call : CallFn} {p : Pers} {all : Array Oper} {ah : List (List Nat)}
theorem chks_inv {l : List Hist} {k : Reg} {h : Heap} {r : Env × Heap} (hr : evR call (chks l k) h = some r) : (∀ x ∈ l, Holds x.g h x.o x.v) ∧ evR call k h = some r := by
 induction l with
 | nil => exact ⟨fun x hx => by simp at hx, hr⟩
 | cons x l ih =>
  simp only [chks, evR] at hr
  split at hr
  ·rename_i hh
   obtain ⟨h1, h2⟩ := ih hr
   exact ⟨fun y hy => by
    rcases List.mem_cons.1 hy with rfl | hy
    ·exact hh
    ·exact h1 y hy, h2⟩
  ·simp at hr
theorem chksAt_inv {x : Hist} {l : List (Nat × Heap)} {k : Reg} {h : Heap} {r : Env × Heap} (hr : evR call (chksAt x l k) h = some r) : (∀ s ∈ l, Holds x.g s.2 x.o x.v) ∧ evR call k h = some r := by
 induction l with
 | nil => exact ⟨fun x hx => by simp at hx, hr⟩
 | cons s l ih =>
  simp only [chksAt, evR] at hr
  split at hr
  ·rename_i hh
   obtain ⟨h1, h2⟩ := ih hr
   exact ⟨fun y hy => by
    rcases List.mem_cons.1 hy with rfl | hy
    ·exact hh
    ·exact h1 y hy, h2⟩
  ·simp at hr
theorem opReg_inv {o : Oper} {e l : Env} {k : Value → Reg} {h : Heap} {r : Env × Heap} (hr : evR call (opReg P p all o e l k) h = some r) :
  dstOk p o.dst = true ∧ ∃ (b : Bool) (v : Value) (h' : Heap), ((o.guard = none ∧ b = true) ∨ ∃ jj w t, o.guard = some (jj, w) ∧ (all[jj]?).bind (·.dst) = some t ∧ wantV (lookE p e l (.tmp t)) w = some b) ∧
   (b = true → evOp call (resOp P o (lookE p e l)) h = some (v, h')) ∧ (b = false → v = .tuple #[] ∧ h' = h) ∧ evR call (k v) h' = some r := by
 unfold opReg at hr
 split at hr
 case isFalse => simp [evR, evOp, cop] at hr
 rename_i hd
 refine ⟨hd, ?_⟩
 split at hr
 ·rename_i hg
  simp only [evR] at hr
  split at hr
  ·rename_i v h' hop
   exact ⟨true, v, h', .inl ⟨hg, rfl⟩, fun _ => hop, fun h => by simp at h, hr⟩
  ·simp at hr
 ·rename_i j w hg
  split at hr
  ·rename_i t ht
   simp only [evR] at hr
   split at hr
   ·rename_i hw
    split at hr
    ·rename_i v h' hop
     exact ⟨true, v, h', .inr ⟨j, w, t, hg, ht, hw⟩, fun _ => hop, fun h => by simp at h, hr⟩
    ·simp at hr
   ·rename_i hw
    exact ⟨false, .tuple #[], h, .inr ⟨j, w, t, hg, ht, hw⟩, fun h => by simp at h, fun _ => ⟨rfl, rfl⟩, hr⟩
   ·simp at hr
  ·simp [evR, evOp, cop] at hr
theorem Holds.at {o : Oper} {e l : Env} {b : Bool} (hb : (o.guard = none ∧ b = true) ∨ ∃ jj w t, o.guard = some (jj, w) ∧ (all[jj]?).bind (·.dst) = some t ∧ wantV (lookE p e l (.tmp t)) w = some b) (ht : b = true)
  {h : Heap} {c : COp} {v : Value} (hh : Holds (guardV p all o e l) h c v) : cop c h = some (v, h) := by
 subst ht
 unfold guardV at hh
 rcases hb with ⟨hg, _⟩ | ⟨jj, w, t, hg, ht, hw⟩
 ·rw [hg] at hh; exact hh
 ·rw [hg] at hh
  simp only [ht] at hh
  rcases hh with h1 | h1
  ·rw [hw] at h1; simp at h1
  ·exact h1
structure Trace (P : Program) (call : CallFn) (p : Pers) (all : Array Oper) (ah : List (List Nat)) (i : Nat) (ops : List Oper) (E L : Nat → Env) (H : Nat → Heap) (V : Nat → Value) (R : Nat → Bool) : Prop where
 step : ∀ k o, ops[k]? = some o → StepT P call p all (i + k) o E L H V R
 rw : ∀ r j x y, r < j → ops[r]? = some x → ops[j]? = some y → kindC (At P p E L (i + r) x) = .read → kindC (At P p E L (i + j) y) = .write → (ah.getD (i + j) []).elem (i + r) = false → R (i + r) = true →
  cop (At P p E L (i + r) x) (H (i + j + 1)) = some (V (i + r), H (i + j + 1))
 wr : ∀ j r y x, j < r → ops[j]? = some y → ops[r]? = some x → kindC (At P p E L (i + j) y) = .write → kindC (At P p E L (i + r) x) = .read → (ah.getD (i + r) []).elem (i + j) = false → R (i + r) = true →
  cop (At P p E L (i + r) x) (H (i + j)) = some (V (i + r), H (i + j))
 ww : ∀ j r y x, j < r → ops[j]? = some y → ops[r]? = some x → kindC (At P p E L (i + j) y) = .write → kindC (At P p E L (i + r) x) = .write → (ah.getD (i + r) []).elem (i + j) = true
theorem trace_of : ∀ (ops : List Oper) (i : Nat) (e l : Env) (hist : List Hist) (snaps : List (Nat × Heap)) (h : Heap) (r : Env × Heap), evR call (toRegD P p all ah ops i e l hist snaps) h = some r →
  ∃ (E L : Nat → Env) (H : Nat → Heap) (V : Nat → Value) (R : Nat → Bool), E i = e ∧ L i = l ∧ H i = h ∧ E (i + ops.length) = r.1 ∧ H (i + ops.length) = r.2 ∧ Trace P call p all ah i ops E L H V R ∧
   (∀ x ∈ hist, ∀ k o, ops[k]? = some o → kindC (At P p E L (i + k) o) = .write → (ah.getD (i + k) []).elem x.no = false → Holds x.g (H (i + k + 1)) x.o x.v) ∧
   (∀ s ∈ snaps, ∀ k o, ops[k]? = some o → kindC (At P p E L (i + k) o) = .read → (ah.getD (i + k) []).elem s.1 = false → R (i + k) = true → cop (At P p E L (i + k) o) s.2 = some (V (i + k), s.2)) ∧
   (∀ s ∈ snaps, ∀ k o, ops[k]? = some o → kindC (At P p E L (i + k) o) = .write → (ah.getD (i + k) []).elem s.1 = true)
 | [], i, e, l, hist, snaps, h, r, hr => by
  simp only [toRegD, evR, Option.some.injEq] at hr
  subst hr
  exact ⟨fun _ => e, fun _ => l, fun _ => h, fun _ => .nilIface, fun _ => false, rfl, rfl, rfl, rfl, rfl, ⟨fun k o hk => by simp at hk, fun _ _ _ _ _ hk => by simp at hk, fun _ _ _ _ _ hk => by simp at hk, fun _ _ _ _ _ hk => by simp at hk⟩,
   fun x _ k o hk => by simp at hk, fun s _ k o hk => by simp at hk, fun s _ k o hk => by simp at hk⟩
 | o :: ops, i, e, l, hist, snaps, h, r, hr => by
  have glue : ∀ (b : Bool) (v : Value) (h' : Heap) (hist' : List Hist) (snaps' : List (Nat × Heap)), dstOk p o.dst = true →
    ((o.guard = none ∧ b = true) ∨ ∃ jj w t, o.guard = some (jj, w) ∧ (all[jj]?).bind (·.dst) = some t ∧ wantV (lookE p e l (.tmp t)) w = some b) →
    (b = true → evOp call (resOp P o (lookE p e l)) h = some (v, h')) → (b = false → v = .tuple #[] ∧ h' = h) →
    evR call (toRegD P p all ah ops (i + 1) (putE p e l o.dst v).1 (putE p e l o.dst v).2 hist' snaps') h' = some r →
    (∀ x ∈ hist, x ∈ hist') → (∀ s ∈ snaps, s ∈ snaps') →
    (kindC (resOp P o (lookE p e l)) = .read → (⟨i, guardV p all o e l, resOp P o (lookE p e l), v⟩ : Hist) ∈ hist') →
    (kindC (resOp P o (lookE p e l)) = .write → (i, h) ∈ snaps') →
    (kindC (resOp P o (lookE p e l)) = .write → ∀ x ∈ hist, (ah.getD i []).elem x.no = false → Holds x.g h' x.o x.v) →
    (kindC (resOp P o (lookE p e l)) = .read → ∀ s ∈ snaps, (ah.getD i []).elem s.1 = false → Holds (guardV p all o e l) s.2 (resOp P o (lookE p e l)) v) →
    (kindC (resOp P o (lookE p e l)) = .write → ∀ s ∈ snaps, (ah.getD i []).elem s.1 = true) →
    ∃ (E L : Nat → Env) (H : Nat → Heap) (V : Nat → Value) (R : Nat → Bool), E i = e ∧ L i = l ∧ H i = h ∧ E (i + (o :: ops).length) = r.1 ∧ H (i + (o :: ops).length) = r.2 ∧ Trace P call p all ah i (o :: ops) E L H V R ∧
     (∀ x ∈ hist, ∀ k o', (o :: ops)[k]? = some o' → kindC (At P p E L (i + k) o') = .write → (ah.getD (i + k) []).elem x.no = false → Holds x.g (H (i + k + 1)) x.o x.v) ∧
     (∀ s ∈ snaps, ∀ k o', (o :: ops)[k]? = some o' → kindC (At P p E L (i + k) o') = .read → (ah.getD (i + k) []).elem s.1 = false → R (i + k) = true → cop (At P p E L (i + k) o') s.2 = some (V (i + k), s.2)) ∧
     (∀ s ∈ snaps, ∀ k o', (o :: ops)[k]? = some o' → kindC (At P p E L (i + k) o') = .write → (ah.getD (i + k) []).elem s.1 = true) := by
   intro b v h' hist' snaps' hd hg hran hidle hrest hhi hsn hread hwrite hck1 hck2 hck3
   obtain ⟨E, L, H, V, R, q1, q2, q3, q4, q5, q6, q7, q8, q9⟩ := trace_of ops (i + 1) _ _ hist' snaps' h' r hrest
   let E' : Nat → Env := fun n => if n = i then e else E n
   let L' : Nat → Env := fun n => if n = i then l else L n
   let H' : Nat → Heap := fun n => if n = i then h else H n
   let V' : Nat → Value := fun n => if n = i then v else V n
   let R' : Nat → Bool := fun n => if n = i then b else R n
   have ei : E' i = e := if_pos rfl
   have li : L' i = l := if_pos rfl
   have hi : H' i = h := if_pos rfl
   have vi : V' i = v := if_pos rfl
   have ri : R' i = b := if_pos rfl
   have en : ∀ n, i < n → E' n = E n := fun n hn => if_neg (by omega)
   have ln : ∀ n, i < n → L' n = L n := fun n hn => if_neg (by omega)
   have hn' : ∀ n, i < n → H' n = H n := fun n hn => if_neg (by omega)
   have vn : ∀ n, i < n → V' n = V n := fun n hn => if_neg (by omega)
   have rn : ∀ n, i < n → R' n = R n := fun n hn => if_neg (by omega)
   have at0 : ∀ x, At P p E' L' i x = resOp P x (lookE p e l) := fun x => by unfold At; rw [ei, li]
   have atn : ∀ n x, i < n → At P p E' L' n x = At P p E L n x := fun n x hn => by unfold At; rw [en n hn, ln n hn]
   have hh' : H' (i + 1) = h' := by rw [hn' _ (by omega), q3]
   have sh : ∀ k : Nat, i + (k + 1) = i + 1 + k := fun k => by omega
   refine ⟨E', L', H', V', R', ei, li, hi, ?_, ?_, ⟨?_, ?_, ?_, ?_⟩, ?_, ?_, ?_⟩
   ·rw [en _ (by simp)]; rw [← q4]; congr 1; simp; omega
   ·rw [hn' _ (by simp)]; rw [← q5]; congr 1; simp; omega
   ·intro k o' hk
    cases k with
    | zero =>
     simp only [List.getElem?_cons_zero, Option.some.injEq] at hk
     subst hk
     rw [Nat.add_zero]
     refine ⟨hd, ?_, ?_, ?_, ?_, ?_⟩
     ·rw [en _ (by omega), q1, ei, li, vi]
     ·rw [ln _ (by omega), q2, ei, li, vi]
     ·rw [ri, ei, li]; exact hg
     ·rw [ri, at0, hi, vi, hh']; exact hran
     ·rw [ri, vi, hh', hi]; exact hidle
    | succ k =>
     simp only [List.getElem?_cons_succ] at hk
     have s := q6.step k o' hk
     rw [sh]
     refine ⟨s.dst, ?_, ?_, ?_, ?_, ?_⟩
     ·rw [en _ (by omega), en _ (by omega), ln _ (by omega), vn _ (by omega)]; exact s.env
     ·rw [ln _ (by omega), en _ (by omega), ln _ (by omega), vn _ (by omega)]; exact s.loc
     ·rw [rn _ (by omega), en _ (by omega), ln _ (by omega)]; exact s.guard
     ·rw [rn _ (by omega), atn _ _ (by omega), hn' _ (by omega), hn' _ (by omega), vn _ (by omega)]; exact s.ran
     ·rw [rn _ (by omega), hn' _ (by omega), hn' _ (by omega), vn _ (by omega)]; exact s.idle
   ·intro r0 j x y hlt hx hy hkx hky hno hr0
    obtain ⟨j, rfl⟩ : ∃ q, j = q + 1 := ⟨j - 1, by omega⟩
    simp only [List.getElem?_cons_succ] at hy
    rw [sh] at hky hno ⊢
    rw [atn _ _ (by omega)] at hky
    rw [hn' _ (by omega)]
    cases r0 with
    | zero =>
     simp only [List.getElem?_cons_zero, Option.some.injEq] at hx
     subst hx
     rw [Nat.add_zero] at hkx hno hr0 ⊢
     rw [at0] at hkx ⊢
     rw [ri] at hr0
     rw [vi]
     exact (q7 _ (hread hkx) j y hy hky hno).at hg hr0
    | succ r0 =>
     simp only [List.getElem?_cons_succ] at hx
     rw [sh] at hkx hno hr0 ⊢
     rw [atn _ _ (by omega)] at hkx ⊢
     rw [rn _ (by omega)] at hr0
     rw [vn _ (by omega)]
     exact q6.rw r0 j x y (by omega) hx hy hkx hky hno hr0
   ·intro j r0 y x hlt hy hx hky hkx hno hr0
    obtain ⟨r0, rfl⟩ : ∃ q, r0 = q + 1 := ⟨r0 - 1, by omega⟩
    simp only [List.getElem?_cons_succ] at hx
    rw [sh] at hkx hno hr0 ⊢
    rw [atn _ _ (by omega)] at hkx ⊢
    rw [rn _ (by omega)] at hr0
    rw [vn _ (by omega)]
    cases j with
    | zero =>
     simp only [List.getElem?_cons_zero, Option.some.injEq] at hy
     subst hy
     simp only [Nat.add_zero] at hky hno ⊢
     rw [at0] at hky
     rw [hi]
     exact q8 (i, h) (hwrite hky) r0 x hx hkx hno hr0
    | succ j =>
     simp only [List.getElem?_cons_succ] at hy
     rw [sh j] at hky hno ⊢
     rw [atn _ _ (by omega)] at hky
     rw [hn' (i + 1 + j) (by omega)]
     exact q6.wr j r0 y x (by omega) hy hx hky hkx hno hr0
   ·intro j r0 y x hlt hy hx hky hkx
    obtain ⟨r0, rfl⟩ : ∃ q, r0 = q + 1 := ⟨r0 - 1, by omega⟩
    simp only [List.getElem?_cons_succ] at hx
    rw [sh] at hkx ⊢
    rw [atn _ _ (by omega)] at hkx
    cases j with
    | zero =>
     simp only [List.getElem?_cons_zero, Option.some.injEq] at hy
     subst hy
     rw [Nat.add_zero] at hky ⊢
     rw [at0] at hky
     exact q9 (i, h) (hwrite hky) r0 x hx hkx
    | succ j =>
     simp only [List.getElem?_cons_succ] at hy
     rw [sh] at hky ⊢
     rw [atn _ _ (by omega)] at hky
     exact q6.ww j r0 y x (by omega) hy hx hky hkx
   ·intro x hx k o' hk hkw hno
    cases k with
    | zero =>
     simp only [List.getElem?_cons_zero, Option.some.injEq] at hk
     subst hk
     rw [Nat.add_zero] at hkw hno ⊢
     rw [at0] at hkw
     rw [hh']
     exact hck1 hkw x hx hno
    | succ k =>
     simp only [List.getElem?_cons_succ] at hk
     rw [sh] at hkw hno ⊢
     rw [atn _ _ (by omega)] at hkw
     rw [hn' _ (by omega)]
     exact q7 x (hhi x hx) k o' hk hkw hno
   ·intro s hs k o' hk hkr hno hr0
    cases k with
    | zero =>
     simp only [List.getElem?_cons_zero, Option.some.injEq] at hk
     subst hk
     rw [Nat.add_zero] at hkr hno hr0 ⊢
     rw [at0] at hkr ⊢
     rw [ri] at hr0
     rw [vi]
     exact (hck2 hkr s hs hno).at hg hr0
    | succ k =>
     simp only [List.getElem?_cons_succ] at hk
     rw [sh] at hkr hno hr0 ⊢
     rw [atn _ _ (by omega)] at hkr ⊢
     rw [rn _ (by omega)] at hr0
     rw [vn _ (by omega)]
     exact q8 s (hsn s hs) k o' hk hkr hno hr0
   ·intro s hs k o' hk hkw
    cases k with
    | zero =>
     simp only [List.getElem?_cons_zero, Option.some.injEq] at hk
     subst hk
     rw [Nat.add_zero] at hkw ⊢
     rw [at0] at hkw
     exact hck3 hkw s hs
    | succ k =>
     simp only [List.getElem?_cons_succ] at hk
     rw [sh] at hkw ⊢
     rw [atn _ _ (by omega)] at hkw
     exact q9 s (hsn s hs) k o' hk hkw
  simp only [toRegD] at hr
  split at hr
  ·rename_i hk
   split at hr
   ·rename_i hall
    simp only [evR] at hr
    obtain ⟨hd, b, v, h', hg, hran, hidle, hrest⟩ := opReg_inv hr
    obtain ⟨hc, hrest⟩ := chks_inv hrest
    refine glue b v h' hist ((i, h) :: snaps) hd hg hran hidle hrest (fun x hx => hx) (fun s hs => List.mem_cons_of_mem _ hs) (fun hk2 => by rw [hk] at hk2; simp at hk2) (fun _ => List.mem_cons_self) (fun _ x hx hno => ?_) (fun hk2 => by rw [hk] at hk2; simp at hk2) (fun _ s hs => ?_)
    ·exact hc x (List.mem_filter.2 ⟨hx, by rw [hno]; rfl⟩)
    ·exact List.all_eq_true.1 hall s hs
   ·simp [evR, evOp, cop] at hr
  ·rename_i hk
   obtain ⟨hd, b, v, h', hg, hran, hidle, hrest⟩ := opReg_inv hr
   obtain ⟨hc, hrest⟩ := chksAt_inv hrest
   refine glue b v h' _ snaps hd hg hran hidle hrest (fun x hx => List.mem_cons_of_mem _ hx) (fun s hs => hs) (fun _ => List.mem_cons_self) (fun hk2 => by rw [hk] at hk2; simp at hk2) (fun hk2 => by rw [hk] at hk2; simp at hk2) (fun _ s hs hno => ?_) (fun hk2 => by rw [hk] at hk2; simp at hk2)
   exact hc s (List.mem_filter.2 ⟨hs, by rw [hno]; rfl⟩)
  ·rename_i hk1 hk2
   obtain ⟨hd, b, v, h', hg, hran, hidle, hrest⟩ := opReg_inv hr
   exact glue b v h' hist snaps hd hg hran hidle hrest (fun x hx => hx) (fun s hs => hs) (fun hk => absurd hk hk2) (fun hk => absurd hk hk1) (fun hk => absurd hk hk1) (fun hk => absurd hk hk2) (fun hk => absurd hk hk1)
end
end Go.Proofs.YtlakhgibjfmjjaaGreat.Can
namespace Go.Proofs.YtlakhgibjfmjjaaGreat.Can
open Go
def Heap.Wf (h : Heap) : Prop := ∀ b, h.next ≤ b → h.obj b = .gone
def Beh (S : Stay) (m : Map) (A G : Heap) : Stay := ⟨S.keep, fun k => S.far k ∨ ∃ b L, m b = some L ∧ L.blk = k ∧ (A.obj b).live = true ∧ G.obj b = .gone⟩
theorem Emb.view {P : Program} {S : Stay} {m : Map} {A G : Heap} {w : World} (e : Emb P S m A w) (hv : ∀ b, m b ≠ none → G.obj b = .gone ∨ G.obj b = A.obj b) (hw : G.Wf) : Emb P (Beh S m A G) m G w := by
 have lv : ∀ b L, m b = some L → (G.obj b).live = true → G.obj b = A.obj b := fun b L hb hl => by
  rcases hv b (by simp [hb]) with h | h
  ·rw [h] at hl; simp [Obj.live] at hl
  ·exact h
 refine ⟨fun b L hb hl => e.lt b L hb (by rw [← lv b L hb hl]; exact hl), fun b c L K hb hc hlb hlc heq => ?_, fun b L hb => ?_, fun b L hb hwr => ?_, fun b L hb hl hs => ?_, fun k hk => ?_, hw⟩
 ·exact e.inj b c L K hb hc (by rw [← lv b L hb hlb]; exact hlb) (by rw [← lv c K hc hlc]; exact hlc) heq
 ·rcases hv b (by simp [hb]) with h | h
  ·rw [h]; trivial
  ·rw [h]; exact e.obj b L hb
 ·rcases hv b (by simp [hb]) with h | h
  ·rw [h] at hwr; simp [Obj.wr] at hwr
  ·rw [h] at hwr; exact e.prot b L hb hwr
 ·have hA : (A.obj b).live = true := by rw [← lv b L hb hl]; exact hl
  rcases hs with hs | ⟨c, K, hc, hk, hlc, hg⟩
  ·exact e.far b L hb hA hs
  ·have := e.inj b c L K hb hc hA hlc hk.symm
   subst this
   rw [hg] at hl; simp [Obj.live] at hl
 ·rcases hk with hk | hk | ⟨b, L, hb, rfl, hl, _⟩
  ·exact e.sLt k (.inl hk)
  ·exact e.sLt k (.inr hk)
  ·exact e.lt b L hb hl
theorem Emb.same {P : Program} {S : Stay} {m : Map} {A G : Heap} {w : World} (e : Emb P S m A w) (hv : ∀ b, m b ≠ none → G.obj b = A.obj b) (hw : G.Wf) : Emb P S m G w := by
 have lv : ∀ b L, m b = some L → G.obj b = A.obj b := fun b L hb => hv b (by simp [hb])
 refine ⟨fun b L hb hl => e.lt b L hb (by rw [lv b L hb] at hl; exact hl), fun b c L K hb hc hlb hlc heq => ?_, fun b L hb => ?_, fun b L hb hwr => ?_, fun b L hb hl => ?_, e.sLt, hw⟩
 ·rw [lv b L hb] at hlb; rw [lv c K hc] at hlc; exact e.inj b c L K hb hc hlb hlc heq
 ·rw [lv b L hb]; exact e.obj b L hb
 ·rw [lv b L hb] at hwr; exact e.prot b L hb hwr
 ·rw [lv b L hb] at hl; exact e.far b L hb hl
theorem Emb.back {P : Program} {S : Stay} {m m1 : Map} {A A1 G G1 : Heap} {w w1 : World} (e : Emb P S m A w) (o : Out P (Beh S m A G) m G w m1 G1 w1)
  (hA : ∀ b, m1 b ≠ none → A1.obj b = G1.obj b ∨ (m b ≠ none ∧ A1.obj b = A.obj b ∧ G.obj b = .gone)) (hw : A1.Wf) : Emb P S m1 A1 w1 := by
 have old : ∀ b L, m1 b = some L → m b ≠ none → m b = some L := fun b L hb hm => by
  cases hq : m b with
  | none => exact absurd hq hm
  | some K => have := o.ext b K hq; rw [hb] at this; exact this.symm
 have hid : ∀ b L, m b = some L → (A.obj b).live = true → G.obj b = .gone → (Beh S m A G).far L.blk := fun b L hb hl hg => .inr ⟨b, L, hb, rfl, hl, hg⟩
 refine ⟨fun b L hb hl => ?_, fun b c L K hb hc hlb hlc heq => ?_, fun b L hb => ?_, fun b L hb hwr => ?_, fun b L hb hl => ?_, fun k hk => Nat.lt_of_lt_of_le (e.sLt k hk) o.wd.size, hw⟩
 ·rcases hA b (by simp [hb]) with h1 | ⟨h1, h2, h3⟩
  ·rw [h1] at hl; exact o.emb.lt b L hb hl
  ·rw [h2] at hl; exact Nat.lt_of_lt_of_le (e.lt b L (old b L hb h1) hl) o.wd.size
 ·rcases hA b (by simp [hb]) with h1 | ⟨h1, h2, h3⟩
  ·rcases hA c (by simp [hc]) with k1 | ⟨k1, k2, k3⟩
   ·rw [h1] at hlb; rw [k1] at hlc; exact o.emb.inj b c L K hb hc hlb hlc heq
   ·exfalso
    rw [h1] at hlb; rw [k2] at hlc
    exact o.emb.far b L hb hlb (heq ▸ hid c K (old c K hc k1) hlc k3)
  ·rcases hA c (by simp [hc]) with k1 | ⟨k1, k2, k3⟩
   ·exfalso
    rw [h2] at hlb; rw [k1] at hlc
    exact o.emb.far c K hc hlc (heq ▸ hid b L (old b L hb h1) hlb h3)
   ·rw [h2] at hlb; rw [k2] at hlc
    exact e.inj b c L K (old b L hb h1) (old c K hc k1) hlb hlc heq
 ·rcases hA b (by simp [hb]) with h1 | ⟨h1, h2, h3⟩
  ·rw [h1]; exact o.emb.obj b L hb
  ·rw [h2]
   by_cases hl : (A.obj b).live = true
   ·exact ((e.obj b L (old b L hb h1)).of_block (o.wd.block _ (.inr (hid b L (old b L hb h1) hl h3)))).ext o.ext
   ·cases hx : A.obj b with
    | gone => trivial
    | _ => rw [hx] at hl; exact absurd rfl hl
 ·rcases hA b (by simp [hb]) with h1 | ⟨h1, h2, h3⟩
  ·rw [h1] at hwr; exact o.emb.prot b L hb hwr
  ·rw [h2] at hwr; exact e.prot b L (old b L hb h1) hwr
 ·rcases hA b (by simp [hb]) with h1 | ⟨h1, h2, h3⟩
  ·rw [h1] at hl; exact fun hs => o.emb.far b L hb hl (.inl hs)
  ·rw [h2] at hl; exact e.far b L (old b L hb h1) hl
theorem Wd.beh {S : Stay} {m : Map} {A G : Heap} {w w1 : World} (h : Wd (Beh S m A G) w w1) : Wd S w w1 :=
 ⟨h.os, h.tape, h.output, h.size, fun k hk => h.block k (hk.imp id .inl)⟩
def Orig (H : Nat → Heap) : Nat → Nat → Obj
 | 0, b => (H 0).obj b
 | n + 1, b => if b < (H n).next then Orig H n b else (H (n + 1)).obj b
def Cur (H : Nat → Heap) (N q b : Nat) : Obj := if b < (H q).next then (H q).obj b else if b < (H N).next then Orig H N b else .gone
def AH (H : Nat → Heap) (N q : Nat) (m : Map) : Heap := ⟨fun b => if (m b).isNone then .gone else Cur H N q b, (H N).next⟩
section
variable {P : Program} {call : CallFn} {p : Pers} {ops : Array Oper} {ah : List (List Nat)} {E L : Nat → Env} {H : Nat → Heap} {V : Nat → Value} {R : Nat → Bool}
theorem Trace.st (T : Trace P call p ops ah 0 ops.toList E L H V R) {j : Nat} {o : Oper} (hj : ops[j]? = some o) : StepT P call p ops j o E L H V R := by
 have := T.step j o (by simpa using hj)
 simpa using this
theorem Trace.rw0 (T : Trace P call p ops ah 0 ops.toList E L H V R) {r j : Nat} {x y : Oper} (hlt : r < j) (hr : ops[r]? = some x) (hj : ops[j]? = some y)
  (h1 : kindC (At P p E L r x) = .read) (h2 : kindC (At P p E L j y) = .write) (h3 : (ah.getD j []).elem r = false) (h4 : R r = true) : cop (At P p E L r x) (H (j + 1)) = some (V r, H (j + 1)) := by
 have := T.rw r j x y hlt (by simpa using hr) (by simpa using hj)
 simp only [Nat.zero_add] at this
 exact this h1 h2 h3 h4
theorem Trace.wr0 (T : Trace P call p ops ah 0 ops.toList E L H V R) {j r : Nat} {y x : Oper} (hlt : j < r) (hj : ops[j]? = some y) (hr : ops[r]? = some x)
  (h1 : kindC (At P p E L j y) = .write) (h2 : kindC (At P p E L r x) = .read) (h3 : (ah.getD r []).elem j = false) (h4 : R r = true) : cop (At P p E L r x) (H j) = some (V r, H j) := by
 have := T.wr j r y x hlt (by simpa using hj) (by simpa using hr)
 simp only [Nat.zero_add] at this
 exact this h1 h2 h3 h4
theorem Trace.ww0 (T : Trace P call p ops ah 0 ops.toList E L H V R) {j r : Nat} {y x : Oper} (hlt : j < r) (hj : ops[j]? = some y) (hr : ops[r]? = some x)
  (h1 : kindC (At P p E L j y) = .write) (h2 : kindC (At P p E L r x) = .write) : (ah.getD r []).elem j = true := by
 have := T.ww j r y x hlt (by simpa using hj) (by simpa using hr)
 simp only [Nat.zero_add] at this
 exact this h1 h2
theorem op_of_lt {j : Nat} (h : j < ops.size) : ∃ o, ops[j]? = some o := ⟨ops[j], Array.getElem?_eq_getElem h⟩
theorem lt_of_op {j : Nat} {o : Oper} (h : ops[j]? = some o) : j < ops.size := (Array.getElem?_eq_some_iff.1 h).1
theorem Trace.next1 (T : Trace P call p ops ah 0 ops.toList E L H V R) (hcall : CallsOK P call) {j : Nat} (hj : j < ops.size) : (H j).next ≤ (H (j + 1)).next := by
 obtain ⟨o, ho⟩ := op_of_lt hj
 have s := T.st ho
 cases hr : R j with
 | true => exact evOp_next hcall (s.ran hr)
 | false => rw [(s.idle hr).2]; exact Nat.le_refl _
theorem Trace.nexts (T : Trace P call p ops ah 0 ops.toList E L H V R) (hcall : CallsOK P call) {i : Nat} : ∀ {n : Nat}, i ≤ n → n ≤ ops.size → (H i).next ≤ (H n).next
 | 0, h, _ => by rw [Nat.le_zero.1 h]; exact Nat.le_refl _
 | n + 1, h, hn => by
  rcases Nat.lt_or_ge i (n + 1) with h1 | h1
  ·exact Nat.le_trans (Trace.nexts T hcall (Nat.le_of_lt_succ h1) (by omega)) (T.next1 hcall (by omega))
  ·rw [Nat.le_antisymm h h1]; exact Nat.le_refl _
theorem Trace.quiet (T : Trace P call p ops ah 0 ops.toList E L H V R) {j : Nat} {o : Oper} (hj : ops[j]? = some o) (hk : kindC (At P p E L j o) ≠ .write) : H (j + 1) = H j ∨ ∃ ob, H (j + 1) = (H j).new ob := by
 have s := T.st hj
 cases hr : R j with
 | false => exact .inl (s.idle hr).2
 | true =>
  have hc := s.ran hr
  rw [evOp_plain hk] at hc
  cases hq : kindC (At P p E L j o) with
  | write => exact absurd hq hk
  | read => exact .inl (kind_read hq hc)
  | pure => exact .inl (kind_pure hq hc).1
  | alloc => obtain ⟨ob, h1, _⟩ := kind_alloc hq hc; exact .inr ⟨ob, h1⟩
def NW (P : Program) (p : Pers) (ops : Array Oper) (E L : Nat → Env) (q n : Nat) : Prop := ∀ i o, q ≤ i → i < n → ops[i]? = some o → kindC (At P p E L i o) ≠ .write
theorem orig_stays (T : Trace P call p ops ah 0 ops.toList E L H V R) (hcall : CallsOK P call) {b n : Nat} (hb : b < (H n).next) : ∀ {k : Nat}, n ≤ k → k ≤ ops.size → Orig H k b = Orig H n b
 | 0, h, _ => by rw [Nat.le_zero.1 h]
 | k + 1, h, hk => by
  rcases Nat.lt_or_ge n (k + 1) with h1 | h1
  ·have hlt := Nat.lt_of_lt_of_le hb (T.nexts hcall (Nat.le_of_lt_succ h1) (by omega))
   simp only [Orig, if_pos hlt]
   exact orig_stays T hcall hb (Nat.le_of_lt_succ h1) (by omega)
  ·rw [Nat.le_antisymm h h1]
theorem cur_of (T : Trace P call p ops ah 0 ops.toList E L H V R) (hcall : CallsOK P call) {q b : Nat} : ∀ {n : Nat}, q ≤ n → n ≤ ops.size → NW P p ops E L q n → b < (H n).next → (H n).obj b = Cur H ops.size q b := by
 have key : ∀ {n : Nat}, q ≤ n → n ≤ ops.size → NW P p ops E L q n → b < (H n).next → (H n).obj b = if b < (H q).next then (H q).obj b else Orig H n b := by
  intro n
  induction n with
  | zero =>
   intro hq _ _ hb
   have hq0 : q = 0 := by omega
   subst hq0; rw [if_pos hb]
  | succ n ih =>
   intro hq hn hnw hb
   rcases Nat.lt_or_ge q (n + 1) with h1 | h1
   ·obtain ⟨o, ho⟩ := op_of_lt (ops := ops) (j := n) (by omega)
    have hk := hnw n o (by omega) (by omega) ho
    have hq1 : (H (n + 1)).obj b = (H n).obj b ∨ ¬ b < (H n).next := by
     rcases T.quiet ho hk with h | ⟨ob, h⟩
     ·left; rw [h]
     ·by_cases hlt : b < (H n).next
      ·left; rw [h]; simp only [Heap.new]; rw [if_neg (by omega)]
      ·exact .inr hlt
    by_cases hlt : b < (H n).next
    ·rcases hq1 with h | h
     ·rw [h, ih (by omega) (by omega) (fun i o h1 h2 => hnw i o h1 (by omega)) hlt]
      simp only [Orig, if_pos hlt]
     ·exact absurd hlt h
    ·have hqn := T.nexts hcall (i := q) (n := n) (by omega) (by omega)
     rw [if_neg (by omega)]
     simp only [Orig, if_neg hlt]
   ·have : q = n + 1 := by omega
    subst this; rw [if_pos hb]
 intro n hq hn hnw hb
 rw [key hq hn hnw hb]
 unfold Cur
 have hlt := Nat.lt_of_lt_of_le hb (T.nexts hcall hn (Nat.le_refl _))
 rw [if_pos hlt, orig_stays T hcall hb hn (Nat.le_refl _)]
theorem wf_of (T : Trace P call p ops ah 0 ops.toList E L H V R) {q : Nat} (hw : (H q).Wf) : ∀ {n : Nat}, q ≤ n → n ≤ ops.size → NW P p ops E L q n → (H n).Wf := by
 intro n
 induction n with
 | zero =>
  intro hq _ _
  have hq0 : q = 0 := by omega
  subst hq0; exact hw
 | succ n ih =>
  intro hq hn hnw
  rcases Nat.lt_or_ge q (n + 1) with h1 | h1
  ·obtain ⟨o, ho⟩ := op_of_lt (ops := ops) (j := n) (by omega)
   have hk := hnw n o (by omega) (by omega) ho
   have i := ih (by omega) (by omega) fun i o h1 h2 => hnw i o h1 (by omega)
   rcases T.quiet ho hk with h | ⟨ob, h⟩
   ·rw [h]; exact i
   ·rw [h]; intro b hb
    have hb2 : (H n).next + 1 ≤ b := hb
    simp only [Heap.new]; rw [if_neg (by omega)]; exact i b (by omega)
  ·have : q = n + 1 := by omega
   subst this; exact hw
end
end Go.Proofs.YtlakhgibjfmjjaaGreat.Can
namespace Go.Proofs.YtlakhgibjfmjjaaGreat.Can
open Go
section
variable {P : Program} {call : CallFn} {p : Pers} {ops : Array Oper} {ah : List (List Nat)} {E L : Nat → Env} {H : Nat → Heap} {V : Nat → Value} {R : Nat → Bool}
structure Ctl (P : Program) (p : Pers) (ops : Array Oper) (ah : List (List Nat)) (E L : Nat → Env) (D : Nat → Prop) (q : Nat) : Prop where
 closed : ∀ j, D j → ∀ i, (ah.getD j []).elem i = true → D i
 lt : ∀ j, D j → j < ops.size
 wq : ∀ j o, ops[j]? = some o → kindC (At P p E L j o) = .write → (D j ↔ j < q)
 qw : q = 0 ∨ ∃ j o, q = j + 1 ∧ ops[j]? = some o ∧ kindC (At P p E L j o) = .write ∧ D j
def qNext (P : Program) (p : Pers) (E L : Nat → Env) (o : Oper) (j q : Nat) : Nat := if kindC (At P p E L j o) = .write then j + 1 else q
theorem Ctl.qle {D : Nat → Prop} {q : Nat} (c : Ctl P p ops ah E L D q) : q ≤ ops.size := by
 rcases c.qw with h | ⟨j, o, rfl, ho, _⟩
 ·omega
 ·exact lt_of_op ho
theorem Ctl.step (T : Trace P call p ops ah 0 ops.toList E L H V R) {D : Nat → Prop} {q : Nat} (c : Ctl P p ops ah E L D q) {j : Nat} {o : Oper} (hj : ops[j]? = some o) (hD : ¬ D j) (hah : ∀ i, (ah.getD j []).elem i = true → D i) :
  Ctl P p ops ah E L (fun i => i = j ∨ D i) (qNext P p E L o j q) := by
 refine ⟨fun i hi k hk => ?_, fun i hi => ?_, fun i x hx hw => ?_, ?_⟩
 ·rcases hi with rfl | hi
  ·exact .inr (hah k hk)
  ·exact .inr (c.closed i hi k hk)
 ·rcases hi with rfl | hi
  ·exact lt_of_op hj
  ·exact c.lt i hi
 ·unfold qNext
  by_cases hij : i = j
  ·subst hij
   rw [hj] at hx; obtain rfl := Option.some.inj hx
   rw [if_pos hw]
   simp
  ·split
   ·rename_i hk
    constructor
    ·rintro (h | h)
     ·exact absurd h hij
     ·rcases Nat.lt_or_ge i j with h1 | h1
      ·omega
      ·exact absurd (c.closed i h j (T.ww0 (by omega) hj hx hk hw)) hD
    ·intro h
     exact .inr (hah i (T.ww0 (by omega) hx hj hw hk))
   ·rw [← c.wq i x hx hw]
    constructor
    ·rintro (h | h)
     ·exact absurd h hij
     ·exact h
    ·exact .inr
 ·unfold qNext
  split
  ·rename_i hk
   exact .inr ⟨j, o, rfl, hj, hk, .inl rfl⟩
  ·rcases c.qw with h | ⟨i, x, h1, h2, h3, h4⟩
   ·exact .inl h
   ·exact .inr ⟨i, x, h1, h2, h3, .inr h4⟩
theorem Ctl.ahead (T : Trace P call p ops ah 0 ops.toList E L H V R) {D : Nat → Prop} {q : Nat} (c : Ctl P p ops ah E L D q) {j : Nat} {o : Oper} (hj : ops[j]? = some o) (hD : ¬ D j) (hah : ∀ i, (ah.getD j []).elem i = true → D i)
  (hk : kindC (At P p E L j o) = .write) : q ≤ j ∧ NW P p ops E L q j := by
 refine ⟨?_, fun i x h1 h2 hx hw => ?_⟩
 ·rcases Nat.lt_or_ge j q with h | h
  ·exact absurd ((c.wq j o hj hk).2 h) hD
  ·exact h
 ·have := (c.wq i x hx hw).1 (hah i (T.ww0 h2 hx hj hw hk))
  omega
theorem putE_look (p : Pers) (e l : Env) (d : Option Tmp) (v : Value) (t : Nat) : lookT p (putE p e l d v).1 (putE p e l d v).2 t = if d = some t then v else lookT p e l t := by
 cases d with
 | none => simp [putE]
 | some s =>
  unfold putE lookT
  by_cases hs : p.has s = true
  ·simp only [hs, if_true]
   by_cases ht : s = t
   ·subst ht; simp [hs, Env.upd]
   ·have : t ≠ s := fun h => ht h.symm
    simp only [Env.upd, this, if_false, Option.some.injEq, ht]
  ·simp only [hs, Bool.false_eq_true, if_false]
   by_cases ht : s = t
   ·subst ht; simp [hs, Env.upd]
   ·have : t ≠ s := fun h => ht h.symm
    simp only [Env.upd, this, if_false, Option.some.injEq, ht]
theorem look_stays (T : Trace P call p ops ah 0 ops.toList E L H V R) {t a : Nat} : ∀ {n : Nat}, a ≤ n → n ≤ ops.size → (∀ i o, a ≤ i → i < n → ops[i]? = some o → o.dst ≠ some t) → lookT p (E n) (L n) t = lookT p (E a) (L a) t
 | 0, h, _, _ => by rw [Nat.le_zero.1 h]
 | n + 1, h, hn, hno => by
  rcases Nat.lt_or_ge a (n + 1) with h1 | h1
  ·obtain ⟨o, ho⟩ := op_of_lt (ops := ops) (j := n) (by omega)
   have s := T.st ho
   rw [s.env, s.loc, putE_look, if_neg (hno n o (by omega) (by omega) ho)]
   exact look_stays T (by omega) (by omega) fun i o h1 h2 => hno i o h1 (by omega)
  ·rw [Nat.le_antisymm h h1]
theorem put_getD {a : Act} {d : Option Tmp} {v : Value} (hs : p.size ≤ a.tmps.size) (hd : dstOk p d = true) (x : Nat) : (a.put d v).tmps.getD x undef = if d = some x then v else a.tmps.getD x undef := by
 cases d with
 | none => simp [Act.put]
 | some t =>
  have ht : t < p.size := by simpa [dstOk, Nat.blt_eq] using hd
  simp only [Act.put, Array.getD_eq_getD_getElem?, Option.some.injEq]
  by_cases hx : t = x
  ·subst hx
   rw [if_pos rfl, Array.getElem?_setIfInBounds_self_of_lt (Nat.lt_of_lt_of_le ht hs)]; rfl
  ·rw [if_neg hx, Array.getElem?_setIfInBounds_ne hx]
structure Sl (p : Pers) (ops : Array Oper) (E L : Nat → Env) (D : Nat → Prop) (m : Map) (a : Act) : Prop where
 rel : ∀ t n, n ≤ ops.size → (∀ i o, ops[i]? = some o → o.dst = some t → (D i ↔ i < n)) → VR m (lookT p (E n) (L n) t) (a.tmps.getD t undef)
 size : p.size ≤ a.tmps.size
 defers : a.defers = p.ds
def Apart (ops : Array Oper) (ah : List (List Nat)) : Prop := ∀ j y, ops[j]? = some y → ∀ i x, i < j → ops[i]? = some x → (ah.getD j []).elem i = true ∨ x.apart ops y = true
theorem apart_of (h : apartOk ops ah = true) : Apart ops ah := by
 intro j y hj i x hij hi
 unfold apartOk at h
 have h1 := List.all_eq_true.1 h j (List.mem_range.2 (lt_of_op hj))
 have h2 := List.all_eq_true.1 h1 i (List.mem_range.2 hij)
 rw [hi, hj] at h2
 simpa using h2
theorem Sl.step (T : Trace P call p ops ah 0 ops.toList E L H V R) (hap : Apart ops ah) {D : Nat → Prop} (hcl : ∀ j, D j → ∀ i, (ah.getD j []).elem i = true → D i) {m m1 : Map} {a : Act} (s : Sl p ops E L D m a) (hx : Ext m m1)
  {j : Nat} {o : Oper} (hj : ops[j]? = some o) (hD : ¬ D j) {v' : Value} (hv : VR m1 (V j) v') : Sl p ops E L (fun i => i = j ∨ D i) m1 (a.put o.dst v') := by
 have hst := T.st hj
 refine ⟨fun t n hn hc => ?_, ?_, ?_⟩
 ·rw [put_getD s.size hst.dst]
  by_cases hd : o.dst = some t
  ·rw [if_pos hd]
   have hjn : j < n := (hc j o hj hd).1 (.inl rfl)
   have hno : ∀ i x, j + 1 ≤ i → i < n → ops[i]? = some x → x.dst ≠ some t := by
    intro i x h1 h2 hi hdx
    have hDi : D i := by
     rcases (hc i x hi hdx).2 h2 with h | h
     ·omega
     ·exact h
    rcases hap i x hi j o (by omega) hj with h | h
    ·exact hD (hcl i hDi j h)
    ·exact (Oper.apart_spec h).2.1 t hd hdx
   rw [look_stays T (by omega) hn hno, hst.env, hst.loc, putE_look, if_pos hd]
   exact hv
  ·rw [if_neg hd]
   refine (s.rel t n hn fun i x hi hdx => ?_).ext hx
   have hij : i ≠ j := by
    intro h; subst h; rw [hj] at hi; obtain rfl := Option.some.inj hi; exact hd hdx
   rw [← hc i x hi hdx]
   exact ⟨.inr, fun h => h.resolve_left hij⟩
 ·cases hd : o.dst with
  | none => exact s.size
  | some t => simp only [Act.put, Array.size_setIfInBounds]; exact s.size
 ·cases o.dst <;> exact s.defers
theorem Sl.at (T : Trace P call p ops ah 0 ops.toList E L H V R) (hap : Apart ops ah) {D : Nat → Prop} (hcl : ∀ j, D j → ∀ i, (ah.getD j []).elem i = true → D i) {m : Map} {a : Act} (s : Sl p ops E L D m a)
  {j : Nat} {o : Oper} (hj : ops[j]? = some o) (hD : ¬ D j) (hah : ∀ i, (ah.getD j []).elem i = true → D i) {t : Nat} (ht : t ∈ o.looksAt ops) : VR m (lookT p (E j) (L j) t) (a.tmps.getD t undef) := by
 refine s.rel t j (Nat.le_of_lt (lt_of_op hj)) fun i x hi hd => ?_
 rcases Nat.lt_trichotomy i j with h | h | h
 ·refine ⟨fun _ => h, fun _ => ?_⟩
  rcases hap j o hj i x h hi with h1 | h1
  ·exact hah i h1
  ·exact absurd ht ((Oper.apart_spec h1).1 t hd)
 ·subst h; exact ⟨fun h => absurd h hD, fun h => absurd h (Nat.lt_irrefl _)⟩
 ·refine ⟨fun hDi => ?_, fun h1 => by omega⟩
  rcases hap i x hi j o h hj with h1 | h1
  ·exact absurd (hcl i hDi j h1) hD
  ·exact absurd ht ((Oper.apart_spec h1).2.2 t hd)
structure Hp (P : Program) (S : Stay) (ops : Array Oper) (H : Nat → Heap) (m0 : Map) (w0 : World) (D : Nat → Prop) (q : Nat) (m : Map) (w : World) : Prop where
 ext : Ext m0 m
 dom : ∀ b, m b ≠ none → m0 b ≠ none ∨ ∃ i, D i ∧ i < ops.size ∧ (H i).next ≤ b ∧ b < (H (i + 1)).next
 emb : Emb P S m (AH H ops.size q m) w
 wd : Wd S w0 w
 same : ∀ b, b < (H q).next → m b = none → (H q).obj b = Orig H ops.size b
 wf : ∀ n, n ≤ q → (H n).Wf
theorem AH.wf (T : Trace P call p ops ah 0 ops.toList E L H V R) (hcall : CallsOK P call) {q : Nat} (hq : q ≤ ops.size) (m : Map) : (AH H ops.size q m).Wf := by
 intro b hb
 have hb2 : (H ops.size).next ≤ b := hb
 have := T.nexts hcall hq (Nat.le_refl _)
 show (if (m b).isNone then Obj.gone else Cur H ops.size q b) = .gone
 split
 ·rfl
 ·unfold Cur; rw [if_neg (by omega), if_neg (by omega)]
theorem AH.obj {q : Nat} {m : Map} {b : Nat} (hb : m b ≠ none) : (AH H ops.size q m).obj b = Cur H ops.size q b := by
 show (if (m b).isNone then Obj.gone else Cur H ops.size q b) = _
 cases h : m b with
 | none => exact absurd h hb
 | some _ => rfl
section
variable {S : Stay} {m0 : Map} {w0 : World} {D : Nat → Prop} {q : Nat} {m : Map} {w : World}
theorem Hp.fresh (T : Trace P call p ops ah 0 ops.toList E L H V R) (hcall : CallsOK P call) (hf : Free m0 (H 0).next (H ops.size).next) (h : Hp P S ops H m0 w0 D q m w) {j : Nat} {o : Oper} (hj : ops[j]? = some o) (hD : ¬ D j) : Free m (H j).next (H (j + 1)).next := by
 have hlt := lt_of_op hj
 intro b h1 h2
 cases hm : m b with
 | none => rfl
 | some K =>
  exfalso
  rcases h.dom b (by simp [hm]) with h3 | ⟨i, hi, his, h4, h5⟩
  ·have k1 := T.nexts hcall (Nat.zero_le j) (by omega)
   have k2 := T.nexts hcall (i := j + 1) (n := ops.size) (by omega) (Nat.le_refl _)
   exact h3 (hf b (by omega) (by omega))
  ·rcases Nat.lt_trichotomy i j with h6 | h6 | h6
   ·have := T.nexts hcall (i := i + 1) (n := j) (by omega) (by omega); omega
   ·subst h6; exact hD hi
   ·have := T.nexts hcall (i := j + 1) (n := i) (by omega) (by omega); omega
theorem ext_ne {m m1 : Map} (h : Ext m m1) {b : Nat} (hb : m1 b = none) : m b = none := by
 cases hq : m b with
 | none => rfl
 | some K => rw [h b K hq] at hb; simp at hb
theorem Hp.shows (T : Trace P call p ops ah 0 ops.toList E L H V R) (hcall : CallsOK P call) (h : Hp P S ops H m0 w0 D q m w) {n : Nat} (hq : q ≤ n) (hn : n ≤ ops.size) (hnw : NW P p ops E L q n) :
  (H n).Wf ∧ (∀ b, m b ≠ none → (H n).obj b = .gone ∨ (H n).obj b = (AH H ops.size q m).obj b) ∧ Emb P (Beh S m (AH H ops.size q m) (H n)) m (H n) w := by
 have hw := wf_of T (h.wf q (Nat.le_refl _)) hq hn hnw
 have hv : ∀ b, m b ≠ none → (H n).obj b = .gone ∨ (H n).obj b = (AH H ops.size q m).obj b := fun b hb => by
  rw [AH.obj hb]
  by_cases hlt : b < (H n).next
  ·exact .inr (cur_of T hcall hq hn hnw hlt)
  ·exact .inl (hw b (Nat.le_of_not_lt hlt))
 exact ⟨hw, hv, h.emb.view hv hw⟩
theorem Hp.write (T : Trace P call p ops ah 0 ops.toList E L H V R) (hcall : CallsOK P call) (h : Hp P S ops H m0 w0 D q m w) {j : Nat} {o : Oper} (hj : ops[j]? = some o) (hq : q ≤ j) (hnw : NW P p ops E L q j)
  {m1 : Map} {w1 : World} (ho : Out P (Beh S m (AH H ops.size q m) (H j)) m (H j) w m1 (H (j + 1)) w1) : Hp P S ops H m0 w0 (fun i => i = j ∨ D i) (j + 1) m1 w1 := by
 have hlt := lt_of_op hj
 obtain ⟨hw, hv, _⟩ := h.shows T hcall hq (Nat.le_of_lt hlt) hnw
 have n1 := T.next1 hcall hlt
 have n2 := T.nexts hcall (i := q) (n := j) hq (by omega)
 have n3 := T.nexts hcall (i := j + 1) (n := ops.size) hlt (Nat.le_refl _)
 refine ⟨h.ext.trans ho.ext, fun b hb => ?_, h.emb.back ho (fun b hb => ?_) (AH.wf T hcall hlt m1), h.wd.trans ho.wd.beh, fun b hb hm => ?_, fun n hn => ?_⟩
 ·rcases ho.dom b hb with h1 | ⟨h1, h2⟩
  ·rcases h.dom b h1 with h3 | ⟨i, hi, h4⟩
   ·exact .inl h3
   ·exact .inr ⟨i, .inr hi, h4⟩
  ·exact .inr ⟨j, .inl rfl, hlt, h1, h2⟩
 ·rw [AH.obj hb]
  by_cases hbn : b < (H (j + 1)).next
  ·left; unfold Cur; rw [if_pos hbn]
  ·right
   have hmb : m b ≠ none := by
    rcases ho.dom b hb with h1 | ⟨h1, h2⟩
    ·exact h1
    ·omega
   refine ⟨hmb, ?_, hw b (by omega)⟩
   rw [AH.obj hmb]
   unfold Cur
   rw [if_neg hbn, if_neg (by omega : ¬ b < (H q).next)]
 ·have hm' := ext_ne ho.ext hm
  by_cases hbj : b < (H j).next
  ·rw [ho.same b hbj hm', cur_of T hcall hq (Nat.le_of_lt hlt) hnw hbj]
   unfold Cur
   split
   ·rename_i hbq; exact h.same b hbq hm'
   ·rw [if_pos (by omega)]
  ·rw [orig_stays T hcall hb hlt (Nat.le_refl _)]
   simp only [Orig, if_neg hbj]
 ·rcases Nat.lt_or_ge n (j + 1) with h1 | h1
  ·rcases Nat.lt_or_ge n q with h2 | h2
   ·exact h.wf n (Nat.le_of_lt h2)
   ·exact wf_of T (h.wf q (Nat.le_refl _)) h2 (by omega) fun i x a1 a2 => hnw i x a1 (by omega)
  ·rw [Nat.le_antisymm hn h1]; exact ho.emb.wf
theorem Hp.read (T : Trace P call p ops ah 0 ops.toList E L H V R) (hcall : CallsOK P call) (h : Hp P S ops H m0 w0 D q m w) {j n : Nat} (hq : q ≤ n) (hn : n ≤ ops.size) (hnw : NW P p ops E L q n)
  {m1 : Map} {w1 : World} (ho : Out P (Beh S m (AH H ops.size q m) (H n)) m (H n) w m1 (H n) w1) : Hp P S ops H m0 w0 (fun i => i = j ∨ D i) q m1 w1 := by
 obtain ⟨hw, hv, _⟩ := h.shows T hcall hq hn hnw
 have hd : ∀ b, m1 b ≠ none → m b ≠ none := fun b hb => by
  rcases ho.dom b hb with h1 | ⟨h1, h2⟩
  ·exact h1
  ·omega
 refine ⟨h.ext.trans ho.ext, fun b hb => ?_, h.emb.back ho (fun b hb => ?_) (AH.wf T hcall (Nat.le_trans hq hn) m1), h.wd.trans ho.wd.beh, fun b hb hm => h.same b hb (ext_ne ho.ext hm), h.wf⟩
 ·rcases h.dom b (hd b hb) with h3 | ⟨i, hi, h4⟩
  ·exact .inl h3
  ·exact .inr ⟨i, .inr hi, h4⟩
 ·rw [AH.obj hb]
  by_cases hlt : b < (H n).next
  ·exact .inl (cur_of T hcall hq hn hnw hlt).symm
  ·exact .inr ⟨hd b hb, (AH.obj (hd b hb)).symm, hw b (Nat.le_of_not_lt hlt)⟩
theorem Hp.alloc (T : Trace P call p ops ah 0 ops.toList E L H V R) (hcall : CallsOK P call) (hf : Free m0 (H 0).next (H ops.size).next) (h : Hp P S ops H m0 w0 D q m w) (hq : q ≤ ops.size) {j : Nat} {o : Oper} (hj : ops[j]? = some o) (hD : ¬ D j) {ob : Obj} (hH : H (j + 1) = (H j).new ob)
  {m1 : Map} {w1 : World} (ho : Out P (Beh S m (AH H ops.size q m) ⟨fun _ => .gone, (H j).next⟩) m ⟨fun _ => .gone, (H j).next⟩ w m1 (Heap.new ⟨fun _ => .gone, (H j).next⟩ ob) w1) : Hp P S ops H m0 w0 (fun i => i = j ∨ D i) q m1 w1 := by
 have hlt := lt_of_op hj
 have hfr := h.fresh T hcall hf hj hD
 have hnx : (H (j + 1)).next = (H j).next + 1 := by rw [hH]; rfl
 have n3 := T.nexts hcall (i := j + 1) (n := ops.size) hlt (Nat.le_refl _)
 have hd : ∀ b, m1 b ≠ none → m b ≠ none ∨ b = (H j).next := fun b hb => by
  rcases ho.dom b hb with h1 | ⟨h1, h2⟩
  ·exact .inl h1
  ·right
   have h1' : (H j).next ≤ b := h1
   have h2' : b < (H j).next + 1 := h2
   omega
 have horig : Orig H ops.size (H j).next = ob := by
  rw [orig_stays T hcall (b := (H j).next) (n := j + 1) (by omega) hlt (Nat.le_refl _)]
  simp only [Orig, Nat.lt_irrefl, if_false]
  rw [hH]; simp [Heap.new]
 refine ⟨h.ext.trans ho.ext, fun b hb => ?_, h.emb.back ho (fun b hb => ?_) (AH.wf T hcall hq m1), h.wd.trans ho.wd.beh, fun b hb hm => h.same b hb (ext_ne ho.ext hm), h.wf⟩
 ·rcases hd b hb with h1 | h1
  ·rcases h.dom b h1 with h3 | ⟨i, hi, h4⟩
   ·exact .inl h3
   ·exact .inr ⟨i, .inr hi, h4⟩
  ·exact .inr ⟨j, .inl rfl, hlt, by omega, by omega⟩
 ·rw [AH.obj hb]
  by_cases hbn : b = (H j).next
  ·left
   subst hbn
   simp only [Heap.new, if_true]
   unfold Cur
   split
   ·rename_i hbq
    rw [h.same _ hbq (hfr _ (Nat.le_refl _) (by omega)), horig]
   ·rw [if_pos (by omega), horig]
  ·have hm := (hd b hb).resolve_right hbn
   exact .inr ⟨hm, (AH.obj hm).symm, rfl⟩
theorem Hp.idle (h : Hp P S ops H m0 w0 D q m w) {j : Nat} : Hp P S ops H m0 w0 (fun i => i = j ∨ D i) q m w :=
 ⟨h.ext, fun b hb => by
  rcases h.dom b hb with h3 | ⟨i, hi, h4⟩
  ·exact .inl h3
  ·exact .inr ⟨i, .inr hi, h4⟩, h.emb, h.wd, h.same, h.wf⟩
end
end
end Go.Proofs.YtlakhgibjfmjjaaGreat.Can
namespace Go.Proofs.YtlakhgibjfmjjaaGreat.Can
open Go
section
variable {P : Program} {call : CallFn} {p : Pers} {ops : Array Oper} {ah : List (List Nat)} {E L : Nat → Env} {H : Nat → Heap} {V : Nat → Value} {R : Nat → Bool}
variable {S : Stay} {m0 : Map} {w0 : World}
open Classical in
theorem draw_step (T : Trace P call p ops ah 0 ops.toList E L H V R) (hcall : CallsOK P call) (hap : Apart ops ah) (hf : Free m0 (H 0).next (H ops.size).next) (hgl : GlobOK m0)
  {D : Nat → Prop} {q : Nat} {m : Map} {a : Act} {w : World} (c : Ctl P p ops ah E L D q) (s : Sl p ops E L D m a) (h : Hp P S ops H m0 w0 D q m w)
  {j : Nat} {o : Oper} (hj : ops[j]? = some o) (hD : ¬ D j) (hah : ∀ i, (ah.getD j []).elem i = true → D i) {Q : Exit → Act → World → Prop} {K : Act → World → Prop}
  (hK : ∀ q1 m1 a1 w1, Ctl P p ops ah E L (fun i => i = j ∨ D i) q1 → Sl p ops E L (fun i => i = j ∨ D i) m1 a1 → Hp P S ops H m0 w0 (fun i => i = j ∨ D i) q1 m1 w1 → K a1 w1) : wpOp P ops Q j K a w := by
 have hst := T.st hj
 have hlt := lt_of_op hj
 have hc' := c.step T hj hD hah
 have hwant : Region.wanted o (yielded ops a.tmps) = R j := by
  rcases hst.guard with ⟨hg, hr⟩ | ⟨jj, w', t, hg, ht, hw⟩
  ·rw [hr]; simp [Region.wanted, hg]
  ·refine want_sim' hg ht (s.at T hap c.closed hj hD hah (t := t) ?_) hw
   simp [Oper.looksAt, hg, ht]
 unfold wpOp
 rw [hj]
 simp only [hwant]
 cases hr : R j with
 | false =>
  simp only [Bool.false_eq_true, if_false]
  obtain ⟨hv, hh⟩ := hst.idle hr
  have hs' : Sl p ops E L (fun i => i = j ∨ D i) m (a.put o.dst undef) := s.step T hap c.closed (Ext.refl m) hj hD (by rw [hv]; exact .tuple _ _ rfl (fun i x y hx => by simp at hx))
  refine hK _ m _ w hc' hs' ?_
  unfold qNext
  split
  ·rename_i hk
   obtain ⟨hq, hnw⟩ := c.ahead T hj hD hah hk
   refine h.write T hcall hj hq hnw ?_
   rw [hh]
   exact Out.refl (h.shows T hcall hq (Nat.le_of_lt hlt) hnw).2.2
  ·exact h.idle
 | true =>
  simp only [if_true]
  left
  have hran := hst.ran hr
  let ρ : Rho := fun x => if x ∈ o.op.operands then lookE p (E j) (L j) x else unk
  have hρ : ∀ x, VR m (ρ x) (a.eval x) := by
   intro x
   show VR m (if x ∈ o.op.operands then lookE p (E j) (L j) x else unk) _
   split
   ·rename_i hx
    cases x with
    | tmp t =>
     refine s.at T hap c.closed hj hD hah (t := t) ?_
     unfold Oper.looksAt
     refine List.mem_append_left _ (List.mem_filterMap.2 ⟨.tmp t, by simpa using hx, rfl⟩)
    | const v =>
     simp only [lookE, Act.eval]
     split
     ·rename_i hv; exact VR.selfV hv
     ·exact .unk v
    | global g => exact (hgl.ext h.ext).rel g
    | func f => exact VR.func_of (VL.nil m) (VL.nil m)
   ·exact .unk _
  have hres : resOp P o ρ = At P p E L j o := resOp_congr o fun x hx => if_pos hx
  have goOn : ∀ v' m1 w1 q1, q1 = qNext P p E L o j q → VR m1 (V j) v' → Ext m m1 → Hp P S ops H m0 w0 (fun i => i = j ∨ D i) q1 m1 w1 → K (a.put o.dst v') w1 := fun v' m1 w1 q1 hq hv hx hh =>
   hK q1 m1 _ w1 (hq ▸ hc') (s.step T hap c.closed hx hj hD hv) hh
  have look : ∀ n, q ≤ n → n ≤ ops.size → NW P p ops E L q n → kindC (At P p E L j o) ≠ .write → cop (At P p E L j o) (H n) = some (V j, H n) → o.wp P a w K Q := by
   intro n hq hn hnw hk hcop
   refine op_wp hcall (h.shows T hcall hq hn hnw).2.2 o a hρ (v := V j) (h1 := H n) (by rw [hres, evOp_plain hk]; exact hcop) (fun x h1 h2 => by omega) (hgl.ext h.ext) fun v' w1 m1 hv ho => ?_
   exact goOn v' m1 w1 q (by unfold qNext; rw [if_neg hk]) hv ho.ext (h.read T hcall hq hn hnw ho)
  cases hk : kindC (At P p E L j o) with
  | write =>
   obtain ⟨hq, hnw⟩ := c.ahead T hj hD hah hk
   refine op_wp hcall (h.shows T hcall hq (Nat.le_of_lt hlt) hnw).2.2 o a hρ (v := V j) (h1 := H (j + 1)) (by rw [hres]; exact hran) (h.fresh T hcall hf hj hD) (hgl.ext h.ext) fun v' w1 m1 hv ho => ?_
   exact goOn v' m1 w1 (j + 1) (by unfold qNext; rw [if_pos hk]) hv ho.ext (h.write T hcall hj hq hnw ho)
  | pure =>
   have hkn : kindC (At P p E L j o) ≠ .write := by rw [hk]; simp
   rw [evOp_plain hkn] at hran
   exact look q (Nat.le_refl _) c.qle (fun i x h1 h2 => by omega) hkn ((kind_pure hk hran).2 _)
  | alloc =>
   have hkn : kindC (At P p E L j o) ≠ .write := by rw [hk]; simp
   rw [evOp_plain hkn] at hran
   obtain ⟨ob, hH, hall⟩ := kind_alloc hk hran
   have hG : Heap.Wf ⟨fun _ => .gone, (H j).next⟩ := fun _ _ => rfl
   have hE := h.emb.view (G := ⟨fun _ => .gone, (H j).next⟩) (fun b _ => .inl rfl) hG
   refine op_wp hcall hE o a hρ (v := V j) (h1 := Heap.new ⟨fun _ => .gone, (H j).next⟩ ob) (by rw [hres, evOp_plain hkn]; exact hall _ rfl) ?_ (hgl.ext h.ext) fun v' w1 m1 hv ho => ?_
   ·have := h.fresh T hcall hf hj hD
    rw [hH] at this; exact this
   ·exact goOn v' m1 w1 q (by unfold qNext; rw [if_neg hkn]) hv ho.ext (h.alloc T hcall hf c.qle hj hD hH ho)
  | read =>
   have hkn : kindC (At P p E L j o) ≠ .write := by rw [hk]; simp
   rw [evOp_plain hkn] at hran
   have hHj := kind_read hk hran
   rw [hHj] at hran
   rcases Nat.lt_or_ge j q with hjq | hjq
   ·
    rcases c.qw with h0 | ⟨i, x, hqi, hi, hki, hDi⟩
    ·omega
    ·have hij : i ≠ j := fun hij => hD (hij ▸ hDi)
     have hno : (ah.getD i []).elem j = false := by
      cases hq : (ah.getD i []).elem j with
      | false => rfl
      | true => exact absurd (c.closed i hDi j hq) hD
     have := T.rw0 (by omega) hj hi hk hki hno hr
     rw [← hqi] at this
     exact look q (Nat.le_refl _) c.qle (fun i x h1 h2 => by omega) hkn this
   ·
    by_cases hnw : NW P p ops E L q j
    ·exact look j hjq (Nat.le_of_lt hlt) hnw hkn hran
    ·
     have hex : ∀ n, q ≤ n → n ≤ j → NW P p ops E L q n ∨ ∃ i x, q ≤ i ∧ i < n ∧ ops[i]? = some x ∧ kindC (At P p E L i x) = .write ∧ NW P p ops E L q i := by
      intro n
      induction n with
      | zero => intro h1 _; exact .inl fun i x h2 h3 => by omega
      | succ n ih =>
       intro h1 h2
       rcases Nat.lt_or_ge n q with h3 | h3
       ·exact .inl fun i x h4 h5 => by omega
       ·rcases ih h3 (by omega) with h4 | ⟨i, x, h4, h5, h6⟩
        ·obtain ⟨y, hy⟩ := op_of_lt (ops := ops) (j := n) (by omega)
         by_cases hw : kindC (At P p E L n y) = .write
         ·exact .inr ⟨n, y, h3, by omega, hy, hw, h4⟩
         ·left
          intro i x h5 h6 h7
          rcases Nat.lt_or_ge i n with h8 | h8
          ·exact h4 i x h5 h8 h7
          ·have : i = n := by omega
           subst this
           rw [hy] at h7; obtain rfl := Option.some.inj h7; exact hw
        ·exact .inr ⟨i, x, h4, by omega, h6⟩
     rcases hex j hjq (Nat.le_refl _) with h1 | ⟨i, x, h1, h2, h3, h4, h5⟩
     ·exact absurd h1 hnw
     ·have hno : (ah.getD j []).elem i = false := by
       cases hq : (ah.getD j []).elem i with
       | false => rfl
       | true =>
        have := (c.wq i x h3 h4).1 (hah i hq)
        omega
      exact look i h1 (by omega) h5 hkn (T.wr0 h2 h3 hj h4 hk hno hr)
end
def cnt (f : Nat → Bool) : Nat → Nat
 | 0 => 0
 | n + 1 => cnt f n + if f n then 1 else 0
theorem cnt_congr {f g : Nat → Bool} : ∀ {n : Nat}, (∀ i, i < n → f i = g i) → cnt f n = cnt g n
 | 0, _ => rfl
 | n + 1, h => by simp only [cnt]; rw [h n (by omega), cnt_congr fun i hi => h i (by omega)]
theorem cnt_less {f g : Nat → Bool} {j : Nat} (hf : f j = true) (hg : g j = false) (hn : ∀ i, i ≠ j → f i = g i) : ∀ {n : Nat}, j < n → cnt f n = cnt g n + 1
 | 0, h => by omega
 | n + 1, h => by
  simp only [cnt]
  rcases Nat.lt_or_ge j n with h1 | h1
  ·rw [cnt_less hf hg hn h1, hn n (by omega)]; omega
  ·have : j = n := by omega
   subst this
   rw [hf, hg, cnt_congr (g := g) fun i hi => hn i (by omega)]; simp
theorem cnt_zero {f : Nat → Bool} : ∀ {n : Nat}, cnt f n = 0 → ∀ i, i < n → f i = false
 | 0, _, i, h => by omega
 | n + 1, h, i, hi => by
  simp only [cnt] at h
  rcases Nat.lt_or_ge i n with h1 | h1
  ·exact cnt_zero (by omega) i h1
  ·have : i = n := by omega
   subst this
   cases hf : f i with
   | false => rfl
   | true => rw [hf] at h; simp at h
theorem cnt_le {f : Nat → Bool} : ∀ {n : Nat}, cnt f n ≤ n
 | 0 => Nat.le_refl _
 | n + 1 => by simp only [cnt]; have := cnt_le (f := f) (n := n); split <;> omega
section
variable {P : Program} {call : CallFn} {p : Pers} {ops : Array Oper} {ah : List (List Nat)} {E L : Nat → Env} {H : Nat → Heap} {V : Nat → Value} {R : Nat → Bool}
variable {S : Stay} {m0 : Map} {w0 : World}
theorem ahead_of (h : aheadOk ops ah = true) {j : Nat} {o : Oper} (hj : ops[j]? = some o) :
  (∀ i, (ah.getD j []).elem i = true → ∃ e ∈ o.after, Region.binds .any e = true ∧ (e.on = i ∨ (ah.getD e.on []).elem i = true)) ∧ ∀ e ∈ o.after, Region.binds .any e = true → e.on < j := by
 unfold aheadOk at h
 have h1 := List.all_eq_true.1 h j (List.mem_range.2 (lt_of_op hj))
 rw [hj] at h1
 simp only [Bool.and_eq_true] at h1
 refine ⟨fun i hi => ?_, fun e he hb => ?_⟩
 ·have h2 := List.all_eq_true.1 h1.1 i (List.elem_iff.1 hi)
  simp only [Bool.and_eq_true] at h2
  obtain ⟨e, he, h3⟩ := List.any_eq_true.1 h2.2
  simp only [Bool.and_eq_true, Bool.or_eq_true, beq_iff_eq] at h3
  exact ⟨e, by simpa using he, h3.1, h3.2⟩
 ·have h2 := List.all_eq_true.1 h1.2 e (by simpa using he)
  simp only [hb, Bool.not_true, Bool.false_or, Nat.blt_eq] at h2
  exact h2
abbrev Don (listed : Array Bool) : Nat → Prop := fun i => listed.getD i false = true
theorem don_set {listed : Array Bool} {j : Nat} (hj : j < listed.size) : Don (listed.setIfInBounds j true) = fun i => i = j ∨ Don listed i := by
 funext i
 apply propext
 unfold Don
 simp only [Array.getD_eq_getD_getElem?]
 by_cases h : i = j
 ·subst h
  rw [Array.getElem?_setIfInBounds_self_of_lt hj]; simp
 ·rw [Array.getElem?_setIfInBounds_ne (fun h1 => h h1.symm)]; simp [h]
theorem draw_any (T : Trace P call p ops ah 0 ops.toList E L H V R) (hcall : CallsOK P call) (hap : Apart ops ah) (hao : aheadOk ops ah = true) (hf : Free m0 (H 0).next (H ops.size).next) (hgl : GlobOK m0) {Q : Exit → Act → World → Prop}
  (hQ : ∀ D q m a w, (∀ j, j < ops.size → D j) → Ctl P p ops ah E L D q → Sl p ops E L D m a → Hp P S ops H m0 w0 D q m w → Q .normal a w) :
  ∀ (fuel : Nat) (listed : Array Bool) (q : Nat) (m : Map) (a : Act) (w : World), listed.size = ops.size → cnt (fun i => !listed.getD i false) ops.size ≤ fuel →
   Ctl P p ops ah E L (Don listed) q → Sl p ops E L (Don listed) m a → Hp P S ops H m0 w0 (Don listed) q m w → wpAny P .any ops Q fuel listed a w := by
 have gd : ∀ (listed : Array Bool) j, j < listed.size → listed.getD j true = listed.getD j false := fun listed j hj => by
  simp only [Array.getD_eq_getD_getElem?, Array.getElem?_eq_getElem hj, Option.getD_some]
 have full : ∀ (listed : Array Bool), listed.size = ops.size → Region.ready .any ops listed = [] → ∀ j, j < ops.size → Don listed j := by
  intro listed hsz hr j
  induction j using Nat.strongRecOn with
  | ind j ih =>
   intro hj
   cases hq : listed.getD j false with
   | true => exact hq
   | false =>
    exfalso
    obtain ⟨o, ho⟩ := op_of_lt hj
    have hm : j ∈ Region.ready .any ops listed := mem_ready.2 ⟨by rw [gd listed j (by omega)]; exact hq, o, ho, fun e he hb => ih e.on ((ahead_of hao ho).2 e he hb) (Nat.lt_trans ((ahead_of hao ho).2 e he hb) hj)⟩
    rw [hr] at hm; simp at hm
 intro fuel
 induction fuel with
 | zero =>
  intro listed q m a w hsz hcn c s h
  have hall : ∀ j, j < ops.size → Don listed j := fun j hj => by
   have h := cnt_zero (Nat.le_zero.1 hcn) j hj
   show listed.getD j false = true
   cases hq : listed.getD j false with
   | true => rfl
   | false => simp only [hq] at h; simp at h
  refine ⟨?_, hQ _ q m a w hall c s h⟩
  apply List.eq_nil_iff_forall_not_mem.2
  intro j hj
  obtain ⟨h1, o, ho, _⟩ := mem_ready.1 hj
  have := hall j (lt_of_op ho)
  rw [gd listed j (by rw [hsz]; exact lt_of_op ho)] at h1
  have h2 : listed.getD j false = true := this
  rw [h1] at h2; simp at h2
 | succ fuel ih =>
  intro listed q m a w hsz hcn c s h
  refine ⟨fun hr => hQ _ q m a w (full listed hsz hr) c s h, fun j hj => ?_⟩
  obtain ⟨h1, o, ho, h3⟩ := mem_ready.1 hj
  have hlt := lt_of_op ho
  rw [gd listed j (by omega)] at h1
  have hD : ¬ Don listed j := by unfold Don; rw [h1]; simp
  have hah : ∀ i, (ah.getD j []).elem i = true → Don listed i := fun i hi => by
   obtain ⟨e, he, hb, h4⟩ := (ahead_of hao ho).1 i hi
   have h5 : Don listed e.on := h3 e he hb
   rcases h4 with h4 | h4
   ·exact h4 ▸ h5
   ·exact c.closed _ h5 i h4
  refine draw_step T hcall hap hf hgl c s h ho hD hah fun q1 m1 a1 w1 c1 s1 h1' => ?_
  have hds := don_set (listed := listed) (j := j) (by omega)
  refine ih _ q1 m1 a1 w1 (by simpa using hsz) ?_ (by rw [hds]; exact c1) (by rw [hds]; exact s1) (by rw [hds]; exact h1')
  have := cnt_less (f := fun i => !listed.getD i false) (g := fun i => !(listed.setIfInBounds j true).getD i false) (j := j) (by simp only [h1]; rfl) (by
   have : Don (listed.setIfInBounds j true) j := by rw [hds]; exact .inl rfl
   have h2 : (listed.setIfInBounds j true).getD j false = true := this
   simp only [h2]; rfl) (fun i hi => by
   simp only [Array.getD_eq_getD_getElem?]
   rw [Array.getElem?_setIfInBounds_ne (fun h => hi h.symm)]) hlt
  omega
end
theorem draw_sim {P : Program} {S : Stay} {call : CallFn} (hcall : CallsOK P call) (p : Pers) (ops : Array Oper) (ah : List (List Nat)) (hao : aheadOk ops ah = true) (hap : apartOk ops ah = true) (hfo : P.follows .mixedOrders = true)
  {Q : Exit → Act → World → Prop} {id : Nat} {e1 : Env} {h1 : Heap} {m : Map} {e l : Env} {h : Heap} {a : Act} {w : World}
  (hr : evR call (toRegD P p ops ah ops.toList 0 e l [] []) h = some (e1, h1)) (hs : Slots p m e l a) (hE : Emb P S m h w) (hf : Free m h.next h1.next)
  (hQ : ∀ a1 w1 m1 l1, Slots p m1 e1 l1 a1 → Out P S m h w m1 h1 w1 → Q .normal a1 w1) : (Code.region id ops true).wp P Q a w := by
 obtain ⟨E, L, H, V, R, rfl, rfl, rfl, hE1, hH1, T, _, _, _⟩ := trace_of ops.toList 0 e l [] [] h _ hr
 simp only [Nat.zero_add, Array.length_toList] at hE1 hH1
 subst hE1 hH1
 have hnone : ∀ i, ¬ Don (Array.replicate ops.size false) i := fun i hi => by
  unfold Don at hi
  simp only [Array.getD_eq_getD_getElem?, Array.getElem?_replicate] at hi
  split at hi <;> simp at hi
 refine wp_region_any hfo (draw_any (S := S) (m0 := m) (w0 := { w with drawn := w.drawn + 1 }) T hcall (apart_of hap) hao hf hs.glob ?_ ops.size _ 0 m a _ (by simp) cnt_le ?_ ?_ ?_)
 ·intro D q m1 a1 w1 hall c s hp
  have hnw : NW P p ops E L q ops.size := fun i x h1 h2 h3 h4 => by
   have := (c.wq i x h3 h4).1 (hall i h2); omega
  have hwf := wf_of T (hp.wf q (Nat.le_refl _)) c.qle (Nat.le_refl _) hnw
  have hmb : ∀ b, b < (H 0).next → m b = none → m1 b = none := fun b hb hm => by
   cases hq : m1 b with
   | none => rfl
   | some K =>
    exfalso
    rcases hp.dom b (by simp [hq]) with h3 | ⟨i, _, hi, h4, _⟩
    ·exact h3 hm
    ·have := T.nexts hcall (Nat.zero_le i) (Nat.le_of_lt hi); omega
  have hnq := T.nexts hcall (Nat.zero_le q) c.qle
  refine hQ a1 w1 m1 (L ops.size) ⟨fun t => s.rel t ops.size (Nat.le_refl _) fun i x hi _ => ⟨fun _ => lt_of_op hi, fun h => hall i h⟩, s.size, s.defers, hs.glob.ext hp.ext⟩
   ⟨hp.emb.same (fun b hb => ?_) hwf, hp.ext, fun b hb => ?_, T.nexts hcall (Nat.zero_le _) (Nat.le_refl _), ⟨hp.wd.os, hp.wd.tape, hp.wd.output, hp.wd.size, hp.wd.block⟩, fun b hb hm => ?_⟩
  ·rw [AH.obj hb]
   by_cases hlt : b < (H ops.size).next
   ·exact cur_of T hcall c.qle (Nat.le_refl _) hnw hlt
   ·rw [hwf b (Nat.le_of_not_lt hlt)]
    have := T.nexts hcall c.qle (Nat.le_refl _)
    unfold Cur
    rw [if_neg (by omega), if_neg hlt]
  ·rcases hp.dom b hb with h3 | ⟨i, _, hi, h4, h5⟩
   ·exact .inl h3
   ·have h6 := T.nexts hcall (Nat.zero_le i) (Nat.le_of_lt hi)
    have h7 := T.nexts hcall (i := i + 1) (n := ops.size) hi (Nat.le_refl _)
    exact .inr ⟨by omega, by omega⟩
  ·have h2 := cur_of T hcall c.qle (Nat.le_refl _) hnw (Nat.lt_of_lt_of_le hb (T.nexts hcall (Nat.zero_le _) (Nat.le_refl _)))
   rw [h2]
   unfold Cur
   rw [if_pos (by omega), hp.same b (by omega) (hmb b hb hm), orig_stays T hcall hb (Nat.zero_le _) (Nat.le_refl _)]
   rfl
 ·exact ⟨fun j hj => absurd hj (hnone j), fun j hj => absurd hj (hnone j), fun j o _ _ => ⟨fun hj => absurd hj (hnone j), fun hj => by omega⟩, .inl rfl⟩
 ·refine ⟨fun t n hn hc => ?_, hs.size, hs.defers⟩
  rw [look_stays T (Nat.zero_le n) hn fun i o _ h2 hi hd => hnone i ((hc i o hi hd).2 h2)]
  exact hs.rel t
 ·refine ⟨Ext.refl m, fun b hb => .inl hb, (hE.same (fun b hb => ?_) (AH.wf T hcall (Nat.zero_le _) m)).of_heap rfl, Wd.refl S _, fun b hb _ => ?_, fun n hn => ?_⟩
  ·rw [AH.obj hb]
   unfold Cur
   split
   ·rfl
   ·rename_i h0
    rw [hE.wf b (Nat.le_of_not_lt h0)]
    split
    ·rename_i h2
     exact absurd (hf b (Nat.le_of_not_lt h0) h2) hb
    ·rfl
  ·rw [orig_stays T hcall hb (Nat.zero_le _) (Nat.le_refl _)]; rfl
  ·rw [Nat.le_zero.1 hn]; exact hE.wf
end Go.Proofs.YtlakhgibjfmjjaaGreat.Can
namespace Go.Proofs.YtlakhgibjfmjjaaGreat.Can
open Go
def LeO {α : Type} (x y : Option α) : Prop := ∀ r, x = some r → y = some r
theorem LeO.refl {α : Type} (x : Option α) : LeO x x := fun _ h => h
def LeC (c d : CallFn) : Prop := ∀ f a h, LeO (c f a h) (d f a h)
theorem evOp_mono {c d : CallFn} (hc : LeC c d) (o : COp) (h : Heap) : LeO (evOp c o h) (evOp d o h) := by
 intro r hr
 unfold evOp at hr ⊢
 split at hr
 ·exact hc _ _ _ _ hr
 ·exact hc _ _ _ _ hr
 ·exact hr
theorem evR_mono {c d : CallFn} (hc : LeC c d) (l : Reg) : ∀ h, LeO (evR c l h) (evR d l h) := by
 induction l with
 | done e => intro h r hr; exact hr
 | op o k ih =>
  intro h r hr
  simp only [evR] at hr ⊢
  cases hx : evOp c o h with
  | none => rw [hx] at hr; exact absurd hr (by simp)
  | some y => rw [hx] at hr; rw [evOp_mono hc _ _ _ hx]; exact ih _ _ _ hr
 | opg g w o k ih =>
  intro h r hr
  simp only [evR] at hr ⊢
  cases hw : wantV g w with
  | none => rw [hw] at hr; exact absurd hr (by simp)
  | some b =>
   rw [hw] at hr
   cases b with
   | true =>
    simp only at hr ⊢
    cases hx : evOp c o h with
    | none => rw [hx] at hr; exact absurd hr (by simp)
    | some y => rw [hx] at hr; rw [evOp_mono hc _ _ _ hx]; exact ih _ _ _ hr
   | false => exact ih _ _ _ hr
 | snap k ih => intro h r hr; simp only [evR] at hr ⊢; exact ih _ _ _ hr
 | chk g hj o v k ih =>
  intro h r hr
  simp only [evR] at hr ⊢
  split at hr
  ·rename_i hx; rw [if_pos hx]; exact ih _ _ hr
  ·exact absurd hr (by simp)
theorem iter_mono {f g : Env → Heap → Option (X × Env × Heap)} (hf : ∀ e h, LeO (f e h) (g e h)) : ∀ n m, n ≤ m → ∀ e h, LeO (iter f n e h) (iter g m e h) := by
 intro n
 induction n with
 | zero => intro m _ e h r hr; exact absurd hr (by simp [iter])
 | succ n ih =>
  intro m hm e h r hr
  obtain ⟨m, rfl⟩ : ∃ j, m = j + 1 := ⟨m - 1, by omega⟩
  simp only [iter] at hr ⊢
  cases hx : f e h with
  | none => rw [hx] at hr; exact absurd hr (by simp)
  | some y =>
   rw [hx] at hr; rw [hf _ _ _ hx]
   obtain ⟨x, e', h'⟩ := y
   cases x with
   | normal => exact ih m (by omega) _ _ _ hr
   | exit i => exact hr
   | ret => exact hr
theorem evC_mono {c d : CallFn} (hc : LeC c d) {n m : Nat} (hn : n ≤ m) (x : CC) : ∀ e h, LeO (evC c n x e h) (evC d m x e h) := by
 induction x with
 | skip => intro e h r hr; exact hr
 | region ops =>
  intro e h r hr
  simp only [evC, Option.map_eq_some_iff] at hr ⊢
  obtain ⟨a, ha, rfl⟩ := hr
  exact ⟨a, evR_mono hc _ _ _ ha, rfl⟩
 | seq a b iha ihb =>
  intro e h r hr
  simp only [evC] at hr ⊢
  cases hx : evC c n a e h with
  | none => rw [hx] at hr; exact absurd hr (by simp)
  | some y =>
   rw [hx] at hr; rw [iha _ _ _ hx]
   obtain ⟨x, e', h'⟩ := y
   cases x with
   | normal => exact ihb _ _ _ hr
   | exit i => exact hr
   | ret => exact hr
 | cond t a b iha ihb =>
  intro e h r hr
  simp only [evC] at hr ⊢
  split at hr
  ·exact iha _ _ _ hr
  ·exact ihb _ _ _ hr
  ·exact absurd hr (by simp)
 | block id b ih =>
  intro e h r hr
  simp only [evC] at hr ⊢
  cases hx : evC c n b e h with
  | none => rw [hx] at hr; exact absurd hr (by simp)
  | some y =>
   rw [hx] at hr; rw [ih _ _ _ hx]
   exact hr
 | loop b ih => intro e h; exact iter_mono (fun e h => ih e h) n m hn e h
 | exit id => intro e h r hr; exact hr
 | ret => intro e h r hr; exact hr
 | bad => intro e h r hr; exact hr
 | dfr pre g caps post iha ihb =>
  intro e h r hr
  simp only [evC] at hr ⊢
  cases hx : evC c n pre e h with
  | none => rw [hx] at hr; exact absurd hr (by simp)
  | some y =>
   rw [hx] at hr; rw [iha _ _ _ hx]
   obtain ⟨x, e', h'⟩ := y
   cases x with
   | normal =>
    simp only at hr ⊢
    cases hy : evC c n post e' h' with
    | none => rw [hy] at hr; exact absurd hr (by simp)
    | some z =>
     rw [hy] at hr; rw [ihb _ _ _ hy]
     obtain ⟨x2, e2, h2⟩ := z
     cases x2 with
     | exit i => exact hr
     | _ =>
      simp only [Option.map_eq_some_iff] at hr ⊢
      obtain ⟨a, ha, rfl⟩ := hr
      exact ⟨a, hc _ _ _ _ ha, rfl⟩
   | exit i => exact hr
   | ret => exact hr
theorem evF_mono1 (CP : CProg) : ∀ n, LeC (evF CP n) (evF CP (n + 1)) := by
 intro n
 induction n with
 | zero => intro f a h r hr; exact absurd hr (by simp [evF])
 | succ n ih =>
  intro f a h r hr
  rw [evF] at hr ⊢
  cases hf : CP f with
  | none => rw [hf] at hr; exact absurd hr (by simp)
  | some fn =>
   rw [hf] at hr
   simp only at hr ⊢
   cases hx : evC (evF CP n) n fn.body (initE a) h with
   | none => rw [hx] at hr; exact absurd hr (by simp)
   | some y => rw [hx] at hr; rw [evC_mono ih (Nat.le_succ n) _ _ _ _ hx]; exact hr
theorem evF_mono (CP : CProg) {n m : Nat} (h : n ≤ m) : LeC (evF CP n) (evF CP m) := by
 induction h with
 | refl => intro f a h r hr; exact hr
 | step h ih => intro f a h r hr; exact evF_mono1 CP _ _ _ _ _ (ih _ _ _ _ hr)
section
variable (CP : CProg)
abbrev Post := X → Env → Heap → Prop
def CALL (f : FuncId) (args : List Value) (h : Heap) (Q : Value → Heap → Prop) : Prop :=
 ∃ n v h', evF CP n f args h = some (v, h') ∧ Q v h'
def RunR (r : Reg) (h : Heap) (Q : Post) : Prop :=
 ∃ n e' h', evR (evF CP n) r h = some (e', h') ∧ Q .normal e' h'
def RunC (c : CC) (e : Env) (h : Heap) (Q : Post) : Prop :=
 ∃ n x e' h', evC (evF CP n) n c e h = some (x, e', h') ∧ Q x e' h'
def seqQ (b : CC) (Q : Post) : Post
 | .normal, e, h => RunC CP b e h Q
 | x, e, h => Q x e h
def blockQ (id : Nat) (Q : Post) : Post
 | .exit i, e, h => if i = id then Q .normal e h else Q (.exit i) e h
 | x, e, h => Q x e h
def finQ (v : Option Value) (h : Heap) (Q : Value → Heap → Prop) : Prop :=
 match v with
 | some v => Q v h
 | none => False
def retQ (rs : List RV) (Q : Value → Heap → Prop) : Post
 | .normal, e, h => finQ (resultsV e h rs) h Q
 | .ret, e, h => finQ (resultsV e h rs) h Q
 | .exit _, _, _ => False
def callQ (k : Value → Reg) (Q : Post) : Value → Heap → Prop := fun v h => RunR CP (k v) h Q
def afterR (r : Option (Value × Heap)) (k : Value → Reg) (Q : Post) : Prop :=
 match r with
 | some (v, h) => RunR CP (k v) h Q
 | none => False
def guardR (b : Option Bool) (o : COp) (k : Value → Reg) (h : Heap) (Q : Post) : Prop :=
 match b with
 | some true => RunR CP (.op o k) h Q
 | some false => RunR CP (k (.tuple #[])) h Q
 | none => False
theorem CALL.mono {CP : CProg} {f : FuncId} {args : List Value} {h : Heap} {Q Q' : Value → Heap → Prop} (c : CALL CP f args h Q) (hq : ∀ v h, Q v h → Q' v h) : CALL CP f args h Q' :=
 let ⟨n, v, h', e, q⟩ := c; ⟨n, v, h', e, hq _ _ q⟩
theorem RunC.mono {CP : CProg} {c : CC} {e : Env} {h : Heap} {Q Q' : Post} (r : RunC CP c e h Q) (hq : ∀ x e h, Q x e h → Q' x e h) : RunC CP c e h Q' :=
 let ⟨n, x, e', h', k, q⟩ := r; ⟨n, x, e', h', k, hq _ _ _ q⟩
theorem CALL_det {CP : CProg} {f : FuncId} {args : List Value} {h : Heap} {v : Value} {h' : Heap} (c : CALL CP f args h fun x g => x = v ∧ g = h') (Q : Value → Heap → Prop) : CALL CP f args h Q ↔ Q v h' := by
 obtain ⟨n, x, g, he, rfl, rfl⟩ := c
 constructor
 ·rintro ⟨m, x2, g2, he2, hq⟩
  have h1 := evF_mono CP (Nat.le_max_left n m) f args h _ he
  have h2 := evF_mono CP (Nat.le_max_right n m) f args h _ he2
  rw [h1] at h2
  simp only [Option.some.injEq, Prod.mk.injEq] at h2
  obtain ⟨rfl, rfl⟩ := h2
  exact hq
 ·exact fun hq => ⟨n, _, _, he, hq⟩
theorem CALL_enter {f : FuncId} {fn : CFn} (hf : CP f = some fn) (args : List Value) (h : Heap) (Q : Value → Heap → Prop) :
  CALL CP f args h Q ↔ RunC CP fn.body (initE args) h (retQ fn.results Q) := by
 constructor
 ·rintro ⟨n, v, h', hx, hq⟩
  cases n with
  | zero => simp [evF] at hx
  | succ n =>
   simp only [evF, hf] at hx
   cases hy : evC (evF CP n) n fn.body (initE args) h with
   | none => rw [hy] at hx; simp at hx
   | some y =>
    obtain ⟨x, e, h''⟩ := y
    rw [hy] at hx
    cases x with
    | normal =>
     simp only [Option.map_eq_some_iff, Prod.mk.injEq] at hx
     obtain ⟨u, hu, rfl, rfl⟩ := hx
     exact ⟨n, _, _, _, hy, by simp only [retQ, hu, finQ]; exact hq⟩
    | ret =>
     simp only [Option.map_eq_some_iff, Prod.mk.injEq] at hx
     obtain ⟨u, hu, rfl, rfl⟩ := hx
     exact ⟨n, _, _, _, hy, by simp only [retQ, hu, finQ]; exact hq⟩
    | exit i => simp at hx
 ·rintro ⟨n, x, e, h', hx, hq⟩
  have fin : ∀ o : Option Value, finQ o h' Q → ∃ u, o = some u ∧ Q u h' := fun o ho => by
   cases o with
   | none => exact ho.elim
   | some u => exact ⟨u, rfl, ho⟩
  cases x with
  | normal =>
   obtain ⟨u, hu, hq⟩ := fin _ hq
   exact ⟨n + 1, u, h', by simp only [evF, hf, hx, hu]; rfl, hq⟩
  | ret =>
   obtain ⟨u, hu, hq⟩ := fin _ hq
   exact ⟨n + 1, u, h', by simp only [evF, hf, hx, hu]; rfl, hq⟩
  | exit i => exact hq.elim
theorem RunC_skip (e : Env) (h : Heap) (Q : Post) : RunC CP .skip e h Q ↔ Q .normal e h :=
 ⟨fun ⟨_, _, _, _, hx, hq⟩ => by simp only [evC, Option.some.injEq, Prod.mk.injEq] at hx; obtain ⟨rfl, rfl, rfl⟩ := hx; exact hq, fun q => ⟨0, _, _, _, rfl, q⟩⟩
theorem RunC_ret (e : Env) (h : Heap) (Q : Post) : RunC CP .ret e h Q ↔ Q .ret e h :=
 ⟨fun ⟨_, _, _, _, hx, hq⟩ => by simp only [evC, Option.some.injEq, Prod.mk.injEq] at hx; obtain ⟨rfl, rfl, rfl⟩ := hx; exact hq, fun q => ⟨0, _, _, _, rfl, q⟩⟩
theorem RunC_exit (id : Nat) (e : Env) (h : Heap) (Q : Post) : RunC CP (.exit id) e h Q ↔ Q (.exit id) e h :=
 ⟨fun ⟨_, _, _, _, hx, hq⟩ => by simp only [evC, Option.some.injEq, Prod.mk.injEq] at hx; obtain ⟨rfl, rfl, rfl⟩ := hx; exact hq, fun q => ⟨0, _, _, _, rfl, q⟩⟩
theorem RunC_region (r : Env → Reg) (e : Env) (h : Heap) (Q : Post) : RunC CP (.region r) e h Q ↔ RunR CP (r e) h Q := by
 constructor
 ·rintro ⟨n, x, e', h', hx, hq⟩
  simp only [evC, Option.map_eq_some_iff, Prod.mk.injEq] at hx
  obtain ⟨⟨a, b⟩, ha, rfl, rfl, rfl⟩ := hx
  exact ⟨n, _, _, ha, hq⟩
 ·rintro ⟨n, e', h', hx, hq⟩
  exact ⟨n, .normal, e', h', by simp [evC, hx], hq⟩
def dfrE (g : FuncId) (cs : List Value) (Q : Post) : Post
 | .exit _, _, _ => False
 | .normal, e2, h2 => CALL CP g cs h2 fun _ h3 => Q .ret e2 h3
 | .ret, e2, h2 => CALL CP g cs h2 fun _ h3 => Q .ret e2 h3
def dfrQ (g : FuncId) (caps : Env → List Value) (post : CC) (Q : Post) : Post
 | .normal, e1, h1 => RunC CP post e1 h1 (dfrE CP g (caps e1) Q)
 | .ret, e1, h1 => Q .ret e1 h1
 | .exit _, _, _ => False
theorem RunC_dfr (pre : CC) (g : FuncId) (caps : Env → List Value) (post : CC) (e : Env) (h : Heap) (Q : Post) (hr : RunC CP pre e h (dfrQ CP g caps post Q)) : RunC CP (.dfr pre g caps post) e h Q := by
 obtain ⟨n, x, e1, h1, hx, hq⟩ := hr
 cases x with
 | exit i => exact hq.elim
 | ret => exact ⟨n, _, _, _, by simp only [evC, hx], hq⟩
 | normal =>
  obtain ⟨m, x2, e2, h2, hy, hq⟩ := hq
  have fin : (x2 = .normal ∨ x2 = .ret) → CALL CP g (caps e1) h2 (fun _ h3 => Q .ret e2 h3) → RunC CP (.dfr pre g caps post) e h Q := fun hx2 hc => by
   obtain ⟨k, v, h3, hz, hq⟩ := hc
   refine ⟨max (max n m) k, .ret, e2, h3, ?_, hq⟩
   have l1 : n ≤ max (max n m) k := by omega
   have l2 : m ≤ max (max n m) k := by omega
   have l3 : k ≤ max (max n m) k := by omega
   simp only [evC]
   rw [evC_mono (evF_mono CP l1) l1 _ _ _ _ hx]
   simp only
   rw [evC_mono (evF_mono CP l2) l2 _ _ _ _ hy]
   rcases hx2 with rfl | rfl
   ·simp only [evF_mono CP l3 _ _ _ _ hz, Option.map_some]
   ·simp only [evF_mono CP l3 _ _ _ _ hz, Option.map_some]
  cases x2 with
  | exit i => exact hq.elim
  | normal => exact fin (.inl rfl) hq
  | ret => exact fin (.inr rfl) hq
theorem RunC_seq (a b : CC) (e : Env) (h : Heap) (Q : Post) : RunC CP (.seq a b) e h Q ↔ RunC CP a e h (seqQ CP b Q) := by
 constructor
 ·rintro ⟨n, x, e', h', hx, hq⟩
  simp only [evC] at hx
  cases hy : evC (evF CP n) n a e h with
  | none => rw [hy] at hx; simp at hx
  | some y =>
   obtain ⟨x1, e1, h1⟩ := y
   rw [hy] at hx
   cases x1 with
   | normal => exact ⟨n, _, _, _, hy, n, _, _, _, hx, hq⟩
   | exit i => simp only [Option.some.injEq, Prod.mk.injEq] at hx; obtain ⟨rfl, rfl, rfl⟩ := hx; exact ⟨n, _, _, _, hy, hq⟩
   | ret => simp only [Option.some.injEq, Prod.mk.injEq] at hx; obtain ⟨rfl, rfl, rfl⟩ := hx; exact ⟨n, _, _, _, hy, hq⟩
 ·rintro ⟨n, x, e1, h1, hx, hq⟩
  cases x with
  | normal =>
   obtain ⟨m, x2, e2, h2, hy, hq⟩ := hq
   refine ⟨max n m, x2, e2, h2, ?_, hq⟩
   simp only [evC]
   rw [evC_mono (evF_mono CP (Nat.le_max_left n m)) (Nat.le_max_left n m) _ _ _ _ hx]
   exact evC_mono (evF_mono CP (Nat.le_max_right n m)) (Nat.le_max_right n m) _ _ _ _ hy
  | exit i => exact ⟨n, _, _, _, by simp only [evC, hx], hq⟩
  | ret => exact ⟨n, _, _, _, by simp only [evC, hx], hq⟩
theorem RunC_cond (c : Env → Value) (a b : CC) (e : Env) (h : Heap) (Q : Post) :
  RunC CP (.cond c a b) e h Q ↔ match c e with
   | .bool true => RunC CP a e h Q
   | .bool false => RunC CP b e h Q
   | _ => False := by
 constructor
 ·rintro ⟨n, x, e', h', hx, hq⟩
  simp only [evC] at hx
  split at hx
  ·rename_i heq; simp only [heq]; exact ⟨n, _, _, _, hx, hq⟩
  ·rename_i heq; simp only [heq]; exact ⟨n, _, _, _, hx, hq⟩
  ·exact absurd hx (by simp)
 ·intro r
  split at r
  ·rename_i heq; obtain ⟨n, x, e', h', hx, hq⟩ := r; exact ⟨n, _, _, _, by simp only [evC, heq]; exact hx, hq⟩
  ·rename_i heq; obtain ⟨n, x, e', h', hx, hq⟩ := r; exact ⟨n, _, _, _, by simp only [evC, heq]; exact hx, hq⟩
  ·exact r.elim
def condQ (v : Value) (a b : CC) (e : Env) (h : Heap) (Q : Post) : Prop :=
 match v with
 | .bool true => RunC CP a e h Q
 | .bool false => RunC CP b e h Q
 | _ => False
theorem RunC_condQ (c : Env → Value) (a b : CC) (e : Env) (h : Heap) (Q : Post) : RunC CP (.cond c a b) e h Q ↔ condQ CP (c e) a b e h Q :=
 RunC_cond CP c a b e h Q
theorem condQ_true (a b : CC) (e : Env) (h : Heap) (Q : Post) : condQ CP (.bool true) a b e h Q ↔ RunC CP a e h Q := Iff.rfl
theorem condQ_false (a b : CC) (e : Env) (h : Heap) (Q : Post) : condQ CP (.bool false) a b e h Q ↔ RunC CP b e h Q := Iff.rfl
theorem condQ_dec (p : Prop) [Decidable p] (a b : CC) (e : Env) (h : Heap) (Q : Post) :
  condQ CP (.bool (decide p)) a b e h Q ↔ ((p → RunC CP a e h Q) ∧ (¬ p → RunC CP b e h Q)) := by
 by_cases hp : p <;> simp [condQ, hp]
theorem condQ_b (t : Bool) (a b : CC) (e : Env) (h : Heap) (Q : Post) :
  condQ CP (.bool t) a b e h Q ↔ ((t = true → RunC CP a e h Q) ∧ (t = false → RunC CP b e h Q)) := by
 cases t <;> simp [condQ]
theorem RunC_block (id : Nat) (b : CC) (e : Env) (h : Heap) (Q : Post) : RunC CP (.block id b) e h Q ↔ RunC CP b e h (blockQ id Q) := by
 constructor
 ·rintro ⟨n, x, e', h', hx, hq⟩
  simp only [evC] at hx
  cases hy : evC (evF CP n) n b e h with
  | none => rw [hy] at hx; simp at hx
  | some y =>
   obtain ⟨x1, e1, h1⟩ := y
   rw [hy] at hx
   cases x1 with
   | normal => simp only [Option.some.injEq, Prod.mk.injEq] at hx; obtain ⟨rfl, rfl, rfl⟩ := hx; exact ⟨n, _, _, _, hy, hq⟩
   | ret => simp only [Option.some.injEq, Prod.mk.injEq] at hx; obtain ⟨rfl, rfl, rfl⟩ := hx; exact ⟨n, _, _, _, hy, hq⟩
   | exit i =>
    by_cases hi : i = id
    ·simp only [hi, if_true, Option.some.injEq, Prod.mk.injEq] at hx; obtain ⟨rfl, rfl, rfl⟩ := hx
     exact ⟨n, _, _, _, hy, by simp only [blockQ, hi, if_true]; exact hq⟩
    ·simp only [hi, if_false, Option.some.injEq, Prod.mk.injEq] at hx; obtain ⟨rfl, rfl, rfl⟩ := hx
     exact ⟨n, _, _, _, hy, by simp only [blockQ, hi, if_false]; exact hq⟩
 ·rintro ⟨n, x, e', h', hx, hq⟩
  cases x with
  | normal => exact ⟨n, _, _, _, by simp only [evC, hx], hq⟩
  | ret => exact ⟨n, _, _, _, by simp only [evC, hx], hq⟩
  | exit i =>
   by_cases hi : i = id
   ·simp only [blockQ, hi, if_true] at hq
    exact ⟨n, _, _, _, by simp only [evC, hx, hi, if_true], hq⟩
   ·simp only [blockQ, hi, if_false] at hq
    exact ⟨n, _, _, _, by simp only [evC, hx, hi, if_false], hq⟩
def loopQ (I : Env → Heap → Prop) (Q : Post) : Post
 | .normal, e, h => I e h
 | x, e, h => Q x e h
theorem RunC_loop (b : CC) (Q : Post) (I : Nat → Env → Heap → Prop)
  (round : ∀ d e h, I d e h → RunC CP b e h (loopQ (fun e h => ∃ d', d' < d ∧ I d' e h) Q)) :
  ∀ d e h, I d e h → RunC CP (.loop b) e h Q := by
 intro d
 induction d using Nat.strongRecOn with
 | _ d ih =>
  intro e h hI
  obtain ⟨n, x, e1, h1, hx, hq⟩ := round d e h hI
  cases x with
  | normal =>
   obtain ⟨d', hlt, hI'⟩ := hq
   obtain ⟨m, x2, e2, h2, hy, hq2⟩ := ih d' hlt e1 h1 hI'
   refine ⟨max n m + 1, x2, e2, h2, ?_, hq2⟩
   simp only [evC, iter]
   rw [evC_mono (evF_mono CP (Nat.le_succ_of_le (Nat.le_max_left n m))) (Nat.le_succ_of_le (Nat.le_max_left n m)) _ _ _ _ hx]
   simp only
   simp only [evC] at hy
   exact iter_mono (fun e h => evC_mono (evF_mono CP (Nat.le_succ_of_le (Nat.le_max_right n m))) (Nat.le_succ_of_le (Nat.le_max_right n m)) b e h) m (max n m) (Nat.le_max_right n m) e1 h1 _ hy
  | exit i =>
   refine ⟨n + 1, _, _, _, ?_, hq⟩
   simp only [evC, iter]
   rw [evC_mono (evF_mono CP (Nat.le_succ n)) (Nat.le_succ n) _ _ _ _ hx]
  | ret =>
   refine ⟨n + 1, _, _, _, ?_, hq⟩
   simp only [evC, iter]
   rw [evC_mono (evF_mono CP (Nat.le_succ n)) (Nat.le_succ n) _ _ _ _ hx]
theorem RunC_unroll (b : CC) (Q : Post) (e : Env) (h : Heap) (r : RunC CP b e h (loopQ (fun e h => RunC CP (.loop b) e h Q) Q)) : RunC CP (.loop b) e h Q := by
 obtain ⟨n, x, e1, h1, hx, hq⟩ := r
 cases x with
 | normal =>
  obtain ⟨m, x2, e2, h2, hy, hq2⟩ := hq
  refine ⟨max n m + 1, x2, e2, h2, ?_, hq2⟩
  simp only [evC, iter]
  rw [evC_mono (evF_mono CP (Nat.le_succ_of_le (Nat.le_max_left n m))) (Nat.le_succ_of_le (Nat.le_max_left n m)) _ _ _ _ hx]
  simp only
  simp only [evC] at hy
  exact iter_mono (fun e h => evC_mono (evF_mono CP (Nat.le_succ_of_le (Nat.le_max_right n m))) (Nat.le_succ_of_le (Nat.le_max_right n m)) b e h) m (max n m) (Nat.le_max_right n m) e1 h1 _ hy
 | exit i =>
  refine ⟨n + 1, _, _, _, ?_, hq⟩
  simp only [evC, iter]
  rw [evC_mono (evF_mono CP (Nat.le_succ n)) (Nat.le_succ n) _ _ _ _ hx]
 | ret =>
  refine ⟨n + 1, _, _, _, ?_, hq⟩
  simp only [evC, iter]
  rw [evC_mono (evF_mono CP (Nat.le_succ n)) (Nat.le_succ n) _ _ _ _ hx]
theorem RunR_is {r r' : Reg} (q : r = r') (h : Heap) (Q : Post) : RunR CP r h Q ↔ RunR CP r' h Q := by rw [q]
theorem RunR_done (e : Env) (h : Heap) (Q : Post) : RunR CP (.done e) h Q ↔ Q .normal e h :=
 ⟨fun ⟨_, _, _, hx, hq⟩ => by simp only [evR, Option.some.injEq, Prod.mk.injEq] at hx; obtain ⟨rfl, rfl⟩ := hx; exact hq, fun q => ⟨0, _, _, rfl, q⟩⟩
def callvQ (fv : Value) (args : List Value) (h : Heap) (Q : Value → Heap → Prop) : Prop :=
 match fv with
 | .func (.func g) first captured => CALL CP g (first.toList ++ args ++ captured.toList) h Q
 | _ => False
theorem callvQ_eq (g : FuncId) (first captured : Array Value) (args : List Value) (h : Heap) (Q : Value → Heap → Prop) :
  callvQ CP (.func (.func g) first captured) args h Q ↔ CALL CP g (first.toList ++ args ++ captured.toList) h Q := Iff.rfl
theorem run_some {α : Type} {x : Option α} {y : α} (h : x = some y) : x = some y := h
theorem RunR_call0 {o : COp} {f : FuncId} {args : List Value} (ho : ∀ c h, evOp c o h = c f args h) (k : Value → Reg) (h : Heap) (Q : Post) :
  RunR CP (.op o k) h Q ↔ CALL CP f args h (callQ CP k Q) := by
 constructor
 ·rintro ⟨n, e', h', hx, hq⟩
  simp only [evR, ho] at hx
  cases hc : evF CP n f args h with
  | none => rw [hc] at hx; simp at hx
  | some y => rw [hc] at hx; exact ⟨n, _, _, hc, n, _, _, hx, hq⟩
 ·rintro ⟨n, v, h1, hc, m, e', h', hx, hq⟩
  refine ⟨max n m, e', h', ?_, hq⟩
  simp only [evR, ho]
  rw [evF_mono CP (Nat.le_max_left n m) _ _ _ _ hc]
  exact evR_mono (evF_mono CP (Nat.le_max_right n m)) _ _ _ hx
theorem RunR_cop0 {o : COp} (ho : ∀ c h, evOp c o h = cop o h) (k : Value → Reg) (h : Heap) (Q : Post) :
  RunR CP (.op o k) h Q ↔ afterR CP (cop o h) k Q := by
 constructor
 ·rintro ⟨n, e', h', hx, hq⟩
  simp only [evR, ho] at hx
  cases hc : cop o h with
  | none => rw [hc] at hx; simp at hx
  | some y => rw [hc] at hx; exact ⟨n, _, _, hx, hq⟩
 ·intro r
  cases hc : cop o h with
  | none => rw [hc] at r; exact r.elim
  | some y =>
   rw [hc] at r
   obtain ⟨n, e', h', hx, hq⟩ := r
   exact ⟨n, e', h', by simp only [evR, ho, hc]; exact hx, hq⟩
theorem RunR_callv (f : Value) (args : List Value) (k : Value → Reg) (h : Heap) (Q : Post) :
  RunR CP (.op (.callv f args) k) h Q ↔ callvQ CP f args h (callQ CP k Q) := by
 cases f with
 | func fn first captured =>
  cases fn with
  | func g => exact RunR_call0 CP (fun _ _ => rfl) k h Q
  | _ => exact ⟨fun ⟨n, e', h', hx, _⟩ => by simp [evR, evOp, cop] at hx, fun r => r.elim⟩
 | _ => exact ⟨fun ⟨n, e', h', hx, _⟩ => by simp [evR, evOp, cop] at hx, fun r => r.elim⟩
theorem RunR_op (o : COp) (k : Value → Reg) (h : Heap) (Q : Post) :
  RunR CP (.op o k) h Q ↔ match o with
   | .call f args => CALL CP f args h (callQ CP k Q)
   | .callv f args => callvQ CP f args h (callQ CP k Q)
   | o => afterR CP (cop o h) k Q := by
 cases o with
 | call f args => exact RunR_call0 CP (fun _ _ => rfl) k h Q
 | callv f args => exact RunR_callv CP f args k h Q
 | _ => exact RunR_cop0 CP (fun _ _ => rfl) k h Q
theorem RunR_opg (g : Value) (w : Bool) (o : COp) (k : Value → Reg) (h : Heap) (Q : Post) :
  RunR CP (.opg g w o k) h Q ↔ guardR CP (wantV g w) o k h Q := by
 unfold RunR guardR
 simp only [evR]
 cases hw : wantV g w with
 | none => simp
 | some b => cases b <;> simp only [RunR, evR]
theorem guardR_true (o : COp) (k : Value → Reg) (h : Heap) (Q : Post) : guardR CP (some true) o k h Q ↔ RunR CP (.op o k) h Q := Iff.rfl
theorem guardR_false (o : COp) (k : Value → Reg) (h : Heap) (Q : Post) : guardR CP (some false) o k h Q ↔ RunR CP (k (.tuple #[])) h Q := Iff.rfl
theorem RunR_snap (k : Heap → Reg) (h : Heap) (Q : Post) : RunR CP (.snap k) h Q ↔ RunR CP (k h) h Q := by
 unfold RunR; simp only [evR]
theorem RunR_chk (g : Option (Value × Bool)) (hj : Option Heap) (o : COp) (v : Value) (k : Reg) (h : Heap) (Q : Post) : RunR CP (.chk g hj o v k) h Q ↔ (Holds g (hj.getD h) o v ∧ RunR CP k h Q) := by
 unfold RunR; simp only [evR]
 by_cases hc : Holds g (hj.getD h) o v <;> simp [hc]
theorem beq_ft : (false == true) = false := rfl
theorem beq_tf : (true == false) = false := rfl
theorem wantV_bool (x w : Bool) : wantV (.bool x) w = some (x == w) := rfl
theorem wantV_none (w : Bool) : wantV (.tuple #[]) w = some false := rfl
theorem afterR_some (v : Value) (h : Heap) (k : Value → Reg) (Q : Post) : afterR CP (some (v, h)) k Q ↔ RunR CP (k v) h Q := Iff.rfl
theorem seqQ_normal (b : CC) (Q : Post) (e : Env) (h : Heap) : seqQ CP b Q .normal e h ↔ RunC CP b e h Q := Iff.rfl
theorem seqQ_ret (b : CC) (Q : Post) (e : Env) (h : Heap) : seqQ CP b Q .ret e h ↔ Q .ret e h := Iff.rfl
theorem seqQ_exit (b : CC) (Q : Post) (i : Nat) (e : Env) (h : Heap) : seqQ CP b Q (.exit i) e h ↔ Q (.exit i) e h := Iff.rfl
theorem blockQ_normal (id : Nat) (Q : Post) (e : Env) (h : Heap) : blockQ id Q .normal e h ↔ Q .normal e h := Iff.rfl
theorem blockQ_ret (id : Nat) (Q : Post) (e : Env) (h : Heap) : blockQ id Q .ret e h ↔ Q .ret e h := Iff.rfl
theorem blockQ_exit (id i : Nat) (Q : Post) (e : Env) (h : Heap) : blockQ id Q (.exit i) e h ↔ if i = id then Q .normal e h else Q (.exit i) e h := Iff.rfl
theorem loopQ_normal (I : Env → Heap → Prop) (Q : Post) (e : Env) (h : Heap) : loopQ I Q .normal e h ↔ I e h := Iff.rfl
theorem loopQ_ret (I : Env → Heap → Prop) (Q : Post) (e : Env) (h : Heap) : loopQ I Q .ret e h ↔ Q .ret e h := Iff.rfl
theorem loopQ_exit (I : Env → Heap → Prop) (Q : Post) (i : Nat) (e : Env) (h : Heap) : loopQ I Q (.exit i) e h ↔ Q (.exit i) e h := Iff.rfl
theorem retQ_ret (rs : List RV) (Q : Value → Heap → Prop) (e : Env) (h : Heap) : retQ rs Q .ret e h ↔ finQ (resultsV e h rs) h Q := Iff.rfl
theorem retQ_normal (rs : List RV) (Q : Value → Heap → Prop) (e : Env) (h : Heap) : retQ rs Q .normal e h ↔ finQ (resultsV e h rs) h Q := Iff.rfl
theorem finQ_some (v : Value) (h : Heap) (Q : Value → Heap → Prop) : finQ (some v) h Q ↔ Q v h := Iff.rfl
theorem callQ_eq (k : Value → Reg) (Q : Post) (v : Value) (h : Heap) : callQ CP k Q v h ↔ RunR CP (k v) h Q := Iff.rfl
end
def sel : Bool → Value → Value → Value
 | true, a, _ => a
 | false, _, b => b
theorem sel_t (a b : Value) : sel true a b = a := rfl
theorem sel_f (a b : Value) : sel false a b = b := rfl
theorem upd_at (e : Env) (t s : Nat) (v : Value) : (e.upd t v) s = sel (s == t) v (e s) := by
 by_cases h : s = t
 ·subst h; simp [Env.upd, sel]
 ·have h2 : (s == t) = false := by simp [h]
  rw [h2]; simp [Env.upd, h, sel]
theorem upd_same (e : Env) (t : Nat) (v : Value) : (e.upd t v) t = v := by simp [Env.upd]
theorem initE_at (args : List Value) (t : Nat) : initE args t = args.getD t (.tuple #[]) := rfl
theorem obj_upd_same (h : Heap) (b : Nat) (o : Obj) : (h.upd b o).obj b = o := by simp [Heap.upd]
theorem obj_upd_ne (h : Heap) {b x : Nat} (o : Obj) (hne : x ≠ b) : (h.upd b o).obj x = h.obj x := by simp [Heap.upd, hne]
theorem obj_new_same (h : Heap) (o : Obj) : (h.new o).obj h.next = o := by simp [Heap.new]
theorem obj_new_ne (h : Heap) {x : Nat} (o : Obj) (hne : x ≠ h.next) : (h.new o).obj x = h.obj x := by simp [Heap.new, hne]
theorem obj_updnew_same (h : Heap) (b : Nat) (p o : Obj) : ((h.upd b p).new o).obj h.next = o := obj_new_same (h.upd b p) o
theorem obj_updnew_same2 (h : Heap) (b c : Nat) (p q o : Obj) : (((h.upd b p).upd c q).new o).obj h.next = o := obj_new_same ((h.upd b p).upd c q) o
theorem obj_new2_same (h : Heap) (p o : Obj) : ((h.new p).new o).obj (h.next + 1) = o := obj_new_same (h.new p) o
theorem obj_new3_same (h : Heap) (q p o : Obj) : (((h.new q).new p).new o).obj (h.next + 1 + 1) = o := obj_new_same ((h.new q).new p) o
theorem obj_newupd_same (h : Heap) (b : Nat) (q p o : Obj) : (((h.new q).upd b p).new o).obj (h.next + 1) = o := obj_new_same ((h.new q).upd b p) o
theorem obj_new_ne2 (h : Heap) {x : Nat} (p o : Obj) (hne : x ≠ h.next + 1) : ((h.new p).new o).obj x = (h.new p).obj x := obj_new_ne _ _ hne
theorem obj_new_ne3 (h : Heap) {x : Nat} (q p o : Obj) (hne : x ≠ h.next + 1 + 1) : (((h.new q).new p).new o).obj x = ((h.new q).new p).obj x := obj_new_ne _ _ hne
theorem obj_new_ne4 (h : Heap) {x : Nat} (r q p o : Obj) (hne : x ≠ h.next + 1 + 1 + 1) : ((((h.new r).new q).new p).new o).obj x = (((h.new r).new q).new p).obj x := obj_new_ne _ _ hne
theorem next_upd (h : Heap) (b : Nat) (o : Obj) : (h.upd b o).next = h.next := rfl
theorem next_new (h : Heap) (o : Obj) : (h.new o).next = h.next + 1 := rfl
theorem add_zero_addr (a : Addr) : a.add 0 = a := rfl
theorem add_addr (b o n : Nat) (s : Option Nat) (hn : 0 < n) : (⟨b, o, s⟩ : Addr).add n = ⟨b, o + n, none⟩ := by
 unfold Addr.add; rw [if_neg (by omega)]
theorem add_plain (b o n : Nat) : (⟨b, o, none⟩ : Addr).add n = ⟨b, o + n, none⟩ := by
 unfold Addr.add
 split
 ·rename_i h; subst h; rfl
 ·rfl
theorem get_cells (c : List Value) (e : TypeId) (g : How) (o : Nat) : (Obj.cells c e g).get o = c[o]? := rfl
theorem read_cells (c : List Value) (e : TypeId) (g : How) (o n : Nat) : (Obj.cells c e g).read o n = if o + n ≤ c.length then some ((c.drop o).take n) else none := rfl
theorem src_ro (c : List Value) (e : TypeId) (o n : Nat) : (Obj.cells c e .ro).src o n = if o + n ≤ c.length ∧ ((c.drop o).take n).all scalar = true then some ((c.drop o).take n) else none := rfl
theorem src_fix (c : List Value) (e : TypeId) (o n : Nat) : (Obj.cells c e .fix).src o n = if o + n ≤ c.length then some ((c.drop o).take n) else none := rfl
theorem src_grow (c : List Value) (e : TypeId) (o n : Nat) : (Obj.cells c e .grow).src o n = if o + n ≤ c.length then some ((c.drop o).take n) else none := rfl
theorem write_fix (c : List Value) (e : TypeId) (o : Nat) (vs : List Value) : (Obj.cells c e .fix).write o vs = if o + vs.length ≤ c.length then some (.cells (setAt c o vs) e .fix) else none := rfl
theorem write_grow (c : List Value) (e : TypeId) (o : Nat) (vs : List Value) : (Obj.cells c e .grow).write o vs = if o + vs.length ≤ c.length then some (.cells (setAt c o vs) e .grow) else none := rfl
theorem elemOk_ro (c : List Value) (e t : TypeId) : (Obj.cells c e .ro).elemOk t = true := rfl
theorem elemOk_fix (c : List Value) (e t : TypeId) : (Obj.cells c e .fix).elemOk t = true := rfl
theorem elemOk_grow (c : List Value) (e t : TypeId) : (Obj.cells c e .grow).elemOk t = (e == t) := rfl
theorem stiff_ro (c : List Value) (e : TypeId) : (Obj.cells c e .ro).stiff = true := rfl
theorem stiff_fix (c : List Value) (e : TypeId) : (Obj.cells c e .fix).stiff = true := rfl
theorem wrap_i64 {n : Int} (h0 : -9223372036854775808 ≤ n) (h1 : n ≤ 9223372036854775807) : IntKind.i64.wrap n = n := by
 show (if (true && decide (n % 18446744073709551616 ≥ 9223372036854775808)) = true then n % 18446744073709551616 - 18446744073709551616 else n % 18446744073709551616) = n
 simp only [Bool.true_and, Bool.false_and, decide_eq_true_eq, Bool.false_eq_true, if_false]
 split <;> omega
theorem wrap_i32 {n : Int} (h0 : -2147483648 ≤ n) (h1 : n ≤ 2147483647) : IntKind.i32.wrap n = n := by
 show (if (true && decide (n % 4294967296 ≥ 2147483648)) = true then n % 4294967296 - 4294967296 else n % 4294967296) = n
 simp only [Bool.true_and, Bool.false_and, decide_eq_true_eq, Bool.false_eq_true, if_false]
 split <;> omega
theorem wrap_i16 {n : Int} (h0 : -32768 ≤ n) (h1 : n ≤ 32767) : IntKind.i16.wrap n = n := by
 show (if (true && decide (n % 65536 ≥ 32768)) = true then n % 65536 - 65536 else n % 65536) = n
 simp only [Bool.true_and, Bool.false_and, decide_eq_true_eq, Bool.false_eq_true, if_false]
 split <;> omega
theorem wrap_i8 {n : Int} (h0 : -128 ≤ n) (h1 : n ≤ 127) : IntKind.i8.wrap n = n := by
 show (if (true && decide (n % 256 ≥ 128)) = true then n % 256 - 256 else n % 256) = n
 simp only [Bool.true_and, Bool.false_and, decide_eq_true_eq, Bool.false_eq_true, if_false]
 split <;> omega
theorem wrap_u8 {n : Int} (h0 : 0 ≤ n) (h1 : n ≤ 255) : IntKind.u8.wrap n = n := by
 show (if (false && decide (n % 256 ≥ 128)) = true then n % 256 - 256 else n % 256) = n
 simp only [Bool.true_and, Bool.false_and, decide_eq_true_eq, Bool.false_eq_true, if_false]
 omega
theorem wrap_u16 {n : Int} (h0 : 0 ≤ n) (h1 : n ≤ 65535) : IntKind.u16.wrap n = n := by
 show (if (false && decide (n % 65536 ≥ 32768)) = true then n % 65536 - 65536 else n % 65536) = n
 simp only [Bool.true_and, Bool.false_and, decide_eq_true_eq, Bool.false_eq_true, if_false]
 omega
theorem wrap_u32 {n : Int} (h0 : 0 ≤ n) (h1 : n ≤ 4294967295) : IntKind.u32.wrap n = n := by
 show (if (false && decide (n % 4294967296 ≥ 2147483648)) = true then n % 4294967296 - 4294967296 else n % 4294967296) = n
 simp only [Bool.true_and, Bool.false_and, decide_eq_true_eq, Bool.false_eq_true, if_false]
 omega
theorem wrap_u64 {n : Int} (h0 : 0 ≤ n) (h1 : n ≤ 18446744073709551615) : IntKind.u64.wrap n = n := by
 show (if (false && decide (n % 18446744073709551616 ≥ 9223372036854775808)) = true then n % 18446744073709551616 - 18446744073709551616 else n % 18446744073709551616) = n
 simp only [Bool.true_and, Bool.false_and, decide_eq_true_eq, Bool.false_eq_true, if_false]
 omega
def ints (k : IntKind) (l : List Int) : List Value := l.map (.int k)
theorem ints_len (k : IntKind) (l : List Int) : (ints k l).length = l.length := by simp [ints]
theorem ints_get (k : IntKind) (l : List Int) {i : Nat} {x : Int} (h : l[i]? = some x) : (ints k l)[i]? = some (.int k x) := by simp [ints, h]
theorem ints_set (k : IntKind) (l : List Int) (i : Nat) (x : Int) : (ints k l).set i (.int k x) = ints k (l.set i x) := by simp [ints, List.map_set]
structure Old (h h' : Heap) : Prop where
 next : h.next ≤ h'.next
 obj : ∀ b, b < h.next → h'.obj b = h.obj b
theorem Old.refl (h : Heap) : Old h h := ⟨Nat.le_refl _, fun _ _ => rfl⟩
theorem Old.trans {a b c : Heap} (h : Old a b) (k : Old b c) : Old a c := ⟨Nat.le_trans h.next k.next, fun x hx => by rw [k.obj x (Nat.lt_of_lt_of_le hx h.next), h.obj x hx]⟩
theorem CALL_heap {CP : CProg} {f : FuncId} {args : List Value} {h : Heap} {Q : Value → Heap → Prop} (P : Heap → Prop) (hp : P h) (k : ∀ h', P h' → CALL CP f args h' Q) : CALL CP f args h Q := k h hp
theorem RunR_congr {CP : CProg} {r r' : Reg} (h : Heap) (Q : Post) (e : r = r') : RunR CP r h Q = RunR CP r' h Q := by rw [e]
theorem RunC_congr {CP : CProg} {c c' : CC} (e : Env) (h : Heap) (Q : Post) (q : c = c') : RunC CP c e h Q = RunC CP c' e h Q := by rw [q]
theorem afterR_congr {CP : CProg} {r r' : Option (Value × Heap)} (k : Value → Reg) (Q : Post) (e : r = r') : afterR CP r k Q = afterR CP r' k Q := by rw [e]
theorem guardR_congr {CP : CProg} {b b' : Option Bool} (o : COp) (k : Value → Reg) (h : Heap) (Q : Post) (e : b = b') : guardR CP b o k h Q = guardR CP b' o k h Q := by rw [e]
theorem condQ_congr {CP : CProg} {v v' : Value} (a b : CC) (e : Env) (h : Heap) (Q : Post) (q : v = v') : condQ CP v a b e h Q = condQ CP v' a b e h Q := by rw [q]
theorem CALL_congr {CP : CProg} {f : FuncId} {args args' : List Value} (h : Heap) (Q : Value → Heap → Prop) (e : args = args') : CALL CP f args h Q = CALL CP f args' h Q := by rw [e]
theorem finQ_congr {v v' : Option Value} (h : Heap) (Q : Value → Heap → Prop) (e : v = v') : finQ v h Q = finQ v' h Q := by rw [e]
theorem op_congr {o o' : COp} (k : Value → Reg) (e : o = o') : Reg.op o k = Reg.op o' k := by rw [e]
theorem opg_congr {g g' : Value} {w : Bool} {o : COp} (k : Value → Reg) (e : g = g') : Reg.opg g w o k = Reg.opg g' w o k := by rw [e]
end Go.Proofs.YtlakhgibjfmjjaaGreat.Can
namespace Go.Proofs.YtlakhgibjfmjjaaGreat.Can
open Go
def LoopIn (P : Program) (c : Code) (Q : Exit → Act → World → Prop) (a : Act) (w : World) : Prop :=
 ∀ (b : Frame) (k : List Item) (cs : List Frame), ∃ e a' w', Q e a' w' ∧ Arrives P (lone (b.at a (.code c :: .inLoop c :: k)) cs w) b k cs e a' w'
theorem LoopIn.loop {P : Program} {c : Code} {Q : Exit → Act → World → Prop} {a : Act} {w : World} (h : LoopIn P c Q a w) : (Code.loop c).wp P Q a w := by
 intro b k cs
 obtain ⟨e, a', w', hq, harr⟩ := h b k cs
 exact ⟨e, a', w', hq, .of_steps (.one step_loop) harr⟩
theorem LoopIn.round {P : Program} {c : Code} {Q : Exit → Act → World → Prop} {a : Act} {w : World} (h : c.wp P (Exit.then (LoopIn P c Q) Q) a w) : LoopIn P c Q a w := by
 intro b k cs
 obtain ⟨e, a₁, w₁, hq, harr⟩ := h b (.inLoop c :: k) cs
 cases e with
 | normal =>
  obtain ⟨e₂, a₂, w₂, hq₂, harr₂⟩ := hq b k cs
  exact ⟨e₂, a₂, w₂, hq₂, .of_steps (Steps.trans harr (.one step_inLoop)) harr₂⟩
 | exit id => exact ⟨_, a₁, w₁, hq, .pass (x := .inLoop c) rfl (fun _ _ => .inl (by simp)) harr⟩
 | goto l => exact ⟨_, a₁, w₁, hq, .pass (x := .inLoop c) rfl (fun _ _ => .inl (by simp)) harr⟩
 | ret => exact ⟨_, a₁, w₁, hq, .pass (x := .inLoop c) rfl (fun _ _ => .inl (by simp)) harr⟩
 | panic ch => exact ⟨_, a₁, w₁, hq, .pass (x := .inLoop c) rfl (fun _ _ => .inl (by simp)) harr⟩
 | outgrown => exact ⟨_, a₁, w₁, hq, .pass (x := .inLoop c) rfl (fun _ _ => .inl (by simp)) harr⟩
theorem iter_next {f : Env → Heap → Option (X × Env × Heap)} (hf : ∀ {e h x e1 h1}, f e h = some (x, e1, h1) → h.next ≤ h1.next) : ∀ (n : Nat) {e h x e1 h1}, iter f n e h = some (x, e1, h1) → h.next ≤ h1.next
 | 0, _, _, _, _, _, hc => by simp [iter] at hc
 | n + 1, e, h, x, e1, h1, hc => by
  simp only [iter] at hc
  split at hc
  ·rename_i e' h' he
   exact Nat.le_trans (hf he) (iter_next hf n hc)
  ·exact hf hc
theorem evC_next {P : Program} {call : CallFn} (hcall : CallsOK P call) {N : Nat} (c : CC) : ∀ {e h x e1 h1}, evC call N c e h = some (x, e1, h1) → h.next ≤ h1.next := by
 induction c with
 | skip => intro e h x e1 h1 hc; simp only [evC, Option.some.injEq, Prod.mk.injEq] at hc; rw [hc.2.2]; exact Nat.le_refl _
 | exit id => intro e h x e1 h1 hc; simp only [evC, Option.some.injEq, Prod.mk.injEq] at hc; rw [hc.2.2]; exact Nat.le_refl _
 | ret => intro e h x e1 h1 hc; simp only [evC, Option.some.injEq, Prod.mk.injEq] at hc; rw [hc.2.2]; exact Nat.le_refl _
 | bad => intro e h x e1 h1 hc; simp [evC] at hc
 | region r =>
  intro e h x e1 h1 hc
  simp only [evC, Option.map_eq_some_iff] at hc
  obtain ⟨⟨e', h'⟩, hr, heq⟩ := hc
  simp only [Prod.mk.injEq] at heq
  rw [← heq.2.2]
  exact evR_next hcall _ hr
 | seq a b iha ihb =>
  intro e h x e1 h1 hc
  simp only [evC] at hc
  split at hc
  ·rename_i e' h' he; exact Nat.le_trans (iha he) (ihb hc)
  ·exact iha hc
 | cond c a b iha ihb =>
  intro e h x e1 h1 hc
  simp only [evC] at hc
  split at hc
  ·exact iha hc
  ·exact ihb hc
  ·simp at hc
 | block id b ih =>
  intro e h x e1 h1 hc
  simp only [evC] at hc
  split at hc
  ·rename_i i e' h' he
   split at hc
   ·simp only [Option.some.injEq, Prod.mk.injEq] at hc; rw [← hc.2.2]; exact ih he
   ·simp only [Option.some.injEq, Prod.mk.injEq] at hc; rw [← hc.2.2]; exact ih he
  ·exact ih hc
 | loop b ih =>
  intro e h x e1 h1 hc
  simp only [evC] at hc
  exact iter_next (fun h => ih h) N hc
 | dfr pre g caps post iha ihb =>
  intro e h x e1 h1 hc
  simp only [evC] at hc
  split at hc
  ·rename_i e' h' he
   split at hc
   ·rename_i e2 h2 he2
    simp only [Option.map_eq_some_iff, Prod.mk.injEq] at hc
    obtain ⟨r, hr, _, _, rfl⟩ := hc
    exact Nat.le_trans (iha he) (Nat.le_trans (ihb he2) (hcall _ _ _ _ _ hr).next)
   ·rename_i e2 h2 he2
    simp only [Option.map_eq_some_iff, Prod.mk.injEq] at hc
    obtain ⟨r, hr, _, _, rfl⟩ := hc
    exact Nat.le_trans (iha he) (Nat.le_trans (ihb he2) (hcall _ _ _ _ _ hr).next)
   ·simp at hc
  ·rename_i e' h' he
   simp only [Option.some.injEq, Prod.mk.injEq] at hc
   rw [← hc.2.2]; exact iha he
  ·simp at hc
def exitOf : X → Exit
 | .normal => .normal
 | .exit id => .exit id
 | .ret => .ret
theorem Slots.drop {p : Pers} {m : Map} {e l : Env} {a : Act} (s : Slots p m e l a) : Slots p m e (fun _ => unk) a :=
 ⟨fun t => by
  have := s.rel t
  unfold lookT at this ⊢
  split
  ·rename_i h; rw [if_pos h] at this; exact this
  ·exact .unk _, s.size, s.defers, s.glob⟩
section
variable {P : Program}
theorem code_sim {S : Stay} {call : CallFn} (hcall : CallsOK P call) (N : Nat) (p : Pers) (c : Code) : ∀ {Q : Exit → Act → World → Prop} {x : X} {e1 : Env} {h1 : Heap} {m : Map} {e : Env} {h : Heap} {a : Act} {w : World},
  evC call N (toCC P p c) e h = some (x, e1, h1) → Slots p m e (fun _ => unk) a → Emb P S m h w → Free m h.next h1.next →
  (∀ a1 w1 m1, Slots p m1 e1 (fun _ => unk) a1 → Out P S m h w m1 h1 w1 → Q (exitOf x) a1 w1) → c.wp P Q a w := by
 induction c with
 | skip =>
  intro Q x e1 h1 m e h a w hr hs hE hf hQ
  simp only [toCC, evC, Option.some.injEq, Prod.mk.injEq] at hr
  obtain ⟨rfl, rfl, rfl⟩ := hr
  exact wp_skip (hQ a w m hs (Out.refl hE))
 | exit id =>
  intro Q x e1 h1 m e h a w hr hs hE hf hQ
  simp only [toCC, evC, Option.some.injEq, Prod.mk.injEq] at hr
  obtain ⟨rfl, rfl, rfl⟩ := hr
  exact wp_exit (hQ a w m hs (Out.refl hE))
 | ret =>
  intro Q x e1 h1 m e h a w hr hs hE hf hQ
  simp only [toCC, evC, Option.some.injEq, Prod.mk.injEq] at hr
  obtain ⟨rfl, rfl, rfl⟩ := hr
  exact wp_ret (hQ a w m hs (Out.refl hE))
 | region id ops d =>
  intro Q x e1 h1 m e h a w hr hs hE hf hQ
  cases d with
  | false =>
   simp only [toCC, evC, Option.map_eq_some_iff, Prod.mk.injEq] at hr
   obtain ⟨⟨e', h'⟩, hr, rfl, rfl, rfl⟩ := hr
   exact wp_region_list (reg_sim hcall p ops ops.toList m e _ h a w hr hs hE hf fun a1 w1 m1 l1 hs1 ho => hQ a1 w1 m1 hs1.drop ho)
  | true =>
   simp only [toCC] at hr
   split at hr
   ·rename_i hok
    simp only [Bool.and_eq_true] at hok
    simp only [evC, Option.map_eq_some_iff, Prod.mk.injEq] at hr
    obtain ⟨⟨e', h'⟩, hr, rfl, rfl, rfl⟩ := hr
    exact draw_sim hcall p ops (aheadOf ops) hok.1.1 hok.1.2 hok.2 hr hs hE hf fun a1 w1 m1 l1 hs1 ho => hQ a1 w1 m1 hs1.drop ho
   ·simp [evC] at hr
 | seq a b iha ihb =>
  intro Q x e1 h1 m e h ac w hr hs hE hf hQ
  simp only [toCC, evC] at hr
  split at hr
  ·rename_i e' h' he
   have hn := evC_next hcall _ hr
   refine wp_seq (iha he hs hE (hf.mono (Nat.le_refl _) hn) fun a1 w1 m1 hs1 ho => ?_)
   exact ihb hr hs1 ho.emb (Free.out ho hf) fun a2 w2 m2 hs2 ho2 => hQ a2 w2 m2 hs2 (ho.trans ho2)
  ·rename_i hne
   refine wp_seq (iha hr hs hE hf fun a1 w1 m1 hs1 ho => ?_)
   have := hQ a1 w1 m1 hs1 ho
   cases x with
   | normal => exact absurd hr (hne _ _)
   | exit id => exact this
   | ret => exact this
 | cond c a b iha ihb =>
  intro Q x e1 h1 m e h ac w hr hs hE hf hQ
  simp only [toCC, evC] at hr
  have hv := hs.eval c
  split at hr
  ·rename_i hc
   rw [hc] at hv
   exact wp_cond_true hv.bool_inv (iha hr hs hE hf hQ)
  ·rename_i hc
   rw [hc] at hv
   exact wp_cond_false hv.bool_inv (ihb hr hs hE hf hQ)
  ·simp at hr
 | block id b ih =>
  intro Q x e1 h1 m e h a w hr hs hE hf hQ
  simp only [toCC, evC] at hr
  split at hr
  ·rename_i i e' h' he
   have hh : h' = h1 ∧ e' = e1 ∧ (i = id ∧ x = .normal ∨ i ≠ id ∧ x = .exit i) := by
    split at hr
    ·rename_i hi
     simp only [Option.some.injEq, Prod.mk.injEq] at hr
     exact ⟨hr.2.2, hr.2.1, .inl ⟨hi, hr.1.symm⟩⟩
    ·rename_i hi
     simp only [Option.some.injEq, Prod.mk.injEq] at hr
     exact ⟨hr.2.2, hr.2.1, .inr ⟨hi, hr.1.symm⟩⟩
   obtain ⟨rfl, rfl, hx⟩ := hh
   refine wp_block (ih he hs hE hf fun a1 w1 m1 hs1 ho => ?_)
   have := hQ a1 w1 m1 hs1 ho
   show (if i = id then Q .normal a1 w1 else Q (.exit i) a1 w1)
   rcases hx with ⟨hi, rfl⟩ | ⟨hi, rfl⟩
   ·rw [if_pos hi]; exact this
   ·rw [if_neg hi]; exact this
  ·rename_i hne
   refine wp_block (ih hr hs hE hf fun a1 w1 m1 hs1 ho => ?_)
   have := hQ a1 w1 m1 hs1 ho
   cases x with
   | normal => exact this
   | exit i => exact absurd hr (hne _ _ _)
   | ret => exact this
 | loop b ih =>
  intro Q x e1 h1 m e h a w hr hs hE hf hQ
  simp only [toCC, evC] at hr
  refine LoopIn.loop ?_
  have key : ∀ (n : Nat) {m : Map} {e : Env} {h : Heap} {a : Act} {w : World}, iter (evC call N (toCC P p b)) n e h = some (x, e1, h1) → Slots p m e (fun _ => unk) a → Emb P S m h w → Free m h.next h1.next →
    (∀ a1 w1 m1, Slots p m1 e1 (fun _ => unk) a1 → Out P S m h w m1 h1 w1 → Q (exitOf x) a1 w1) → LoopIn P b Q a w := by
   intro n
   induction n with
   | zero => intro m e h a w hr; simp [iter] at hr
   | succ n ihn =>
    intro m e h a w hr hs hE hf hQ
    simp only [iter] at hr
    split at hr
    ·rename_i e' h' he
     have hn := iter_next (fun h => evC_next hcall _ h) n hr
     refine LoopIn.round (ih he hs hE (hf.mono (Nat.le_refl _) hn) fun a1 w1 m1 hs1 ho => ?_)
     exact ihn hr hs1 ho.emb (Free.out ho hf) fun a2 w2 m2 hs2 ho2 => hQ a2 w2 m2 hs2 (ho.trans ho2)
    ·rename_i hne
     refine LoopIn.round (ih hr hs hE hf fun a1 w1 m1 hs1 ho => ?_)
     have := hQ a1 w1 m1 hs1 ho
     cases x with
     | normal => exact absurd hr (hne _ _)
     | exit id => exact this
     | ret => exact this
  exact key N hr hs hE hf hQ
 | _ =>
  intros
  rename_i hr _ _ _ _
  simp [toCC, evC] at hr
def resM (tmps : Array Value) : ResultVar → Sem Value
 | .tmp t => pure (tmps.getD t undef)
 | .cell a t => do loadVar t (← asAddr (tmps.getD a undef))
theorem results_is (F : Func) (tmps : Array Value) : results F tmps = (do
  let vs ← F.results.mapM (resM tmps)
  pure (if h : vs.size = 1 then vs[0] else .tuple vs)) := rfl
theorem resT_rel {S : Stay} {m : Map} {h : Heap} {w : World} (hE : Emb P S m h w) {r : ResultVar} {c : RV} (hr : resT P r = some c) {p : Pers} (hp : p.has c.slot = true) {e : Env} {a : Act} (s : Slots p m e (fun _ => unk) a) {v : Value} (hv : resV e h c = some v) :
  ∃ v', (resM a.tmps r).run P w = .ok v' w ∧ VR m v v' := by
 have hat : ∀ t, p.has t = true → VR m (e t) (a.tmps.getD t undef) := fun t ht => by
  have := s.rel t
  unfold lookT at this
  rw [if_pos ht] at this; exact this
 cases r with
 | tmp t =>
  simp only [resT, Option.some.injEq] at hr
  subst hr
  simp only [resV, Option.some.injEq] at hv
  subst hv
  exact ⟨_, rfl, hat t hp⟩
 | cell x t =>
  simp only [resT] at hr
  split at hr
  case isFalse => simp at hr
  rename_i ht
  obtain rfl := Option.some.inj hr
  simp only [resV, Option.map_eq_some_iff] at hv
  obtain ⟨⟨u, h2⟩, hc, rfl⟩ := hv
  obtain ⟨d, i, hu, hi⟩ := hasT_info ht
  have hx := hat x hp
  simp only [cop] at hc
  split at hc
  case h_2 => simp at hc
  rename_i b o hex
  rw [hex] at hx
  obtain ⟨b', o', L, heq, hb, hx'⟩ := hx.ptr_inv
  obtain ⟨rfl, rfl, -⟩ := Addr.mk.inj heq
  unfold aggT at hc
  by_cases hagg : isAggT P t = true
  ·rw [if_pos hagg] at hc
   simp only [Option.map_eq_some_iff, Prod.mk.injEq] at hc
   obtain ⟨cs, hcs, rfl, rfl⟩ := hc
   obtain ⟨hl, cs', hv, hcell⟩ := read_sim hE hb hcs
   have hl' : cs'.length = P.cellsOf t := by rw [← hv.1]; exact hl
   refine ⟨_, ?_, VR.agg_of (a := cs.toArray) (a' := cs'.toArray) (by simpa using hv)⟩
   have := run_loadCells_sim (P := P) hcell
   rw [hl'] at this
   simp only [resM, hx', asAddr, loadVar, Sem.run_bind, Sem.run_pure, Result.andThen_ok, run_isAgg' w hu, hagg, if_true, run_sizeOf' w hi, this]
  ·simp only [hagg, Bool.false_eq_true, if_false, Option.map_eq_some_iff, Prod.mk.injEq] at hc
   obtain ⟨cv, hcv, rfl, rfl⟩ := hc
   obtain ⟨v', hcell, hv⟩ := get_sim hE hb hcv
   refine ⟨_, ?_, hv⟩
   simp only [resM, hx', asAddr, loadVar, Sem.run_bind, Sem.run_pure, Result.andThen_ok, run_isAgg' w hu, hagg, Bool.false_eq_true, if_false, run_load, hcell]
theorem results_sim {S : Stay} {m : Map} {h : Heap} {w : World} (hE : Emb P S m h w) {F : Func} {rs : List RV} (hF : F.results.toList.mapM (resT P) = some rs) (h3 : rs.length ≤ 3) {p : Pers} (hp : (rs.all fun r => p.has r.slot) = true) {e : Env} {a : Act} (s : Slots p m e (fun _ => unk) a) {v : Value} (hv : resultsV e h rs = some v) :
  ∃ v', (results F a.tmps).run P w = .ok v' w ∧ VR m v v' := by
 obtain ⟨l, hl⟩ : ∃ l, F.results = l.toArray ∧ F.results.toList = l := ⟨F.results.toList, by simp, rfl⟩
 rw [hl.2] at hF
 have hcons : ∀ {r : ResultVar} {l : List ResultVar} {rs : List RV}, (r :: l).mapM (resT P) = some rs → ∃ c cs, rs = c :: cs ∧ resT P r = some c ∧ l.mapM (resT P) = some cs := fun h => by
  simp only [List.mapM_cons, Option.bind_eq_bind, Option.bind_eq_some_iff, Option.pure_def, Option.some.injEq] at h
  obtain ⟨c, hc, cs, hcs, rfl⟩ := h
  exact ⟨c, cs, rfl, hc, hcs⟩
 have hnil : ∀ {rs : List RV}, ([] : List ResultVar).mapM (resT P) = some rs → rs = [] := fun h => by
  simp only [List.mapM_nil, Option.pure_def, Option.some.injEq] at h
  exact h.symm
 rw [results_is, hl.1]
 match l, hF with
 | [], hF =>
  obtain rfl := hnil hF
  simp only [resultsV, resL, List.map_nil, Option.map_some, Option.some.injEq] at hv
  subst hv
  exact ⟨.tuple #[], by simp, .tuple _ _ rfl (fun i x y hx => by simp at hx)⟩
 | [r], hF =>
  obtain ⟨c, cs, rfl, h1, hF⟩ := hcons hF
  obtain rfl := hnil hF
  simp only [List.all_cons, List.all_nil, Bool.and_true] at hp
  obtain ⟨v1, k1, q1⟩ := resT_rel hE h1 hp s hv
  exact ⟨v1, by simp [Sem.run_bind, k1], q1⟩
 | [r, r2], hF =>
  obtain ⟨c, cs, rfl, h1, hF⟩ := hcons hF
  obtain ⟨c2, cs, rfl, h2, hF⟩ := hcons hF
  obtain rfl := hnil hF
  simp only [List.all_cons, List.all_nil, Bool.and_true, Bool.and_eq_true] at hp
  simp only [resultsV, List.map_cons, List.map_nil] at hv
  cases e1 : resV e h c with
  | none => rw [e1] at hv; simp [resL] at hv
  | some u1 =>
   cases e2 : resV e h c2 with
   | none => rw [e1, e2] at hv; simp [resL] at hv
   | some u2 =>
    rw [e1, e2] at hv
    simp only [resL, Option.map_some, Option.some.injEq] at hv
    subst hv
    obtain ⟨v1, k1, q1⟩ := resT_rel hE h1 hp.1 s e1
    obtain ⟨v2, k2, q2⟩ := resT_rel hE h2 hp.2 s e2
    refine ⟨.tuple #[v1, v2], by simp [Sem.run_bind, k1, k2], .tuple _ _ rfl ?_⟩
    have hvl := VL.cons q1 (VL.cons q2 (VL.nil m))
    exact fun i x y hx hy => hvl.2 i x y (by simpa using hx) (by simpa using hy)
 | [r, r2, r3], hF =>
  obtain ⟨c, cs, rfl, h1, hF⟩ := hcons hF
  obtain ⟨c2, cs, rfl, h2, hF⟩ := hcons hF
  obtain ⟨c3, cs, rfl, h3', hF⟩ := hcons hF
  obtain rfl := hnil hF
  simp only [List.all_cons, List.all_nil, Bool.and_true, Bool.and_eq_true] at hp
  simp only [resultsV, List.map_cons, List.map_nil] at hv
  cases e1 : resV e h c with
  | none => rw [e1] at hv; simp [resL] at hv
  | some u1 =>
   cases e2 : resV e h c2 with
   | none => rw [e1, e2] at hv; simp [resL] at hv
   | some u2 =>
    cases e3 : resV e h c3 with
    | none => rw [e1, e2, e3] at hv; simp [resL] at hv
    | some u3 =>
     rw [e1, e2, e3] at hv
     simp only [resL, Option.map_some, Option.some.injEq] at hv
     subst hv
     obtain ⟨v1, k1, q1⟩ := resT_rel hE h1 hp.1 s e1
     obtain ⟨v2, k2, q2⟩ := resT_rel hE h2 hp.2.1 s e2
     obtain ⟨v3, k3, q3⟩ := resT_rel hE h3' hp.2.2 s e3
     refine ⟨.tuple #[v1, v2, v3], by simp [Sem.run_bind, k1, k2, k3], .tuple _ _ rfl ?_⟩
     have hvl := VL.cons q1 (VL.cons q2 (VL.cons q3 (VL.nil m)))
     exact fun i x y hx hy => hvl.2 i x y (by simpa using hx) (by simpa using hy)
 | r :: r2 :: r3 :: r4 :: l, hF =>
  obtain ⟨c, cs, rfl, h1, hF⟩ := hcons hF
  obtain ⟨c2, cs, rfl, h2, hF⟩ := hcons hF
  obtain ⟨c3, cs, rfl, h3', hF⟩ := hcons hF
  obtain ⟨c4, cs, rfl, h4, hF⟩ := hcons hF
  simp only [List.length_cons] at h3
  omega
theorem lookE_ds (p : Pers) (D : List Deferred) : lookE { p with ds := D } = lookE p := by
 funext e l x
 cases x <;> rfl
theorem putE_ds (p : Pers) (D : List Deferred) : putE { p with ds := D } = putE p := by
 funext e l d v
 cases d <;> rfl
theorem opReg_ds (P : Program) (p : Pers) (D : List Deferred) : opReg P { p with ds := D } = opReg P p := by
 funext all o e l k
 unfold opReg
 rw [lookE_ds]
 rfl
theorem guardV_ds (p : Pers) (D : List Deferred) : guardV { p with ds := D } = guardV p := by
 funext all o e l
 unfold guardV
 rw [lookE_ds]
theorem toReg_ds (P : Program) (p : Pers) (D : List Deferred) (all : Array Oper) : ∀ (ops : List Oper) (e l : Env), toReg P { p with ds := D } all ops e l = toReg P p all ops e l
 | [], e, l => rfl
 | o :: rest, e, l => by
  simp only [toReg, opReg_ds, putE_ds, toReg_ds P p D all rest]
theorem toRegD_ds (P : Program) (p : Pers) (D : List Deferred) (all : Array Oper) (ah : List (List Nat)) : ∀ (ops : List Oper) (i : Nat) (e l : Env) (hist : List Hist) (snaps : List (Nat × Heap)), toRegD P { p with ds := D } all ah ops i e l hist snaps = toRegD P p all ah ops i e l hist snaps
 | [], i, e, l, hist, snaps => rfl
 | o :: rest, i, e, l, hist, snaps => by
  simp only [toRegD, opReg_ds, putE_ds, lookE_ds, guardV_ds, toRegD_ds P p D all ah rest]
theorem toCC_ds (p : Pers) (D : List Deferred) (c : Code) : toCC P { p with ds := D } c = toCC P p c := by
 induction c with
 | seq a b iha ihb => simp only [toCC, iha, ihb]
 | cond x a b iha ihb => simp only [toCC, iha, ihb, lookE_ds]
 | block id b ih => simp only [toCC, ih]
 | loop b ih => simp only [toCC, ih]
 | region id ops d => cases d <;> simp only [toCC, toReg_ds, toRegD_ds]
 | _ => rfl
theorem isDef_some {c : Code} {g : FuncId} {caps : Array Operand} {t : Nat} (h : isDef c = some (g, caps, t)) : ∃ id ops mk df ts first, c = .region id ops false ∧ ops.toList = [mk, df] ∧ mk.op = .makeFunc (.func g) first caps ∧ first = #[] ∧ mk.guard = none ∧ mk.dst = some t ∧ df.op = .defer ⟨.value (.tmp t), #[], ts⟩ ∧ df.guard = none ∧ df.dst = none := by
 unfold isDef at h
 split at h
 ·rename_i id ops
  split at h
  ·rename_i mk df hl
   split at h
   ·rename_i g' first caps' t1 t2 args ts h1 h2 h3 h4 h5 h6
    split at h
    ·rename_i hc
     simp only [Bool.and_eq_true] at hc
     obtain ⟨⟨ha, hb⟩, ht⟩ := hc
     simp only [Option.some.injEq, Prod.mk.injEq] at h
     obtain ⟨rfl, rfl, rfl⟩ := h
     have hb' : args = #[] := by simpa using hb
     subst hb'
     have : t1 = t2 := Nat.eq_of_beq_eq_true ht
     subst this
     exact ⟨id, ops, mk, df, ts, first, rfl, hl, h1, by simpa using ha, h2, h3, h4, h5, h6⟩
    ·simp at h
   ·simp at h
  ·simp at h
 ·simp at h
theorem dfr_sim {S : Stay} {call : CallFn} (hcall : CallsOK P call) (N : Nat) (p : Pers) (hds : p.ds = []) {Q : Exit → Act → World → Prop} : ∀ (c : Code) {pre post : Code} {g : FuncId} {caps : Array Operand} {t : Nat}, splitDef c = some (pre, (g, caps, t), post) → Nat.blt t p.size = true → p.has t = false →
  ∀ {x : X} {e1 : Env} {h1 : Heap} {m : Map} {e : Env} {h : Heap} {a : Act} {w : World},
  evC call N (toCC P p pre) e h = some (x, e1, h1) → Slots p m e (fun _ => unk) a → Emb P S m h w → Free m h.next h1.next →
  (x ≠ .normal → ∀ a1 w1 m1, Slots p m1 e1 (fun _ => unk) a1 → Out P S m h w m1 h1 w1 → Q (exitOf x) a1 w1) →
  (x = .normal → ∀ a1 w1 m1 c', Slots { p with ds := [⟨.fn (.func g) c', #[]⟩] } m1 e1 (fun _ => unk) a1 → Out P S m h w m1 h1 w1 → VL m1 (caps.toList.map (lookE p e1 (fun _ => unk))) c'.toList → post.wp P Q a1 w1) →
  c.wp P Q a w := by
 intro c
 induction c with
 | seq a b iha ihb =>
  intro pre post g caps t hsp hlt hnot x e1 h1 m e h ac w hr hs hE hf hQ1 hQ2
  simp only [splitDef] at hsp
  split at hsp
  ·rename_i r hd
   simp only [Option.some.injEq, Prod.mk.injEq] at hsp
   obtain ⟨rfl, rfl, rfl⟩ := hsp
   simp only [toCC, evC, Option.some.injEq, Prod.mk.injEq] at hr
   obtain ⟨rfl, rfl, rfl⟩ := hr
   obtain ⟨id, ops, mk, df, ts, first, rfl, hl, k1, rfl, k2, k3, k4, k5, k6⟩ := isDef_some hd
   refine wp_seq (wp_region_list ?_)
   rw [hl]
   unfold wpList
   rw [if_pos (by simp [Region.wanted, k2])]
   left
   have hres : resOp P mk (lookE p e (fun _ => unk)) = .makeFunc g [] (caps.toList.map (lookE p e (fun _ => unk))) := by
    unfold resOp
    rw [k1]
    simp only [resP, k1]
    rfl
   refine op_wp hcall hE mk ac hs.eval (v := .func (.func g) #[] (caps.toList.map (lookE p e (fun _ => unk))).toArray) (h1 := h) (by rw [hres]; rfl) (fun b hb hb2 => by omega) hs.glob fun v' w1 m1 hv ho => ?_
   obtain ⟨a', c', rfl, q1, q2⟩ := hv.func_inv
   have ea : a' = #[] := Array.toList_eq_nil_iff.1 q1.of_nil
   subst ea
   have htlt : t < p.size := of_decide_eq_true (by simpa [Nat.blt_eq] using hlt)
   have hs1 : Slots p m1 e (fun _ => unk) (ac.put (some t) (.func (.func g) #[] c')) := by
    have := (hs.ext ho.ext).put (d := some t) hlt hv
    unfold putE at this
    simp only [hnot, Bool.false_eq_true, if_false] at this
    exact this.drop
   rw [k3]
   unfold wpList
   rw [if_pos (by simp [Region.wanted, k5])]
   left
   have hev : (ac.put (some t) (.func (.func g) #[] c')).eval (.tmp t) = .func (.func g) #[] c' := by
    have hsz := hs.size
    show (ac.put (some t) (.func (.func g) #[] c')).tmps.getD t undef = _
    simp only [Act.put]
    rw [Array.getD_eq_getD_getElem?, Array.getElem?_setIfInBounds_self_of_lt (by omega)]
    rfl
   have hrun : (execOp (ac.put (some t) (.func (.func g) #[] c')).eval df).run P w1 = .ok (.defer ⟨.fn (.func g) c', #[]⟩) w1 := by
    unfold execOp
    rw [k4]
    simp only [resolve, hev, Deferred.ofValue, Sem.run_bind, Sem.run_pure, Result.andThen_ok]
    simp
   unfold Oper.wp
   rw [hrun, Oper.upon_defer, k6]
   unfold wpList
   refine hQ2 rfl _ w1 m1 c' ⟨fun t => hs1.rel t, hs1.size, ?_, hs1.glob⟩ ho q2
   show _ :: (ac.put (some t) (.func (.func g) #[] c')).defers = _
   rw [hs1.defers, hds]
  ·rename_i hd
   simp only [Option.map_eq_some_iff, Prod.mk.injEq] at hsp
   obtain ⟨⟨pre', r', post'⟩, hsp, rfl, hr'⟩ := hsp
   simp only [Prod.mk.injEq] at hr'
   obtain ⟨rfl, rfl⟩ := hr'
   simp only [toCC, evC] at hr
   split at hr
   ·rename_i e' h' he
    have hn := evC_next hcall _ hr
    refine wp_seq (code_sim hcall N p a he hs hE (hf.mono (Nat.le_refl _) hn) fun a1 w1 m1 hs1 ho => ?_)
    exact ihb hsp hlt hnot hr hs1 ho.emb (Free.out ho hf) (fun hx a2 w2 m2 hs2 ho2 => hQ1 hx a2 w2 m2 hs2 (ho.trans ho2)) fun hx a2 w2 m2 c' hs2 ho2 hv => hQ2 hx a2 w2 m2 c' hs2 (ho.trans ho2) hv
   ·rename_i hne
    refine wp_seq (code_sim hcall N p a hr hs hE hf fun a1 w1 m1 hs1 ho => ?_)
    have hx : x ≠ .normal := by
     rintro rfl
     exact hne _ _ hr
    cases x with
    | normal => exact absurd rfl hx
    | exit i => exact hQ1 hx a1 w1 m1 hs1 ho
    | ret => exact hQ1 hx a1 w1 m1 hs1 ho
 | _ => intro pre post g caps t hsp; simp [splitDef] at hsp
def Progs (P : Program) (CP : CProg) : Prop := ∀ f fn, CP f = some fn → ∃ p F, P.funcs[f]? = some F ∧ toFn P p F = some fn
theorem evF_sound {CP : CProg} (hP : Progs P CP) : ∀ n, CallsOK P (evF CP n) := by
 intro n
 induction n with
 | zero => intro f args h v h1 hc; simp [evF] at hc
 | succ n ih =>
  intro f args h v h1 hc
  simp only [evF] at hc
  cases hcp : CP f with
  | none => rw [hcp] at hc; simp at hc
  | some fn =>
   rw [hcp] at hc
   simp only at hc
   obtain ⟨p, F, hF, hfn⟩ := hP f fn hcp
   unfold toFn at hfn
   split at hfn
   case h_2 => simp at hfn
   rename_i c rs hb hrs
   split at hfn
   case isFalse => simp at hfn
   rename_i hok
   simp only [Bool.and_eq_true, Bool.not_eq_true', Nat.ble_eq] at hok
   obtain ⟨⟨⟨⟨hsz, hhas⟩, h3⟩, hname⟩, hds⟩ := hok
   obtain rfl := Option.some.inj hfn
   simp only at hc
   have hpds : p.ds = [] := by simpa using hds
   have hx : ∃ x e1, evC (evF CP n) n (bodyC P p c) (initE args) h = some (x, e1, h1) ∧ resultsV e1 h1 rs = some v ∧ (x = .normal ∨ x = .ret) := by
    split at hc
    ·rename_i e1 h' he
     simp only [Option.map_eq_some_iff, Prod.mk.injEq] at hc
     obtain ⟨u, hu, rfl, rfl⟩ := hc
     exact ⟨_, e1, he, hu, .inl rfl⟩
    ·rename_i e1 h' he
     simp only [Option.map_eq_some_iff, Prod.mk.injEq] at hc
     obtain ⟨u, hu, rfl, rfl⟩ := hc
     exact ⟨_, e1, he, hu, .inr rfl⟩
    ·simp at hc
   obtain ⟨x, e1, he, hres, hx⟩ := hx
   have hnext := evC_next ih _ he
   have init : ∀ (m : Map) (args' : Array Value), VL m args args'.toList → GlobOK m → Slots p m (initE args) (fun _ => unk) { tmps := args' ++ Array.replicate (F.ntmps - args'.size) undef, defers := [] } := fun m args' hargs hgl => by
    refine ⟨fun t => ?_, ?_, hpds.symm, hgl⟩
    ·unfold lookT
     split
     ·simp only [initE, List.getD_eq_getElem?_getD, Array.getD_eq_getD_getElem?]
      by_cases ht : t < args'.size
      ·have ht2 : t < args.length := by have := hargs.1; simp only [Array.length_toList] at this; omega
       rw [Array.getElem?_append_left ht, Array.getElem?_eq_getElem ht, List.getElem?_eq_getElem ht2]
       simp only [Option.getD_some]
       exact hargs.2 t _ _ (List.getElem?_eq_getElem ht2) (by simp [ht])
      ·have ht2 : args.length ≤ t := by have := hargs.1; simp only [Array.length_toList] at this; omega
       have hu : ((args' ++ Array.replicate (F.ntmps - args'.size) undef)[t]?).getD undef = undef := by
        rw [Array.getElem?_append_right (Nat.le_of_not_lt ht), Array.getElem?_replicate]
        split <;> rfl
       rw [hu, List.getElem?_eq_none ht2]
       exact .tuple _ _ rfl (fun i x y hx => by simp at hx)
     ·exact .unk _
    ·simp only [Array.size_append, Array.size_replicate]; omega
   unfold bodyC at he
   split at he
   ·
    rename_i pre g caps t post hsp
    split at he
    case isFalse => simp [evC] at he
    rename_i hpl
    simp only [Bool.and_eq_true, Bool.not_eq_true'] at hpl
    obtain ⟨⟨hpl, htl⟩, htn⟩ := hpl
    refine ⟨⟨F, hF, hname, by rw [hb]; rfl⟩, hnext, fun S m w args' hargs hE hf hgl => ?_, fun hq => ?_⟩
    case refine_2 =>
     unfold plainF at hq
     rw [hF] at hq
     simp only [hb, hsp] at hq
     simp at hq
    simp only [evC] at he
    have resS : ∀ (D : List Deferred) (m1 : Map) (a1 : Act) (w1 : World), Slots { p with ds := D } m1 e1 (fun _ => unk) a1 → Emb P S m1 h1 w1 → ∃ v', (results F a1.tmps).run P w1 = .ok v' w1 ∧ VR m1 v v' := fun D m1 a1 w1 hs1 hE1 =>
     results_sim hE1 hrs h3 (p := { p with ds := D }) hhas hs1 hres
    split at he
    ·rename_i ea ha hea
     have hna := evC_next ih _ hea
     have tail : ∀ (x2 : X) (eb : Env) (hb2 : Heap), evC (evF CP n) n (toCC P p post) ea ha = some (x2, eb, hb2) → (x2 = .normal ∨ x2 = .ret) → (evF CP n g (caps.toList.map (lookE p ea (fun _ => unk))) hb2).map (fun r => (X.ret, eb, r.2)) = some (x, e1, h1) →
       Calls P f args' w (CPost P S m h w v h1) := fun x2 eb hb2 heb hx2 hcl => by
      simp only [Option.map_eq_some_iff, Prod.mk.injEq] at hcl
      obtain ⟨⟨r, h1'⟩, hg, rfl, rfl, rfl⟩ := hcl
      have hnb := evC_next ih _ heb
      have ok := ih _ _ _ _ _ hg
      have hng := ok.next
      refine calls_of_wp_defers hF hb (dfr_sim ih n p hpds c hsp htl htn hea (init m args' hargs hgl) hE (hf.mono (Nat.le_refl _) (Nat.le_trans hnb hng)) (fun hne => absurd rfl hne) fun _ a1 w1 m1 c' hs1 ho hcv => ?_)
      have heb' : evC (evF CP n) n (toCC P { p with ds := [⟨.fn (.func g) c', #[]⟩] } post) ea ha = some (x2, eb, hb2) := by rw [toCC_ds]; exact heb
      have hf1 := Free.out ho hf
      refine code_sim ih n { p with ds := [⟨.fn (.func g) c', #[]⟩] } post heb' hs1 ho.emb (hf1.mono (Nat.le_refl _) hng) fun a2 w2 m2 hs2 ho2 => ?_
      have hd2 : a2.defers = [⟨.fn (.func g) c', #[]⟩] := hs2.defers
      have lv : Leaves P F a2.tmps (CPost P S m h w v h1') [⟨.fn (.func g) c', #[]⟩] .returning w2 := by
       obtain ⟨⟨G, hG, hGn, hGb⟩, _, _, hrD⟩ := ok
       refine leaves_cons (by simp) (f := g) (args := c') ?_ ?_
       ·have hcf : (callFunc g (#[] ++ c')).run P w2 = .ok (.enter g (#[] ++ c')) w2 := by
         simp only [callFunc, Sem.run_bind, run_program, Result.andThen_ok, hG, hGn, hGb, Bool.false_eq_true, if_false, Sem.run_pure]
        simpa [invoke] using hcf
       ·refine (hrD hpl S m2 w2 c' .returning (hcv.ext ho2.ext) ho2.emb (Free.out ho2 hf1) (hs2.glob)).mono fun en u' w3 hp => ?_
        obtain ⟨rfl, v', m3, rfl, hv3, ho3⟩ := hp
        obtain ⟨v2, hrun, hv2⟩ := resS _ m3 a2 w3 (hs2.ext ho3.ext) ho3.emb
        exact ⟨v2, hrun, v2, m3, rfl, hv2, (ho.trans ho2).trans ho3⟩
      rcases hx2 with rfl | rfl
      ·show Leaves P F a2.tmps _ a2.defers .returning w2
       rw [hd2]; exact lv
      ·show Leaves P F a2.tmps _ a2.defers .returning w2
       rw [hd2]; exact lv
     split at he
     ·rename_i eb hb2 heb
      exact tail _ _ _ heb (.inl rfl) he
     ·rename_i eb hb2 heb
      exact tail _ _ _ heb (.inr rfl) he
     ·simp at he
    ·rename_i ea ha hea
     simp only [Option.some.injEq, Prod.mk.injEq] at he
     obtain ⟨rfl, rfl, rfl⟩ := he
     refine calls_of_wp_defers hF hb (dfr_sim ih n p hpds c hsp htl htn hea (init m args' hargs hgl) hE hf (fun _ a1 w1 m1 hs1 ho => ?_) fun hn => by simp at hn)
     obtain ⟨v', hrun, hv⟩ := resS p.ds m1 a1 w1 hs1 ho.emb
     show Leaves P F a1.tmps _ a1.defers .returning w1
     rw [hs1.defers, hpds]
     exact ⟨v', hrun, v', m1, rfl, hv, ho⟩
    ·simp at he
   ·have body : ∀ (S : Stay) (m : Map) (w : World) (args' : Array Value), VL m args args'.toList → Emb P S m h w → Free m h.next h1.next → GlobOK m → c.wp P (bodyPost P F (CPost P S m h w v h1)) { tmps := args' ++ Array.replicate (F.ntmps - args'.size) undef, defers := [] } w := fun S m w args' hargs hE hf hgl => by
     refine code_sim ih n p c he (init m args' hargs hgl) hE hf fun a1 w1 m1 hs1 ho => ?_
     obtain ⟨v', hrun, hv⟩ := results_sim ho.emb hrs h3 hhas hs1 hres
     have hd : a1.defers = [] := by rw [hs1.defers, hpds]
     rcases hx with rfl | rfl
     ·exact ⟨hd, v', hrun, v', m1, rfl, hv, ho⟩
     ·exact ⟨hd, v', hrun, v', m1, rfl, hv, ho⟩
    exact ⟨⟨F, hF, hname, by rw [hb]; rfl⟩, hnext, fun S m w args' hargs hE hf hgl => calls_of_wp hF hb (body S m w args' hargs hE hf hgl), fun _ S m w args' u hargs hE hf hgl => callsD_of_wp hF hb (body S m w args' hargs hE hf hgl)⟩
theorem call_sound {CP : CProg} (hP : Progs P CP) {f : FuncId} {args : List Value} {h : Heap} {R : Value → Heap → Prop} (hc : CALL CP f args h R) {S : Stay} {m : Map} {w : World} {args' : Array Value} (ha : VL m args args'.toList) (hE : Emb P S m h w) (hf : ∀ b, h.next ≤ b → m b = none) (hgl : GlobOK m := by intro g hg; exact absurd hg (by simp [GLN])) :
  Calls P f args' w fun e w1 => ∃ v v' h1 m1, e = .returned v' ∧ R v h1 ∧ VR m1 v v' ∧ Out P S m h w m1 h1 w1 := by
 obtain ⟨n, v, h1, he, hR⟩ := hc
 refine ((evF_sound hP n f args h v h1 he).runs S m w args' ha hE (fun b hb _ => hf b hb) hgl).mono fun e w1 hp => ?_
 obtain ⟨v', m1, rfl, hv, ho⟩ := hp
 exact ⟨v, v', h1, m1, rfl, hR, hv, ho⟩
end
end Go.Proofs.YtlakhgibjfmjjaaGreat.Can
namespace Go.Proofs.YtlakhgibjfmjjaaGreat.Can
open Go
theorem an {a b : Prop} (x : a) (y : b) : a ∧ b := ⟨x, y⟩
def RnP := an (an (an (an @RunC_seq (an @RunC_skip @RunC_ret)) (an @RunC_exit (an @RunC_region @RunC_condQ))) (an (an @RunC_block (an @RunR_done @RunR_op)) (an @RunR_opg (an @RunR_snap @RunR_chk)))) (an (an (an @seqQ_normal (an @seqQ_ret @seqQ_exit)) (an @blockQ_normal (an @blockQ_ret @blockQ_exit))) (an (an @retQ_ret (an @retQ_normal @callQ_eq)) (an (an @loopQ_normal @loopQ_ret) (an @loopQ_exit @upd_same))))
def RnQ := an (an (an (an (an (an (an @condQ_true @condQ_false) (an @Option.getD_none.{0} @Option.getD_some.{0})) (an (an @guardR_true @guardR_false) (an @wantV_bool @wantV_none))) (an (an (an @callvQ_eq @afterR_some) (an @upd_at @sel_t)) (an (an @sel_f @initE_at) (an @obj_upd_same @obj_upd_ne)))) (an (an (an (an @obj_new_same @obj_updnew_same) (an @obj_updnew_same2 @obj_new2_same)) (an (an @obj_new3_same @obj_newupd_same) (an @obj_new_ne @obj_new_ne2))) (an (an (an @obj_new_ne3 @obj_new_ne4) (an @next_upd @next_new)) (an (an @add_plain @read_cells) (an @src_ro (an @src_fix @src_grow)))))) (an (an (an (an (an @get_cells @write_fix) (an @write_grow @elemOk_ro)) (an (an @elemOk_fix @elemOk_grow) (an @stiff_ro @stiff_fix))) (an (an (an @finQ_some @Option.map_some.{0,0}) (an @Option.map_none.{0,0} @Option.bind_some.{0,0})) (an (an @Option.bind_none.{0,0} @List.map_cons.{0,0}) (an @List.map_nil.{0,0} @List.getD_cons_zero.{0})))) (an (an (an (an @List.getD_cons_succ.{0} @List.getD_nil.{0}) (an @if_true.{1} @if_true.{0})) (an (an @if_false.{1} @if_false.{0}) (an @ite_true.{1} @ite_true.{0}))) (an (an (an @ite_false.{1} @ite_false.{0}) (an @List.length_cons.{0} @List.length_nil.{0})) (an (an @Nat.zero_add @Nat.add_zero) (an @List.drop_zero.{0} (an @List.drop_succ_cons.{0} @List.take_succ_cons.{0}))))))) (an (an (an (an (an (an @List.take_zero.{0} @List.set_cons_zero.{0}) (an @List.set_cons_succ.{0} @Bool.not_true)) (an (an @Bool.not_false @Option.isNone_some.{0}) (an @Option.isNone_none.{0} @decide_true))) (an (an (an @decide_false @beq_self_eq_true.{0}) (an @Bool.false_eq_true @Bool.true_eq_false)) (an (an @if_pos.{1} @if_pos.{0}) (an @if_neg.{1} @if_neg.{0})))) (an (an (an (an @beq_iff_eq.{0} @BEq.rfl.{0}) (an @wrap_i64 @wrap_i32)) (an (an @wrap_i8 @wrap_u8) (an @wrap_u32 @wrap_u64))) (an (an (an @Nat.mul_one @Int.toNat_natCast) (an @ints_len @List.length_map.{0,0})) (an (an @List.length_set.{0} @beq_ft) (an @beq_tf (an @List.all_cons.{0} @List.all_nil.{0})))))) (an (an (an (an (an @Bool.and_self @Bool.true_and) (an @Bool.and_true @List.size_toArray.{0})) (an (an @true_and @and_true) (an @true_or @or_true))) (an (an (an @bne_self_eq_false.{0} @List.getElem?_cons_zero.{0}) (an @List.getElem?_cons_succ.{0} @List.getElem?_toArray.{0})) (an (an @setAt.eq_1 @setAt.eq_2) (an @resL.eq_1 @resL.eq_2)))) (an (an (an (an @resL.eq_3 @fillIn.eq_1) (an @fillIn.eq_2 @Holds.eq_def)) (an (an @cop.eq_def @bin.eq_def) (an @binInt.eq_def @un.eq_def))) (an (an (an @shiftInt.eq_def @flat.eq_def) (an @bound.eq_def @eqK.eq_def)) (an (an @resultsV.eq_def @resV.eq_def) (an @scalar.eq_def (an @binStr.eq_def @goInt.eq_def)))))))
theorem ro {f g : Env → Reg} (q : ∀ (e : Env), f e = g e) (CP : CProg) (e : Env) (h : Heap) (Q : Post) : RunR CP (f e) h Q ↔ RunR CP (g e) h Q := by rw [q]
theorem ro1 {α : Type} {f g : Env → α → Reg} (q : ∀ (e : Env) (x0 : α), f e x0 = g e x0) (CP : CProg) (e : Env) (x0 : α) (h : Heap) (Q : Post) : RunR CP (f e x0) h Q ↔ RunR CP (g e x0) h Q := by rw [q]
theorem ro2 {α β : Type} {f g : Env → α → β → Reg} (q : ∀ (e : Env) (x0 : α) (x1 : β), f e x0 x1 = g e x0 x1) (CP : CProg) (e : Env) (x0 : α) (x1 : β) (h : Heap) (Q : Post) : RunR CP (f e x0 x1) h Q ↔ RunR CP (g e x0 x1) h Q := by rw [q]
theorem ro3 {α β γ : Type} {f g : Env → α → β → γ → Reg} (q : ∀ (e : Env) (x0 : α) (x1 : β) (x2 : γ), f e x0 x1 x2 = g e x0 x1 x2) (CP : CProg) (e : Env) (x0 : α) (x1 : β) (x2 : γ) (h : Heap) (Q : Post) : RunR CP (f e x0 x1 x2) h Q ↔ RunR CP (g e x0 x1 x2) h Q := by rw [q]
theorem ro4 {α β γ δ : Type} {f g : Env → α → β → γ → δ → Reg} (q : ∀ (e : Env) (x0 : α) (x1 : β) (x2 : γ) (x3 : δ), f e x0 x1 x2 x3 = g e x0 x1 x2 x3) (CP : CProg) (e : Env) (x0 : α) (x1 : β) (x2 : γ) (x3 : δ) (h : Heap) (Q : Post) : RunR CP (f e x0 x1 x2 x3) h Q ↔ RunR CP (g e x0 x1 x2 x3) h Q := by rw [q]
theorem ro5 {α β γ δ ε : Type} {f g : Env → α → β → γ → δ → ε → Reg} (q : ∀ (e : Env) (x0 : α) (x1 : β) (x2 : γ) (x3 : δ) (x4 : ε), f e x0 x1 x2 x3 x4 = g e x0 x1 x2 x3 x4) (CP : CProg) (e : Env) (x0 : α) (x1 : β) (x2 : γ) (x3 : δ) (x4 : ε) (h : Heap) (Q : Post) : RunR CP (f e x0 x1 x2 x3 x4) h Q ↔ RunR CP (g e x0 x1 x2 x3 x4) h Q := by rw [q]
theorem ro6 {α β γ δ ε ζ : Type} {f g : Env → α → β → γ → δ → ε → ζ → Reg} (q : ∀ (e : Env) (x0 : α) (x1 : β) (x2 : γ) (x3 : δ) (x4 : ε) (x5 : ζ), f e x0 x1 x2 x3 x4 x5 = g e x0 x1 x2 x3 x4 x5) (CP : CProg) (e : Env) (x0 : α) (x1 : β) (x2 : γ) (x3 : δ) (x4 : ε) (x5 : ζ) (h : Heap) (Q : Post) : RunR CP (f e x0 x1 x2 x3 x4 x5) h Q ↔ RunR CP (g e x0 x1 x2 x3 x4 x5) h Q := by rw [q]
theorem ro7 {α β γ δ ε ζ η : Type} {f g : Env → α → β → γ → δ → ε → ζ → η → Reg} (q : ∀ (e : Env) (x0 : α) (x1 : β) (x2 : γ) (x3 : δ) (x4 : ε) (x5 : ζ) (x6 : η), f e x0 x1 x2 x3 x4 x5 x6 = g e x0 x1 x2 x3 x4 x5 x6) (CP : CProg) (e : Env) (x0 : α) (x1 : β) (x2 : γ) (x3 : δ) (x4 : ε) (x5 : ζ) (x6 : η) (h : Heap) (Q : Post) : RunR CP (f e x0 x1 x2 x3 x4 x5 x6) h Q ↔ RunR CP (g e x0 x1 x2 x3 x4 x5 x6) h Q := by rw [q]
theorem ro8 {α β γ δ ε ζ η θ : Type} {f g : Env → α → β → γ → δ → ε → ζ → η → θ → Reg} (q : ∀ (e : Env) (x0 : α) (x1 : β) (x2 : γ) (x3 : δ) (x4 : ε) (x5 : ζ) (x6 : η) (x7 : θ), f e x0 x1 x2 x3 x4 x5 x6 x7 = g e x0 x1 x2 x3 x4 x5 x6 x7) (CP : CProg) (e : Env) (x0 : α) (x1 : β) (x2 : γ) (x3 : δ) (x4 : ε) (x5 : ζ) (x6 : η) (x7 : θ) (h : Heap) (Q : Post) : RunR CP (f e x0 x1 x2 x3 x4 x5 x6 x7) h Q ↔ RunR CP (g e x0 x1 x2 x3 x4 x5 x6 x7) h Q := by rw [q]
theorem ro9 {α β γ δ ε ζ η θ ι : Type} {f g : Env → α → β → γ → δ → ε → ζ → η → θ → ι → Reg} (q : ∀ (e : Env) (x0 : α) (x1 : β) (x2 : γ) (x3 : δ) (x4 : ε) (x5 : ζ) (x6 : η) (x7 : θ) (x8 : ι), f e x0 x1 x2 x3 x4 x5 x6 x7 x8 = g e x0 x1 x2 x3 x4 x5 x6 x7 x8) (CP : CProg) (e : Env) (x0 : α) (x1 : β) (x2 : γ) (x3 : δ) (x4 : ε) (x5 : ζ) (x6 : η) (x7 : θ) (x8 : ι) (h : Heap) (Q : Post) : RunR CP (f e x0 x1 x2 x3 x4 x5 x6 x7 x8) h Q ↔ RunR CP (g e x0 x1 x2 x3 x4 x5 x6 x7 x8) h Q := by rw [q]
theorem ro10 {α β γ δ ε ζ η θ ι κ : Type} {f g : Env → α → β → γ → δ → ε → ζ → η → θ → ι → κ → Reg} (q : ∀ (e : Env) (x0 : α) (x1 : β) (x2 : γ) (x3 : δ) (x4 : ε) (x5 : ζ) (x6 : η) (x7 : θ) (x8 : ι) (x9 : κ), f e x0 x1 x2 x3 x4 x5 x6 x7 x8 x9 = g e x0 x1 x2 x3 x4 x5 x6 x7 x8 x9) (CP : CProg) (e : Env) (x0 : α) (x1 : β) (x2 : γ) (x3 : δ) (x4 : ε) (x5 : ζ) (x6 : η) (x7 : θ) (x8 : ι) (x9 : κ) (h : Heap) (Q : Post) : RunR CP (f e x0 x1 x2 x3 x4 x5 x6 x7 x8 x9) h Q ↔ RunR CP (g e x0 x1 x2 x3 x4 x5 x6 x7 x8 x9) h Q := by rw [q]
theorem ro11 {α β γ δ ε ζ η θ ι κ μ : Type} {f g : Env → α → β → γ → δ → ε → ζ → η → θ → ι → κ → μ → Reg} (q : ∀ (e : Env) (x0 : α) (x1 : β) (x2 : γ) (x3 : δ) (x4 : ε) (x5 : ζ) (x6 : η) (x7 : θ) (x8 : ι) (x9 : κ) (x10 : μ), f e x0 x1 x2 x3 x4 x5 x6 x7 x8 x9 x10 = g e x0 x1 x2 x3 x4 x5 x6 x7 x8 x9 x10) (CP : CProg) (e : Env) (x0 : α) (x1 : β) (x2 : γ) (x3 : δ) (x4 : ε) (x5 : ζ) (x6 : η) (x7 : θ) (x8 : ι) (x9 : κ) (x10 : μ) (h : Heap) (Q : Post) : RunR CP (f e x0 x1 x2 x3 x4 x5 x6 x7 x8 x9 x10) h Q ↔ RunR CP (g e x0 x1 x2 x3 x4 x5 x6 x7 x8 x9 x10) h Q := by rw [q]
theorem ro12 {α β γ δ ε ζ η θ ι κ μ ν : Type} {f g : Env → α → β → γ → δ → ε → ζ → η → θ → ι → κ → μ → ν → Reg} (q : ∀ (e : Env) (x0 : α) (x1 : β) (x2 : γ) (x3 : δ) (x4 : ε) (x5 : ζ) (x6 : η) (x7 : θ) (x8 : ι) (x9 : κ) (x10 : μ) (x11 : ν), f e x0 x1 x2 x3 x4 x5 x6 x7 x8 x9 x10 x11 = g e x0 x1 x2 x3 x4 x5 x6 x7 x8 x9 x10 x11) (CP : CProg) (e : Env) (x0 : α) (x1 : β) (x2 : γ) (x3 : δ) (x4 : ε) (x5 : ζ) (x6 : η) (x7 : θ) (x8 : ι) (x9 : κ) (x10 : μ) (x11 : ν) (h : Heap) (Q : Post) : RunR CP (f e x0 x1 x2 x3 x4 x5 x6 x7 x8 x9 x10 x11) h Q ↔ RunR CP (g e x0 x1 x2 x3 x4 x5 x6 x7 x8 x9 x10 x11) h Q := by rw [q]
theorem ro13 {α β γ δ ε ζ η θ ι κ μ ν ξ : Type} {f g : Env → α → β → γ → δ → ε → ζ → η → θ → ι → κ → μ → ν → ξ → Reg} (q : ∀ (e : Env) (x0 : α) (x1 : β) (x2 : γ) (x3 : δ) (x4 : ε) (x5 : ζ) (x6 : η) (x7 : θ) (x8 : ι) (x9 : κ) (x10 : μ) (x11 : ν) (x12 : ξ), f e x0 x1 x2 x3 x4 x5 x6 x7 x8 x9 x10 x11 x12 = g e x0 x1 x2 x3 x4 x5 x6 x7 x8 x9 x10 x11 x12) (CP : CProg) (e : Env) (x0 : α) (x1 : β) (x2 : γ) (x3 : δ) (x4 : ε) (x5 : ζ) (x6 : η) (x7 : θ) (x8 : ι) (x9 : κ) (x10 : μ) (x11 : ν) (x12 : ξ) (h : Heap) (Q : Post) : RunR CP (f e x0 x1 x2 x3 x4 x5 x6 x7 x8 x9 x10 x11 x12) h Q ↔ RunR CP (g e x0 x1 x2 x3 x4 x5 x6 x7 x8 x9 x10 x11 x12) h Q := by rw [q]
theorem ro14 {α β γ δ ε ζ η θ ι κ μ ν ξ ρ : Type} {f g : Env → α → β → γ → δ → ε → ζ → η → θ → ι → κ → μ → ν → ξ → ρ → Reg} (q : ∀ (e : Env) (x0 : α) (x1 : β) (x2 : γ) (x3 : δ) (x4 : ε) (x5 : ζ) (x6 : η) (x7 : θ) (x8 : ι) (x9 : κ) (x10 : μ) (x11 : ν) (x12 : ξ) (x13 : ρ), f e x0 x1 x2 x3 x4 x5 x6 x7 x8 x9 x10 x11 x12 x13 = g e x0 x1 x2 x3 x4 x5 x6 x7 x8 x9 x10 x11 x12 x13) (CP : CProg) (e : Env) (x0 : α) (x1 : β) (x2 : γ) (x3 : δ) (x4 : ε) (x5 : ζ) (x6 : η) (x7 : θ) (x8 : ι) (x9 : κ) (x10 : μ) (x11 : ν) (x12 : ξ) (x13 : ρ) (h : Heap) (Q : Post) : RunR CP (f e x0 x1 x2 x3 x4 x5 x6 x7 x8 x9 x10 x11 x12 x13) h Q ↔ RunR CP (g e x0 x1 x2 x3 x4 x5 x6 x7 x8 x9 x10 x11 x12 x13) h Q := by rw [q]
theorem ro15 {α β γ δ ε ζ η θ ι κ μ ν ξ ρ σ : Type} {f g : Env → α → β → γ → δ → ε → ζ → η → θ → ι → κ → μ → ν → ξ → ρ → σ → Reg} (q : ∀ (e : Env) (x0 : α) (x1 : β) (x2 : γ) (x3 : δ) (x4 : ε) (x5 : ζ) (x6 : η) (x7 : θ) (x8 : ι) (x9 : κ) (x10 : μ) (x11 : ν) (x12 : ξ) (x13 : ρ) (x14 : σ), f e x0 x1 x2 x3 x4 x5 x6 x7 x8 x9 x10 x11 x12 x13 x14 = g e x0 x1 x2 x3 x4 x5 x6 x7 x8 x9 x10 x11 x12 x13 x14) (CP : CProg) (e : Env) (x0 : α) (x1 : β) (x2 : γ) (x3 : δ) (x4 : ε) (x5 : ζ) (x6 : η) (x7 : θ) (x8 : ι) (x9 : κ) (x10 : μ) (x11 : ν) (x12 : ξ) (x13 : ρ) (x14 : σ) (h : Heap) (Q : Post) : RunR CP (f e x0 x1 x2 x3 x4 x5 x6 x7 x8 x9 x10 x11 x12 x13 x14) h Q ↔ RunR CP (g e x0 x1 x2 x3 x4 x5 x6 x7 x8 x9 x10 x11 x12 x13 x14) h Q := by rw [q]
theorem ro16 {α β γ δ ε ζ η θ ι κ μ ν ξ ρ σ τ : Type} {f g : Env → α → β → γ → δ → ε → ζ → η → θ → ι → κ → μ → ν → ξ → ρ → σ → τ → Reg} (q : ∀ (e : Env) (x0 : α) (x1 : β) (x2 : γ) (x3 : δ) (x4 : ε) (x5 : ζ) (x6 : η) (x7 : θ) (x8 : ι) (x9 : κ) (x10 : μ) (x11 : ν) (x12 : ξ) (x13 : ρ) (x14 : σ) (x15 : τ), f e x0 x1 x2 x3 x4 x5 x6 x7 x8 x9 x10 x11 x12 x13 x14 x15 = g e x0 x1 x2 x3 x4 x5 x6 x7 x8 x9 x10 x11 x12 x13 x14 x15) (CP : CProg) (e : Env) (x0 : α) (x1 : β) (x2 : γ) (x3 : δ) (x4 : ε) (x5 : ζ) (x6 : η) (x7 : θ) (x8 : ι) (x9 : κ) (x10 : μ) (x11 : ν) (x12 : ξ) (x13 : ρ) (x14 : σ) (x15 : τ) (h : Heap) (Q : Post) : RunR CP (f e x0 x1 x2 x3 x4 x5 x6 x7 x8 x9 x10 x11 x12 x13 x14 x15) h Q ↔ RunR CP (g e x0 x1 x2 x3 x4 x5 x6 x7 x8 x9 x10 x11 x12 x13 x14 x15) h Q := by rw [q]
theorem ro17 {α β γ δ ε ζ η θ ι κ μ ν ξ ρ σ τ υ : Type} {f g : Env → α → β → γ → δ → ε → ζ → η → θ → ι → κ → μ → ν → ξ → ρ → σ → τ → υ → Reg} (q : ∀ (e : Env) (x0 : α) (x1 : β) (x2 : γ) (x3 : δ) (x4 : ε) (x5 : ζ) (x6 : η) (x7 : θ) (x8 : ι) (x9 : κ) (x10 : μ) (x11 : ν) (x12 : ξ) (x13 : ρ) (x14 : σ) (x15 : τ) (x16 : υ), f e x0 x1 x2 x3 x4 x5 x6 x7 x8 x9 x10 x11 x12 x13 x14 x15 x16 = g e x0 x1 x2 x3 x4 x5 x6 x7 x8 x9 x10 x11 x12 x13 x14 x15 x16) (CP : CProg) (e : Env) (x0 : α) (x1 : β) (x2 : γ) (x3 : δ) (x4 : ε) (x5 : ζ) (x6 : η) (x7 : θ) (x8 : ι) (x9 : κ) (x10 : μ) (x11 : ν) (x12 : ξ) (x13 : ρ) (x14 : σ) (x15 : τ) (x16 : υ) (h : Heap) (Q : Post) : RunR CP (f e x0 x1 x2 x3 x4 x5 x6 x7 x8 x9 x10 x11 x12 x13 x14 x15 x16) h Q ↔ RunR CP (g e x0 x1 x2 x3 x4 x5 x6 x7 x8 x9 x10 x11 x12 x13 x14 x15 x16) h Q := by rw [q]
end Go.Proofs.YtlakhgibjfmjjaaGreat.Can
namespace Go.Proofs.YtlakhgibjfmjjaaGreat.Can
open Go
structure Enc (α : Type) where
 sz : Nat
 enc : α → List Value
 len : ∀ a, (enc a).length = sz
 self : ∀ a, (enc a).all selfS = true
namespace Enc
def int (k : IntKind) : Enc Int := ⟨1, fun n => [.int k n], fun _ => rfl, fun _ => rfl⟩
def bool : Enc Bool := ⟨1, fun n => [.bool n], fun _ => rfl, fun _ => rfl⟩
def str : Enc ByteArray := ⟨1, fun n => [.string n], fun _ => rfl, fun _ => rfl⟩
def pair {α β : Type} (a : Enc α) (b : Enc β) : Enc (α × β) :=
 ⟨a.sz + b.sz, fun x => a.enc x.1 ++ b.enc x.2, fun x => by simp [a.len, b.len], fun x => by simp [List.all_append, a.self, b.self]⟩
end Enc
theorem drop_take_get {α : Type} (l : List α) (a n i : Nat) (h : i < n) : ((l.drop a).take n)[i]? = l[a + i]? := by
 rw [List.getElem?_take, if_pos h, List.getElem?_drop]
theorem get_of_read {ob : Obj} {o : Nat} {v : Value} (h : ob.read o 1 = some [v]) : ob.get o = some v := by
 cases ob with
 | cells c t g =>
  simp only [Obj.read] at h
  split at h
  ·rename_i hle
   have h2 := Option.some.inj h
   have : ((c.drop o).take 1)[0]? = some v := by rw [h2]; rfl
   rw [drop_take_get _ _ _ _ (by omega)] at this
   exact this
  ·simp at h
 | _ => simp [Obj.read] at h
theorem read_get {ob : Obj} {o n i : Nat} {l : List Value} {v : Value} (h : ob.read o n = some l) (hi : i < n) (hv : l[i]? = some v) : ob.get (o + i) = some v := by
 cases ob with
 | cells c t g =>
  simp only [Obj.read] at h
  split at h
  ·rename_i hle
   have h2 := Option.some.inj h
   rw [← h2, drop_take_get _ _ _ _ hi] at hv
   exact hv
  ·simp at h
 | _ => simp [Obj.read] at h
theorem scalar_self {v : Value} (h : selfS v = true) : scalar v = true := by
 cases v <;> first | rfl | (exact absurd h Bool.false_ne_true)
def Enc.all {α : Type} (E : Enc α) (l : List α) : List Value := l.flatMap E.enc
section
variable {α : Type} (E : Enc α)
theorem Enc.all_nil : E.all [] = [] := rfl
theorem Enc.all_cons (x : α) (l : List α) : E.all (x :: l) = E.enc x ++ E.all l := rfl
theorem Enc.all_append (l m : List α) : E.all (l ++ m) = E.all l ++ E.all m := by simp [Enc.all]
theorem Enc.all_len : ∀ (l : List α), (E.all l).length = l.length * E.sz
 | [] => by simp [Enc.all]
 | x :: l => by rw [Enc.all_cons, List.length_append, E.len, Enc.all_len l, List.length_cons, Nat.add_mul, Nat.one_mul, Nat.add_comm]
theorem Enc.all_scalar (l : List α) : (E.all l).all scalar = true := by
 rw [List.all_eq_true]
 intro x hx
 obtain ⟨y, _, hy⟩ := List.mem_flatMap.1 hx
 exact scalar_self (List.all_eq_true.1 (E.self y) x hy)
theorem Enc.all_at : ∀ (l : List α) (i : Nat) (x : α), l[i]? = some x → ((E.all l).drop (i * E.sz)).take E.sz = E.enc x
 | [], i, x, h => by simp at h
 | y :: l, 0, x, h => by
  simp only [List.getElem?_cons_zero, Option.some.injEq] at h
  subst h
  rw [Nat.zero_mul, List.drop_zero, Enc.all_cons, List.take_left' (E.len y)]
 | y :: l, i + 1, x, h => by
  simp only [List.getElem?_cons_succ] at h
  rw [Enc.all_cons, Nat.add_mul, Nat.one_mul, Nat.add_comm, ← List.drop_drop, List.drop_left' (E.len y)]
  exact Enc.all_at l i x h
theorem Enc.all_set : ∀ (l : List α) (i : Nat) (x : α), i < l.length → setAt (E.all l) (i * E.sz) (E.enc x) = E.all (l.set i x) := by
 have hset : ∀ (vs c d : List Value) (o : Nat), o + vs.length ≤ c.length → setAt (c ++ d) o vs = setAt c o vs ++ d := by
  intro vs
  induction vs with
  | nil => intro c d o h; rfl
  | cons v vs ih =>
   intro c d o h
   simp only [List.length_cons] at h
   simp only [setAt]
   rw [List.set_append_left _ _ (by omega), ih _ _ _ (by simp; omega)]
 have hpre : ∀ (vs c d : List Value) (o : Nat), setAt (c ++ d) (c.length + o) vs = c ++ setAt d o vs := by
  intro vs
  induction vs with
  | nil => intro c d o; rfl
  | cons v vs ih =>
   intro c d o
   simp only [setAt]
   rw [List.set_append_right _ _ (by omega), Nat.add_sub_cancel_left, Nat.add_assoc, ih]
 have hfull : ∀ (vs c : List Value), vs.length = c.length → setAt c 0 vs = vs := by
  intro vs
  have : ∀ (vs c d : List Value), vs.length = d.length → setAt (c ++ d) c.length vs = c ++ vs := by
   intro vs
   induction vs with
   | nil => intro c d h; have : d = [] := List.length_eq_zero_iff.1 h.symm; subst this; rfl
   | cons v vs ih =>
    intro c d h
    cases d with
    | nil => simp at h
    | cons u d =>
     simp only [setAt]
     rw [List.set_append_right _ _ (Nat.le_refl _), Nat.sub_self, List.set_cons_zero]
     have h2 := ih (c ++ [v]) d (by simpa using h)
     simp only [List.length_append, List.length_singleton, List.append_assoc, List.singleton_append] at h2
     exact h2
  intro c h
  have := this vs [] c h
  simpa using this
 intro l
 induction l with
 | nil => intro i x h; simp at h
 | cons y l ih =>
  intro i x h
  cases i with
  | zero =>
   rw [Nat.zero_mul, Enc.all_cons, List.set_cons_zero, Enc.all_cons, hset _ _ _ _ (by rw [E.len, E.len]; omega), hfull _ _ (by rw [E.len, E.len])]
  | succ i =>
   rw [Enc.all_cons, List.set_cons_succ, Enc.all_cons, Nat.add_mul, Nat.one_mul, Nat.add_comm, ← E.len y, hpre, E.len y, ih i x (by simpa using h)]
theorem setAt_app (vs c d : List Value) (o : Nat) (h : o + vs.length ≤ c.length) : setAt (c ++ d) o vs = setAt c o vs ++ d := by
 induction vs generalizing c o with
 | nil => rfl
 | cons v vs ih =>
  simp only [List.length_cons] at h
  simp only [setAt]
  rw [List.set_append_left _ _ (by omega), ih _ _ (by simp; omega)]
theorem setAt_over (c : List Value) : ∀ (vs d : List Value), vs.length ≤ d.length → setAt (c ++ d) c.length vs = c ++ vs ++ d.drop vs.length := by
 intro vs
 induction vs generalizing c with
 | nil => intro d _; simp [setAt]
 | cons v vs ih =>
  intro d h
  cases d with
  | nil => simp at h
  | cons u d =>
   simp only [List.length_cons] at h
   simp only [setAt]
   rw [List.set_append_right _ _ (Nat.le_refl _), Nat.sub_self, List.set_cons_zero]
   have h2 := ih (c ++ [v]) d (by omega)
   simp only [List.length_append, List.length_singleton, List.append_assoc, List.singleton_append, List.cons_append, List.nil_append] at h2 ⊢
   rw [h2]; simp
end
def Agree (l : List Nat) (e e' : Env) : Prop := ∀ t ∈ l, e' t = e t
theorem Agree.refl (l : List Nat) (e : Env) : Agree l e e := fun _ _ => rfl
theorem Agree.upd {l : List Nat} {e e' : Env} (a : Agree l e e') {t : Nat} (ht : l.elem t = false) (v : Value) : Agree l e (e'.upd t v) := fun s hs => by
 rw [upd_at]
 have : (s == t) = false := by
  cases hq : (s == t) with
  | false => rfl
  | true => rw [eq_of_beq hq] at hs; rw [List.elem_eq_true_of_mem hs] at ht; exact ht
 rw [this]; exact a s hs
theorem src_one (h : Heap) (v : Value) (t : TypeId) (c : Nat) : srcCells (h.new (.cells [v] t .grow)) 1 (.slice (some ⟨h.next, 0, none⟩) 1 c) = some ([v], 1) := by
 unfold srcCells
 simp only [if_true, obj_new_same, src_grow]
 rfl
theorem src_enc {α : Type} (E : Enc α) (h : Heap) (x : α) (t : TypeId) (c : Nat) : srcCells (h.new (.cells (E.enc x) t .grow)) E.sz (.slice (some ⟨h.next, 0, none⟩) 1 c) = some (E.all [x], [x].length) := by
 unfold srcCells
 simp only [if_true, obj_new_same, src_grow, Nat.one_mul, Nat.zero_add, E.len, Nat.le_refl, List.drop_zero, Enc.all_cons, Enc.all_nil, List.append_nil]
 rw [List.take_of_length_le (by rw [E.len]; exact Nat.le_refl _)]
 rfl
def Vec {α : Type} (h : Heap) (t : TypeId) (E : Enc α) (v : Value) (l : List α) (b : Nat) : Prop :=
 (v = .slice none 0 0 ∧ l = []) ∨
 ∃ cap rest, v = .slice (some ⟨b, 0, none⟩) l.length cap ∧ b < h.next ∧ h.obj b = .cells (E.all l ++ rest) t .grow ∧ l.length * E.sz + rest.length = cap * E.sz ∧ l.length ≤ cap
section
variable {α : Type} {h h' : Heap} {t : TypeId} {E : Enc α} {v : Value} {l : List α} {b : Nat}
theorem Vec.nil (h : Heap) (t : TypeId) (E : Enc α) (b : Nat) : Vec h t E (.slice none 0 0) [] b := .inl ⟨rfl, rfl⟩
theorem Vec.val (V : Vec h t E v l b) : ∃ a cap, v = .slice a l.length cap ∧ l.length ≤ cap := by
 rcases V with ⟨rfl, rfl⟩ | ⟨cap, rest, h1, _, _, _, h2⟩
 ·exact ⟨none, 0, rfl, Nat.le_refl _⟩
 ·exact ⟨_, cap, h1, h2⟩
theorem Vec.keep (V : Vec h t E v l b) (hn : h.next ≤ h'.next) (ho : b < h.next → h'.obj b = h.obj b) : Vec h' t E v l b := by
 rcases V with V | ⟨cap, rest, h1, h2, h3, h4⟩
 ·exact .inl V
 ·exact .inr ⟨cap, rest, h1, Nat.lt_of_lt_of_le h2 hn, by rw [ho h2]; exact h3, h4⟩
theorem Vec.ne (V : Vec h t E v l b) : ∀ x, h.next ≤ x → v = .slice none 0 0 ∨ x ≠ b := fun x hx => by
 rcases V with ⟨rfl, _⟩ | ⟨_, _, _, h2, _⟩
 ·exact .inl rfl
 ·right; omega
theorem Vec.at (V : Vec h t E v l b) (hl : 0 < l.length) : ∃ cap rest, v = .slice (some ⟨b, 0, none⟩) l.length cap ∧ b < h.next ∧ h.obj b = .cells (E.all l ++ rest) t .grow ∧ l.length * E.sz + rest.length = cap * E.sz ∧ l.length ≤ cap := by
 rcases V with ⟨rfl, rfl⟩ | V
 ·simp at hl
 ·exact V
theorem Vec.read (V : Vec h t E v l b) {i : Nat} {x : α} (hx : l[i]? = some x) : ∃ cap, v = .slice (some ⟨b, 0, none⟩) l.length cap ∧ (h.obj b).read (0 + i * E.sz) E.sz = some (E.enc x) := by
 have hi := (List.getElem?_eq_some_iff.1 hx).1
 obtain ⟨cap, rest, h1, _, h3, h4, h5⟩ := V.at (by omega)
 refine ⟨cap, h1, ?_⟩
 have hle : (i + 1) * E.sz ≤ l.length * E.sz := Nat.mul_le_mul_right _ hi
 rw [Nat.add_mul, Nat.one_mul] at hle
 rw [h3, Nat.zero_add, read_cells, if_pos (by rw [List.length_append, E.all_len]; omega), ← E.all_at l i x hx, List.drop_append_of_le_length (by rw [E.all_len]; omega), List.take_append_of_le_length (by rw [List.length_drop, E.all_len]; omega)]
theorem Vec.get1 {k : IntKind} {l : List Int} (V : Vec h t (Enc.int k) v l b) {i : Nat} {x : Int} (hx : l[i]? = some x) : ∃ cap, v = .slice (some ⟨b, 0, none⟩) l.length cap ∧ (h.obj b).get i = some (.int k x) := by
 obtain ⟨cap, h1, h2⟩ := V.read hx
 refine ⟨cap, h1, get_of_read ?_⟩
 simpa [Enc.int] using h2
variable {CP : CProg}
theorem Vec.app (V : Vec h t E v l b) {size bytes : Nat} (hsz : E.sz = size) {y : Value} {m : List α} (hy : srcCells h size y = some (E.all m, m.length))
  (hb : (l.length + m.length) * bytes ≤ 140737488355328) (hl : l.length + m.length ≤ 9223372036854775807) {k : Value → Reg} {Q : Post}
  (hQ : ∀ v' h' b', Vec h' t E v' (l ++ m) b' → h.next ≤ h'.next → (b' = b ∨ h.next ≤ b') → (∀ x, x < h.next → (v = .slice none 0 0 ∨ x ≠ b) → h'.obj x = h.obj x) → RunR CP (k v') h' Q) :
  afterR CP (copAppend t size bytes v y h) k Q := by
 subst hsz
 unfold copAppend
 rw [hy]
 rcases V with ⟨rfl, rfl⟩ | ⟨cap, rest, rfl, h2, h3, h4, h5⟩
 ·simp only [List.length_nil, Nat.zero_add] at hb hl ⊢
  by_cases hm : m.length ≤ 0
  ·obtain rfl : m = [] := List.length_eq_zero_iff.1 (by omega)
   exact hQ _ _ b (.inl ⟨rfl, rfl⟩) (Nat.le_refl _) (.inl rfl) (fun _ _ _ => rfl)
  ·rw [if_neg hm, if_pos ⟨hb, hl⟩]
   refine hQ _ _ h.next (.inr ⟨m.length, [], by simp, Nat.lt_succ_self _, by rw [obj_new_same]; simp, by simp, by simp⟩) (Nat.le_succ _) (.inr (Nat.le_refl _)) (fun x hx _ => obj_new_ne _ _ (by omega))
 ·have hlen := E.all_len l
  have hmlen := E.all_len m
  by_cases hfit : l.length + m.length ≤ cap
  ·have hmul : (l.length + m.length) * E.sz ≤ cap * E.sz := Nat.mul_le_mul_right _ hfit
   rw [Nat.add_mul] at hmul
   simp only [if_pos hfit, if_true, h3, Nat.zero_add]
   rw [write_grow, if_pos (by rw [List.length_append, hlen, hmlen]; omega), ← hlen, setAt_over _ _ _ (by rw [hmlen]; omega)]
   refine hQ _ _ b (.inr ⟨cap, rest.drop (E.all m).length, by rw [List.length_append], h2, by rw [obj_upd_same, E.all_append], ?_, by rw [List.length_append]; exact hfit⟩) (Nat.le_refl _) (.inl rfl) (fun x _ hx => obj_upd_ne _ _ (hx.resolve_left (by simp)))
   rw [List.length_append, List.length_drop, hmlen, Nat.add_mul]; omega
  ·simp only [if_neg hfit, if_pos (show (l.length + m.length) * bytes ≤ 140737488355328 ∧ l.length + m.length ≤ 9223372036854775807 from ⟨hb, hl⟩), h3]
   rw [if_pos ⟨trivial, trivial, by rw [List.length_append, hlen]; omega, h5⟩]
   refine hQ _ _ h.next (.inr ⟨l.length + m.length, [], by rw [List.length_append], Nat.lt_succ_self _, ?_, by simp, by simp⟩) (Nat.le_succ _) (.inr (Nat.le_refl _)) (fun x hx hxb => ?_)
   ·rw [show h.next = (h.upd b .gone).next from rfl, obj_new_same, List.append_nil, List.drop_zero, ← hlen, List.take_left, E.all_append]
   ·rw [obj_new_ne _ _ (by show x ≠ h.next; omega), obj_upd_ne _ _ (hxb.resolve_left (by simp))]
theorem Vec.cut {cap : Nat} {a : Option Addr} {n : Nat} (V : Vec h t E (.slice a n cap) l b) (j : Nat) (hj : j ≤ l.length) : Vec h t E (.slice a j cap) (l.take j) b := by
 rcases V with ⟨hv, rfl⟩ | ⟨cap', rest, hv, h2, h3, h4, h5⟩
 ·simp only [Value.slice.injEq] at hv
  obtain ⟨rfl, rfl, rfl⟩ := hv
  simp only [List.length_nil] at hj
  obtain rfl : j = 0 := by omega
  exact .inl ⟨rfl, rfl⟩
 ·simp only [Value.slice.injEq] at hv
  obtain ⟨rfl, rfl, rfl⟩ := hv
  have hjl : (l.take j).length = j := by rw [List.length_take]; omega
  have hd : l.length * E.sz = j * E.sz + (l.length - j) * E.sz := by rw [← Nat.add_mul]; congr 1; omega
  refine .inr ⟨cap, E.all (l.drop j) ++ rest, by rw [hjl], h2, ?_, ?_, by omega⟩
  ·rw [h3, ← List.append_assoc, ← E.all_append, List.take_append_drop]
  ·rw [hjl, List.length_append, E.all_len, List.length_drop]; omega
end
end Go.Proofs.YtlakhgibjfmjjaaGreat.Can
namespace Go.Proofs.YtlakhgibjfmjjaaGreat.Can
open Go Go.ChangeShapes Go.WideShapes Go.Deep Go.RowKit
structure Ar (P : Program) (t : TypeId) {α : Type} (E : Enc α) (good : α → Prop) : Prop where
 cells : P.cellsOf t = E.sz
 out : ∀ {H : Type} {enc : TypeId × Value → H} {w : World} {base : Nat} {spare : Nat → Bool} {held : Bool} {fuel : Nat} {cs : List Value} {x : DataW H × List MemPlace},
  DataW.trod enc P w base spare held fuel t cs = some x → ∃ a, cs = E.enc a ∧ good a
namespace Ar
section
variable {P : Program} {t e : TypeId} {α β : Type} {d : Enc α} {b : Enc β} {good : α → Prop} {goodb : β → Prop}
theorem int {k : IntKind} (hu : P.underlying t = some (.int k)) (hc : P.cellsOf t = 1) : Ar P t (Enc.int k) (fun n => (Lit.int k n).wf = true) :=
 ⟨hc, fun h => by obtain ⟨n, rfl, _, hw⟩ := DataW.trod_int hu h; exact ⟨n, rfl, hw⟩⟩
theorem bool (hu : P.underlying t = some .bool) (hc : P.cellsOf t = 1) : Ar P t Enc.bool (fun _ => True) :=
 ⟨hc, fun h => by obtain ⟨n, rfl, _⟩ := DataW.trod_bool hu h; exact ⟨n, rfl, trivial⟩⟩
theorem str (hu : P.underlying t = some .string) (hc : P.cellsOf t = 1) : Ar P t Enc.str (fun s => s.size ≤ maxLen) :=
 ⟨hc, fun h => by obtain ⟨n, rfl, _, hw⟩ := DataW.trod_string hu h; exact ⟨n, rfl, hw⟩⟩
structure Fs (P : Program) (fs : List Field) (off : Nat) {α : Type} (d : Enc α) (good : α → Prop) : Prop where
 out : ∀ {H : Type} {enc : TypeId × Value → H} {w : World} {base : Nat} {spare : Nat → Bool} {held : Bool} {n : Nat} {cs : List Value}, cs.length = off + d.sz →
  (∀ f ∈ fs, ∃ y, DataW.trod enc P w base spare held n f.type ((cs.drop f.offset).take (P.cellsOf f.type)) = some y) → ∃ a, cs.drop off = d.enc a ∧ good a
theorem fs_one {f : Field} {off : Nat} (ho : f.offset = off) (h : Ar P f.type d good) : Fs P [f] off d good := by
 refine ⟨?_⟩
 intro H enc w base spare held n cs hl hf
 obtain ⟨y, hy⟩ := hf f (by simp)
 rw [ho, h.cells, List.take_of_length_le (by rw [List.length_drop]; omega)] at hy
 exact h.out hy
theorem fs_cons {f : Field} {fs : List Field} {off : Nat} (ho : f.offset = off) (h : Ar P f.type d good) (hr : Fs P fs (off + d.sz) b goodb) : Fs P (f :: fs) off (d.pair b) (fun x => good x.1 ∧ goodb x.2) := by
 refine ⟨?_⟩
 intro H enc w base spare held n cs hl hf
 have hl' : cs.length = off + (d.sz + b.sz) := hl
 obtain ⟨y, hy⟩ := hf f (by simp)
 rw [ho, h.cells] at hy
 obtain ⟨x, hx, gx⟩ := h.out hy
 obtain ⟨z, hz, gz⟩ := hr.out (cs := cs) (by omega) (fun f' hf' => hf f' (List.mem_cons_of_mem _ hf'))
 refine ⟨(x, z), ?_, gx, gz⟩
 show _ = d.enc x ++ b.enc z
 rw [← hx, ← hz, ← List.drop_drop, List.take_append_drop]
theorem fsOne {nm tg pk : String} {em : Bool} {ty off bo : Nat} (h : Ar P ty d good) : Fs P [{ name := nm, type := ty, offset := off, embedded := em, tag := tg, pkgPath := pk, byteOffset := bo }] off d good := fs_one rfl h
theorem fsCons {nm tg pk : String} {em : Bool} {ty off bo : Nat} {fs : List Field} (h : Ar P ty d good) (hr : Fs P fs (off + d.sz) b goodb) : Fs P ({ name := nm, type := ty, offset := off, embedded := em, tag := tg, pkgPath := pk, byteOffset := bo } :: fs) off (d.pair b) (fun x => good x.1 ∧ goodb x.2) := fs_cons rfl h hr
theorem struct {fs : Array Field} (hu : P.underlying t = some (.struct fs)) (hc : P.cellsOf t = d.sz) (h : Fs P fs.toList 0 d good) : Ar P t d good := by
 refine ⟨hc, fun h' => ?_⟩
 obtain ⟨xs, n, _, rfl, hl, hlen, hf⟩ := DataW.trod_struct hu h'
 have := h.out (by rw [hl, hc, Nat.zero_add]) (fun f hf' => by
  obtain ⟨i, hi, rfl⟩ := List.getElem_of_mem hf'
  have hi' : i < fs.size := by simpa using hi
  have e := hf i fs[i] (by rw [Array.getElem?_eq_getElem hi'])
  rw [List.getElem?_eq_getElem (by omega)] at e
  exact ⟨_, e⟩)
 rw [List.drop_zero] at this
 exact this
theorem arr2 (hu : P.underlying t = some (.array 2 e)) (hc : P.cellsOf t = d.sz + d.sz) (h : Ar P e d good) : Ar P t (d.pair d) (fun x => good x.1 ∧ good x.2) := by
 refine ⟨hc, fun h' => ?_⟩
 obtain ⟨xs, n, _, rfl, hl, hlen, hf⟩ := DataW.trod_array hu h'
 have e0 := hf 0 (by decide)
 have e1 := hf 1 (by decide)
 rw [List.getElem?_eq_getElem (by omega), Nat.zero_mul, List.drop_zero, h.cells] at e0
 rw [List.getElem?_eq_getElem (by omega), Nat.one_mul, h.cells, List.take_of_length_le (by rw [List.length_drop]; omega)] at e1
 obtain ⟨x, hx, gx⟩ := h.out e0
 obtain ⟨z, hz, gz⟩ := h.out e1
 refine ⟨(x, z), ?_, gx, gz⟩
 show _ = d.enc x ++ d.enc z
 rw [← hx, ← hz, List.take_append_drop]
theorem agg (h : Ar P t d good) {cs : Array Value} {H : Type} {enc : TypeId × Value → H} {w : World} {base : Nat} {spare : Nat → Bool} {held : Bool} {dd : DataW H} {ps : List MemPlace}
  (hx : DataW.Trod enc P w base spare held t (.agg cs) dd ps) : ∃ a, cs = (d.enc a).toArray ∧ good a := by
 obtain ⟨fuel, hf⟩ := hx
 obtain ⟨a, ha, hg⟩ := h.out (cs := cs.toList) (by simpa [Value.cells] using hf)
 exact ⟨a, by rw [← ha], hg⟩
theorem okWide_array {n : Nat} {r : Reach} {w : World} {base : Nat} {v : Value} (ht : P.underlying t = some (.array n e)) (h : Value.okWide P w r base t v) : ∃ cs, v = .agg cs ∧ cs.size = P.cellsOf t := by
 simp only [Value.okWide, ht] at h
 obtain ⟨cs, h1, h2, _⟩ := h
 exact ⟨cs, h1, h2⟩
end
end Ar
theorem okWide_slice_lt {P : Program} {w : World} {base : Nat} {t e : TypeId} {a : Option Addr} {len cap : Nat} (ht : P.underlying t = some (.slice e)) (h : Value.okWide P w .any base t (.slice a len cap)) : ∀ x, a = some x → x.block < w.heap.size := by
 intro x hx
 subst hx
 simp only [Value.okWide, ht, Cell.okWide, Cell.ok] at h
 obtain ⟨_, _, _, _, row, cells, hs, _⟩ := h
 unfold World.shape? at hs
 split at hs
 ·rename_i c t' fr hb; exact (Array.getElem?_eq_some_iff.1 hb).1
 ·simp at hs
theorem law_sound {P : Program} {CP : CProg} (hP : Progs P CP) {f : FuncId} {args : List Value} {h : Heap} (hc : CALL CP f args h fun v _ => v = .bool true) {m : Map} {W : World} {args' : Array Value} (ha : VL m args args'.toList) (hE : Emb P ⟨fun k => k < W.heap.size, fun _ => False⟩ m h W) (hf : ∀ b, h.next ≤ b → m b = Option.none) (hgl : GlobOK m := by intro g hg; exact absurd hg (by simp [GLN])) :
  Calls P f args' W fun e W' => e = .returned (.bool true) ∧ Below W.heap.size W W' := by
 refine (call_sound hP hc ha hE hf hgl).mono fun e W' hp => ?_
 obtain ⟨v, v', h1, m1, rfl, rfl, hv, ho⟩ := hp
 refine ⟨by rw [hv.bool_inv], ho.wd.os, ho.wd.tape, ho.wd.output, ho.wd.size, fun k hk => ho.wd.block k (.inl hk)⟩
def plainV (v : Value) : Value := if selfS v then v else unk
def idObj : Option Go.Obj → Obj
 | some (.cells c t _) => .cells (c.toList.map plainV) t .ro
 | some _ => .cells [] 0 .ro
 | none => .gone
def idHeap (W : World) : Heap := ⟨fun b => idObj W.heap[b]?, W.heap.size⟩
def totOf : Option Go.Obj → Nat
 | some (.cells c _ _) => c.size
 | _ => 0
def unitOf (P : Program) : Option Go.Obj → Nat
 | some (.cells _ t _) => P.cellsOf t
 | _ => 0
def idMap (P : Program) (W : World) : Map := fun b => if b < W.heap.size then some ⟨b, 0, totOf W.heap[b]?, unitOf P W.heap[b]?, false⟩ else none
theorem VR.plain {m : Map} (v : Value) : VR m (plainV v) v := by
 unfold plainV
 split
 ·rename_i h; exact VR.selfS h
 ·exact .unk v
theorem plain_self {v : Value} (h : selfS v = true) : plainV v = v := by unfold plainV; rw [if_pos h]
def Kp (W : World) : Stay := ⟨fun k => k < W.heap.size, fun _ => False⟩
theorem Emb.id (P : Program) (W : World) : Emb P (Kp W) (idMap P W) (idHeap W) W := by
 have hm : ∀ b L, idMap P W b = some L → b < W.heap.size ∧ L = ⟨b, 0, totOf W.heap[b]?, unitOf P W.heap[b]?, false⟩ := fun b L h => by
  unfold idMap at h
  split at h
  ·rename_i hb; exact ⟨hb, (Option.some.inj h).symm⟩
  ·simp at h
 have hwr : ∀ b, ((idHeap W).obj b).wr = false := fun b => by
  show (idObj W.heap[b]?).wr = false
  unfold idObj
  split <;> rfl
 refine ⟨fun b L h _ => ?_, fun b c L K h1 h2 _ _ he => ?_, fun b L h => ?_, fun b L h hw => ?_, fun b L h _ hf => hf, fun k h => h.elim (fun h => h) False.elim, fun b hb => ?_⟩
 ·obtain ⟨h1, rfl⟩ := hm b L h; exact h1
 ·obtain ⟨_, rfl⟩ := hm b L h1; obtain ⟨_, rfl⟩ := hm c K h2; exact he
 ·obtain ⟨h1, rfl⟩ := hm b L h
  show ObjR P _ _ W (idObj W.heap[b]?)
  cases hq : W.heap[b]? with
  | none => trivial
  | some o =>
   cases o with
   | cells c t fr =>
    refine .inr ⟨c, fr, by simp only [hq], rfl, by simp [totOf], ?_, fun hro => absurd rfl hro, rfl, rfl, fun hro => absurd rfl hro, fun hro => absurd hro (by simp)⟩
    refine ⟨by simp, fun i x y hx hy => ?_⟩
    rw [List.getElem?_map] at hx
    simp only [List.drop_zero, List.length_map] at hy
    rw [List.take_of_length_le (Nat.le_refl _)] at hy
    rw [hy] at hx
    simp only [Option.map_some, Option.some.injEq] at hx
    subst hx
    exact VR.plain y
   | _ => exact .inl ⟨rfl, rfl, rfl⟩
 ·rw [hwr b] at hw; exact absurd hw Bool.false_ne_true
 ·have hb' : W.heap.size ≤ b := hb
  show idObj W.heap[b]? = .gone
  rw [Array.getElem?_eq_none hb']; rfl
theorem idMap_free (P : Program) (W : World) : ∀ b, (idHeap W).next ≤ b → idMap P W b = none := fun b hb => by
 have hb' : W.heap.size ≤ b := hb
 unfold idMap; rw [if_neg (by omega)]
def SlIn {α : Type} (h : Heap) (E : Enc α) (v : Value) (l : List α) : Prop :=
 (v = .slice none 0 0 ∧ l = []) ∨
 ∃ b o cap, v = .slice (some ⟨b, o, none⟩) l.length cap ∧ l.length ≤ cap ∧ b < h.next ∧
  ∃ c t, h.obj b = .cells c t .ro ∧ o + cap * E.sz ≤ c.length ∧ ∀ i x, l[i]? = some x → (c.drop (o + i * E.sz)).take E.sz = E.enc x
theorem cell_id {W : World} {a : Addr} {v : Value} (h : W.cell? a = some v) (hs : selfS v = true) :
  a.spot = none ∧ ∃ c t, (idHeap W).obj a.block = .cells c t .ro ∧ a.block < W.heap.size ∧ c[a.off]? = some v := by
 unfold World.cell? at h
 split at h
 case h_2 => simp at h
 rename_i c' t fr hb
 split at h
 ·simp at h
 rename_i hsp
 refine ⟨by simpa using hsp, c'.toList.map plainV, t, ?_, (Array.getElem?_eq_some_iff.1 hb).1, ?_⟩
 ·show idObj W.heap[a.block]? = _
  rw [hb]; rfl
 ·rw [List.getElem?_map, Array.getElem?_toList, h]; simp [plain_self hs]
theorem cell_blk {W : World} {a : Addr} {v : Value} (h : W.cell? a = some v) :
  a.spot = none ∧ ∃ c t, (idHeap W).obj a.block = .cells c t .ro ∧ a.block < W.heap.size ∧ a.off < c.length := by
 unfold World.cell? at h
 split at h
 case h_2 => simp at h
 rename_i c' t fr hb
 split at h
 ·simp at h
 rename_i hsp
 refine ⟨by simpa using hsp, c'.toList.map plainV, t, ?_, (Array.getElem?_eq_some_iff.1 hb).1, ?_⟩
 ·show idObj W.heap[a.block]? = _
  rw [hb]; rfl
 ·have := (Array.getElem?_eq_some_iff.1 h).1
  simpa using this
theorem list_of {α : Type} {p : Nat → α → Prop} : ∀ n, (∀ i, i < n → ∃ a, p i a) → ∃ l : List α, l.length = n ∧ ∀ j a, l[j]? = some a → p j a
 | 0, _ => ⟨[], rfl, fun j a h => by simp at h⟩
 | n + 1, h => by
  obtain ⟨l, hl, hp⟩ := list_of n (fun i hi => h i (by omega))
  obtain ⟨a, ha⟩ := h n (by omega)
  refine ⟨l ++ [a], by simp [hl], fun j x hj => ?_⟩
  by_cases c : j < l.length
  ·rw [List.getElem?_append_left c] at hj; exact hp j x hj
  ·rw [List.getElem?_append_right (by omega)] at hj
   by_cases c2 : j - l.length = 0
   ·have e : j = n := by omega
    rw [c2] at hj
    simp at hj
    subst hj; subst e; exact ha
   ·rw [List.getElem?_eq_none (by simp; omega)] at hj; cases hj
theorem slice_in {P : Program} {t e : TypeId} {α : Type} {E : Enc α} {good : α → Prop} (ht : P.underlying t = some (.slice e)) (hE : Ar P e E good) (hsz : 0 < E.sz) {H : Type} {enc : TypeId × Value → H} {w : World} {a : Option Addr} {len cap : Nat} {dd : DataW H} {ps : List MemPlace}
  (hlt : ∀ x, a = some x → x.block < w.heap.size)
  (hx : DataW.Trod enc P w 0 (fun _ => true) true t (.slice a len cap) dd ps) :
  ∃ (l : List α) (v : Value), SlIn (idHeap w) E v l ∧ VR (idMap P w) v (.slice a len cap) ∧ l.length = len ∧ len ≤ cap ∧ cap ≤ maxLen ∧ ∀ x ∈ l, good x := by
 obtain ⟨fuel, hf⟩ := hx
 rcases open_slice ht hf with ⟨hcs, _⟩ | ⟨a', len', cap', m, n, D, Pl, hcs, _, hl, hm, hmm, _, hel⟩
 ·simp [Value.cells] at hcs
  obtain ⟨rfl, rfl, rfl⟩ := hcs
  exact ⟨[], .slice none 0 0, .inl ⟨rfl, rfl⟩, .nilSlice 0 0, rfl, Nat.le_refl _, Nat.zero_le _, fun x hx => by cases hx⟩
 ·simp [Value.cells] at hcs
  obtain ⟨rfl, rfl, rfl⟩ := hcs
  have hmm' : m = cap := by rw [hmm]; rfl
  subst hmm'
  have hlb := hlt a' rfl
  rcases Nat.eq_zero_or_pos m with h0 | hpos
  ·subst h0
   obtain rfl : len = 0 := by omega
   obtain ⟨c0, t0, hob⟩ : ∃ c t, (idHeap w).obj a'.block = .cells c t .ro := by
    show ∃ c t, idObj w.heap[a'.block]? = .cells c t .ro
    rw [Array.getElem?_eq_getElem hlb]
    unfold idObj
    split
    ·exact ⟨_, _, rfl⟩
    ·exact ⟨_, _, rfl⟩
    ·rename_i h; simp at h
   exact ⟨[], .slice (some ⟨a'.block, 0, none⟩) 0 0, .inr ⟨_, _, 0, rfl, Nat.le_refl _, hlb, c0, t0, hob, by omega, fun i x hx => by simp at hx⟩,
    .slice0 a'.block 0 ⟨a'.block, 0, totOf w.heap[a'.block]?, unitOf P w.heap[a'.block]?, false⟩ a' (by unfold idMap; rw [if_pos hlb]), rfl, Nat.le_refl _, hm, fun x hx => by cases hx⟩
  ·have cellAt : ∀ i j, i < m → j < E.sz → ∃ u, w.cell? (a'.add (i * E.sz + j)) = some u := fun i j hi hj => by
    obtain ⟨cs', h1, h2⟩ := hel i hi
    obtain ⟨_, hcl, hcell⟩ := World.cells?_some h1
    rw [hE.cells] at hcl hcell
    have := hcell j hj
    rw [Go.Deep.add_add] at this
    exact ⟨_, by rw [this]; exact List.getElem?_eq_getElem (by omega)⟩
   obtain ⟨u0, hu0⟩ := cellAt 0 0 hpos hsz
   rw [Nat.zero_mul, Nat.add_zero, add_zero_addr] at hu0
   obtain ⟨hspot, c0, t0, hob, _, _⟩ := cell_blk hu0
   obtain ⟨ab, ao, as⟩ := a'
   simp only at hspot hob hlb
   subst hspot
   have hend : ao + m * E.sz ≤ c0.length := by
    obtain ⟨u1, hu1⟩ := cellAt (m - 1) (E.sz - 1) (by omega) (by omega)
    rw [add_plain] at hu1
    obtain ⟨_, c1, t1, hob1, _, hlt1⟩ := cell_blk hu1
    simp only at hob1 hlt1
    rw [hob] at hob1
    simp only [Obj.cells.injEq] at hob1
    rw [← hob1.1] at hlt1
    have : (m - 1) * E.sz + E.sz = m * E.sz := by
     obtain ⟨q, rfl⟩ : ∃ q, m = q + 1 := ⟨m - 1, by omega⟩
     rw [Nat.add_sub_cancel, Nat.add_mul, Nat.one_mul]
    omega
   obtain ⟨l, hlen, hp⟩ := list_of (p := fun i x => (c0.drop (ao + i * E.sz)).take E.sz = E.enc x ∧ good x) len (fun i hi => by
    obtain ⟨cs', h1, h2⟩ := hel i (by omega)
    obtain ⟨x, hk, hg⟩ := hE.out h2
    obtain ⟨_, hcl, hcell⟩ := World.cells?_some h1
    rw [hE.cells] at hcl hcell
    refine ⟨x, ?_, hg⟩
    rw [← hk]
    apply List.ext_getElem?
    intro j
    by_cases hj : j < E.sz
    ·rw [getElem?_drop_take _ _ _ _ hj]
     have h3 := hcell j hj
     rw [Go.Deep.add_add, add_plain] at h3
     have hcj : cs'[j]? = some cs'[j] := List.getElem?_eq_getElem (by omega)
     rw [hcj] at h3
     have hself : selfS cs'[j] = true := by
      have := E.self x
      rw [← hk] at this
      exact List.all_eq_true.1 this _ (List.getElem_mem _)
     obtain ⟨_, c1, t1, hob1, _, hget⟩ := cell_id h3 hself
     simp only at hob1 hget
     rw [hob] at hob1
     simp only [Obj.cells.injEq] at hob1
     rw [← hob1.1] at hget
     rw [Nat.add_assoc, hget, hcj]
    ·rw [List.getElem?_eq_none (by simp; omega), List.getElem?_eq_none (by omega)])
   refine ⟨l, .slice (some ⟨ab, ao, none⟩) len m, .inr ⟨ab, ao, m, by rw [hlen], by omega, hlb, c0, t0, hob, hend, fun i x hx => (hp i x hx).1⟩, ?_, hlen, hl, hm, fun x hx => ?_⟩
   ·have := VR.slice (m := idMap P w) ab ao len m m ⟨ab, 0, totOf w.heap[ab]?, unitOf P w.heap[ab]?, false⟩ (by unfold idMap; rw [if_pos hlb]) hl (Nat.le_refl _) (fun h => absurd h Bool.false_ne_true)
    simpa using this
   ·obtain ⟨j, hj⟩ := List.getElem?_of_mem hx
    exact (hp j x hj).2
theorem VR.enc {m : Map} {α : Type} (E : Enc α) (x : α) : VR m (.agg (E.enc x).toArray) (.agg (E.enc x).toArray) :=
 VR.selfV (show (E.enc x).all Can.selfS = true from E.self x)
structure Rd (α : Type) where
 sz : Nat
 rel : Heap → List Value → α → Prop
namespace Rd
def flat {α : Type} (E : Enc α) (good : α → Prop) : Rd α := ⟨E.sz, fun _ cc a => cc = E.enc a ∧ good a⟩
def slice {α : Type} (E : Enc α) (good : α → Prop) : Rd (List α) := ⟨1, fun h cc l => ∃ v, cc = [v] ∧ SlIn h E v l ∧ l.length ≤ maxLen ∧ ∀ x ∈ l, good x⟩
def pair {α β : Type} (a : Rd α) (b : Rd β) : Rd (α × β) := ⟨a.sz + b.sz, fun h cc x => ∃ c d, cc = c ++ d ∧ a.rel h c x.1 ∧ b.rel h d x.2⟩
end Rd
structure ArS (P : Program) (t : TypeId) {α : Type} (R : Rd α) : Prop where
 cells : P.cellsOf t = R.sz
 out : ∀ {H : Type} {enc : TypeId × Value → H} {w : World} {fuel : Nat} {cs : List Value} {x : DataW H × List MemPlace},
  DataW.trod enc P w 0 (fun _ => true) true fuel t cs = some x → (∀ a n c, Value.slice (some a) n c ∈ cs → a.block < w.heap.size) → ∃ cc a, VL (idMap P w) cc cs ∧ R.rel (idHeap w) cc a
namespace ArS
section
variable {P : Program} {t e : TypeId} {α β : Type} {E : Enc α} {good : α → Prop} {a : Rd α} {b : Rd β}
theorem flat (h : Ar P t E good) : ArS P t (Rd.flat E good) :=
 ⟨h.cells, fun hx _ => by
  obtain ⟨a, rfl, hg⟩ := h.out hx
  exact ⟨_, a, VL.selfS (E.self a), rfl, hg⟩⟩
theorem slice (ht : P.underlying t = some (.slice e)) (hc : P.cellsOf t = 1) (hE : Ar P e E good) (hsz : 0 < E.sz) : ArS P t (Rd.slice E good) :=
 ⟨hc, fun {H enc w fuel cs x} hx hlt => by
  obtain ⟨a, n, c, rfl⟩ : ∃ a n c, cs = [.slice a n c] := by
   rcases open_slice ht hx with ⟨hcs, _⟩ | ⟨a', len', cap', m, n, D, Pl, hcs, _⟩
   ·exact ⟨_, _, _, hcs⟩
   ·exact ⟨_, _, _, hcs⟩
  obtain ⟨l, v, h1, h2, h3, h4, h5, h6⟩ := slice_in (a := a) (len := n) (cap := c) ht hE hsz (fun y hy => hlt y n c (by rw [hy]; exact List.mem_singleton_self _)) ⟨fuel, by simpa [Value.cells] using hx⟩
  exact ⟨[v], l, VL.cons h2 (VL.nil _), v, rfl, h1, by omega, h6⟩⟩
structure Fs (P : Program) (fs : List Field) (off : Nat) {α : Type} (d : Rd α) : Prop where
 out : ∀ {H : Type} {enc : TypeId × Value → H} {w : World} {n : Nat} {cs : List Value}, cs.length = off + d.sz → (∀ a n c, Value.slice (some a) n c ∈ cs → a.block < w.heap.size) →
  (∀ f ∈ fs, ∃ y, DataW.trod enc P w 0 (fun _ => true) true n f.type ((cs.drop f.offset).take (P.cellsOf f.type)) = some y) → ∃ cc a, VL (idMap P w) cc (cs.drop off) ∧ d.rel (idHeap w) cc a
theorem fs_one {f : Field} {off : Nat} (ho : f.offset = off) (h : ArS P f.type a) : Fs P [f] off a := by
 refine ⟨?_⟩
 intro H enc w n cs hl hlt hf
 obtain ⟨y, hy⟩ := hf f (by simp)
 rw [ho, h.cells, List.take_of_length_le (by rw [List.length_drop]; omega)] at hy
 exact h.out hy fun a n c hm => hlt a n c (List.mem_of_mem_drop hm)
theorem fs_cons {f : Field} {fs : List Field} {off : Nat} (ho : f.offset = off) (h : ArS P f.type a) (hr : Fs P fs (off + a.sz) b) : Fs P (f :: fs) off (a.pair b) := by
 refine ⟨?_⟩
 intro H enc w n cs hl hlt hf
 have hl' : cs.length = off + (a.sz + b.sz) := hl
 obtain ⟨y, hy⟩ := hf f (by simp)
 rw [ho, h.cells] at hy
 obtain ⟨c1, x, hx, gx⟩ := h.out hy fun a n c hm => hlt a n c (List.mem_of_mem_drop (List.mem_of_mem_take hm))
 obtain ⟨c2, z, hz, gz⟩ := hr.out (cs := cs) (by omega) hlt (fun f' hf' => hf f' (List.mem_cons_of_mem _ hf'))
 refine ⟨c1 ++ c2, (x, z), ?_, c1, c2, rfl, gx, gz⟩
 have := VL.append hx hz
 rw [← List.drop_drop, List.take_append_drop] at this
 exact this
theorem fsOne {nm tg pk : String} {em : Bool} {ty off bo : Nat} (h : ArS P ty a) : Fs P [{ name := nm, type := ty, offset := off, embedded := em, tag := tg, pkgPath := pk, byteOffset := bo }] off a := fs_one rfl h
theorem fsCons {nm tg pk : String} {em : Bool} {ty off bo : Nat} {fs : List Field} (h : ArS P ty a) (hr : Fs P fs (off + a.sz) b) : Fs P ({ name := nm, type := ty, offset := off, embedded := em, tag := tg, pkgPath := pk, byteOffset := bo } :: fs) off (a.pair b) := fs_cons rfl h hr
theorem struct {fs : Array Field} (hu : P.underlying t = some (.struct fs)) (hc : P.cellsOf t = a.sz) (h : Fs P fs.toList 0 a) : ArS P t a := by
 refine ⟨hc, fun h' hlt => ?_⟩
 obtain ⟨xs, n, _, rfl, hl, hlen, hf⟩ := DataW.trod_struct hu h'
 have := h.out (by rw [hl, hc, Nat.zero_add]) hlt (fun f hf' => by
  obtain ⟨i, hi, rfl⟩ := List.getElem_of_mem hf'
  have hi' : i < fs.size := by simpa using hi
  have e := hf i fs[i] (by rw [Array.getElem?_eq_getElem hi'])
  rw [List.getElem?_eq_getElem (by omega)] at e
  exact ⟨_, e⟩)
 rw [List.drop_zero] at this
 exact this
theorem agg (h : ArS P t a) {cs : Array Value} {H : Type} {enc : TypeId × Value → H} {w : World} {dd : DataW H} {ps : List MemPlace}
  (hlt : ∀ a n c, Value.slice (some a) n c ∈ cs.toList → a.block < w.heap.size) (hx : DataW.Trod enc P w 0 (fun _ => true) true t (.agg cs) dd ps) : ∃ cc x, VR (idMap P w) (.agg cc.toArray) (.agg cs) ∧ a.rel (idHeap w) cc x := by
 obtain ⟨fuel, hf⟩ := hx
 obtain ⟨cc, x, hv, hr⟩ := h.out (cs := cs.toList) (by simpa [Value.cells] using hf) hlt
 exact ⟨cc, x, VR.agg_of (by simpa using hv), hr⟩
end
end ArS
theorem okWide_row {P : Program} {w : World} {base : Nat} {t : TypeId} {fs : Array Field} {cs : Array Value} (ht : P.underlying t = some (.struct fs)) (h : Value.okWide P w .any base t (.agg cs)) :
  ∀ a n c, Value.slice (some a) n c ∈ cs.toList → a.block < w.heap.size := by
 intro a n c hm
 simp only [Value.okWide, ht] at h
 obtain ⟨cs', h1, _, ts, _, _, hrow⟩ := h
 obtain rfl := Value.agg.inj h1
 obtain ⟨i, hi⟩ := List.getElem?_of_mem hm
 rw [Array.getElem?_toList] at hi
 obtain ⟨u, _, hok⟩ := hrow i _ hi
 unfold Cell.okWide at hok
 split at hok <;> try contradiction
 unfold Cell.ok at hok
 split at hok <;> try contradiction
 all_goals
  rename_i hv
  first
   | (exfalso; simp at hv; done)
   | skip
 ·rename_i hv
  obtain ⟨_, _, _, _, row, cells, hs, _⟩ := hok
  simp only [Value.slice.injEq, Option.some.injEq] at hv
  rw [← hv.1] at hs
  unfold World.shape? at hs
  split at hs
  ·rename_i hb; exact (Array.getElem?_eq_some_iff.1 hb).1
  ·simp at hs
section
variable {α : Type} {h h' : Heap} {E : Enc α} {v : Value} {l : List α}
theorem SlIn.old (s : SlIn h E v l) (hn : h.next ≤ h'.next) (ho : ∀ b, b < h.next → h'.obj b = h.obj b) : SlIn h' E v l := by
 rcases s with s | ⟨b, o, cap, h1, h2, h3, h4⟩
 ·exact .inl s
 ·refine .inr ⟨b, o, cap, h1, h2, Nat.lt_of_lt_of_le h3 hn, ?_⟩
  obtain ⟨c, t, k1, k2⟩ := h4
  exact ⟨c, t, by rw [ho b h3]; exact k1, k2⟩
theorem SlIn.val (s : SlIn h E v l) : ∃ a cap, v = .slice a l.length cap ∧ l.length ≤ cap := by
 rcases s with ⟨rfl, rfl⟩ | ⟨b, o, cap, h1, h2, _⟩
 ·exact ⟨none, 0, rfl, Nat.le_refl _⟩
 ·exact ⟨_, cap, h1, h2⟩
theorem SlIn.read {a : Option Addr} {n cap : Nat} (s : SlIn h E (.slice a n cap) l) {i : Nat} {x : α} (hx : l[i]? = some x) :
  ∃ b o, a = some ⟨b, o, none⟩ ∧ b < h.next ∧ (h.obj b).read (o + i * E.sz) E.sz = some (E.enc x) := by
 rcases s with ⟨_, rfl⟩ | ⟨b, o, cap', h1, h2, h3, h4⟩
 ·simp at hx
 ·simp only [Value.slice.injEq] at h1
  obtain ⟨rfl, rfl, rfl⟩ := h1
  have hi := (List.getElem?_eq_some_iff.1 hx).1
  obtain ⟨c, t, hob, hend, hat⟩ := h4
  refine ⟨b, o, rfl, h3, ?_⟩
  have : (i + 1) * E.sz ≤ cap * E.sz := Nat.mul_le_mul_right _ (by omega)
  rw [Nat.add_mul, Nat.one_mul] at this
  rw [hob, Obj.read, if_pos (by omega), hat i x hx]
theorem SlIn.get {k : IntKind} {l : List Int} {a : Option Addr} {n cap : Nat} (s : SlIn h (Enc.int k) (.slice a n cap) l) {i : Nat} {x : Int} (hx : l[i]? = some x) :
  ∃ b o, a = some ⟨b, o, none⟩ ∧ b < h.next ∧ (h.obj b).get (o + i) = some (.int k x) := by
 obtain ⟨b, o, h1, h2, h3⟩ := s.read hx
 exact ⟨b, o, h1, h2, get_of_read (by simpa [Enc.int] using h3)⟩
theorem SlIn.src (s : SlIn h E v l) : srcCells h E.sz v = some (l.flatMap E.enc, l.length) := by
 rcases s with ⟨rfl, rfl⟩ | ⟨b, o, cap, rfl, h2, h3, h4⟩
 ·rfl
 ·unfold srcCells
  simp only [if_true]
  obtain ⟨c, t, hob, hend, hat⟩ := h4
  have hle : l.length * E.sz ≤ cap * E.sz := Nat.mul_le_mul_right _ h2
  have hcut : ∀ n, n ≤ l.length → (c.drop o).take (n * E.sz) = (l.take n).flatMap E.enc := by
   intro n
   induction n with
   | zero => intro _; simp
   | succ n ih =>
    intro hn
    have hx : l[n]? = some l[n] := List.getElem?_eq_getElem (by omega)
    rw [List.take_add_one, hx, List.flatMap_append, ← ih (by omega), Nat.add_mul, Nat.one_mul, List.take_add, List.drop_drop, hat n _ hx]
    simp
  have hall : (l.flatMap E.enc).all scalar = true := by
   rw [List.all_eq_true]
   intro x hx
   obtain ⟨y, _, hy⟩ := List.mem_flatMap.1 hx
   exact scalar_of_self (List.all_eq_true.1 (E.self y) x hy)
  have hc := hcut l.length (Nat.le_refl _)
  rw [List.take_length] at hc
  rw [hob, Obj.src, hc, if_pos ⟨by omega, hall⟩]
  rfl
end
def Lst {α : Type} (h : Heap) (E : Enc α) (v : Value) (l : List α) : Prop :=
 ∃ a cap, v = .slice a l.length cap ∧ ∀ i x, l[i]? = some x → ∃ b o, a = some ⟨b, o, none⟩ ∧ b < h.next ∧ (h.obj b).read (o + i * E.sz) E.sz = some (E.enc x)
theorem Lst.old {α : Type} {h h' : Heap} {E : Enc α} {v : Value} {l : List α} (s : Lst h E v l) (o : Old h h') : Lst h' E v l := by
 obtain ⟨a, cap, h1, h2⟩ := s
 refine ⟨a, cap, h1, fun i x hx => ?_⟩
 obtain ⟨b, off, k1, k2, k3⟩ := h2 i x hx
 exact ⟨b, off, k1, Nat.lt_of_lt_of_le k2 o.next, by rw [o.obj b k2]; exact k3⟩
theorem SlIn.sl {α : Type} {h : Heap} {E : Enc α} {v : Value} {l : List α} (s : SlIn h E v l) : Lst h E v l := by
 obtain ⟨a, cap, rfl, _⟩ := s.val
 exact ⟨a, cap, rfl, fun i x hx => s.read hx⟩
theorem Vec.sl {α : Type} {h : Heap} {t : TypeId} {E : Enc α} {v : Value} {l : List α} {b : Nat} (s : Vec h t E v l b) : Lst h E v l := by
 rcases s with ⟨rfl, rfl⟩ | ⟨cap, rest, rfl, h1, h2, h3, h4⟩
 ·exact ⟨none, 0, rfl, fun i x hx => by simp at hx⟩
 ·refine ⟨_, cap, rfl, fun i x hx => ⟨b, 0, rfl, h1, ?_⟩⟩
  obtain ⟨_, _, hr⟩ := Vec.read (.inr ⟨cap, rest, rfl, h1, h2, h3, h4⟩) hx
  exact hr
theorem Old.put {h hh : Heap} (o : Old h hh) (a b : Obj) : Old h ((hh.new a).upd hh.next b) :=
 ⟨Nat.le_trans o.next (Nat.le_succ _), fun x hx => by have := o.next; rw [obj_upd_ne _ _ (by omega), obj_new_ne _ _ (by omega)]; exact o.obj x hx⟩
theorem Old.more {h hh : Heap} (o : Old h hh) (a : Obj) : Old h (hh.new a) :=
 ⟨Nat.le_trans o.next (Nat.le_succ _), fun x hx => by have := o.next; rw [obj_new_ne _ _ (by omega)]; exact o.obj x hx⟩
theorem take_get {α : Type} {l : List α} {j : Nat} {x : α} (h : l[j]? = some x) : l.take (j + 1) = l.take j ++ [x] := by
 rw [List.take_add_one, h]; rfl
theorem if_max (x y : Int) : (if y > x then y else x) = max x y := by omega
theorem if_min (x y : Int) : (if y < x then y else x) = min x y := by omega
end Go.Proofs.YtlakhgibjfmjjaaGreat.Can
