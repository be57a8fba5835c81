/- Statements, control, calls: what the canonical machine does the program's does. No condition. -/
import Derived.Test.YtekojjilbchkgaaCanSim
import Derived.Tactics
import Derived.Laws.Externs
import Derived.KernelRfl
namespace Go.Proofs.Ytekojjilbchkgaa.Can
open Go
set_option linter.unusedSimpArgs false
set_option linter.unusedVariables false

/-! ### numbers of objects only rise -/
theorem next_map {α : Type} {x : Option α} {f : α → Value × Heap} {h h1 : Heap} {v : Value} (hc : x.map f = some (v, h1)) (hf : ∀ a, h.next ≤ (f a).2.next) : h.next ≤ h1.next := by
  simp only [Option.map_eq_some_iff] at hc
  obtain ⟨a, _, ha⟩ := hc
  have := hf a
  rw [ha] at this; exact this
theorem next_bind {α : Type} {x : Option α} {f : α → Option (Value × Heap)} {h h1 : Heap} {v : Value} (hc : x.bind f = some (v, h1)) (hf : ∀ a, f a = some (v, h1) → h.next ≤ h1.next) : h.next ≤ h1.next := by
  simp only [Option.bind_eq_some_iff] at hc
  obtain ⟨a, _, ha⟩ := hc
  exact hf a ha
theorem next_some {h h1 h2 : Heap} {v u : Value} (hc : some (u, h2) = some (v, h1)) (hle : h.next ≤ h2.next) : h.next ≤ h1.next := by
  simp only [Option.some.injEq, Prod.mk.injEq] at hc
  rw [← hc.2]; exact hle
theorem next_none {h h1 : Heap} {v : Value} (hc : (none : Option (Value × Heap)) = some (v, h1)) : h.next ≤ h1.next := by simp at hc

theorem cop_next {o : COp} {h h1 : Heap} {v : Value} (hc : cop o h = some (v, h1)) : h.next ≤ h1.next := by
  have r0 : h.next ≤ h.next := Nat.le_refl _
  have ru : ∀ (b : Nat) (o : Obj), h.next ≤ (h.upd b o).next := fun _ _ => Nat.le_refl _
  have rn : ∀ (o : Obj), h.next ≤ (h.new o).next := fun _ => Nat.le_succ _
  have rk : ∀ (b : Nat) (o : Obj), h.next ≤ ((h.upd b .gone).new o).next := fun _ _ => Nat.le_succ _
  cases o <;> simp only [cop, copAppend] at hc <;> first
    | exact next_some hc r0
    | exact next_some hc (rn _)
    | exact next_none hc
    | exact next_map hc fun _ => r0
    | exact next_map hc fun _ => rn _
    | (split at hc <;> first | exact next_some hc r0 | exact next_some hc (rn _) | exact next_none hc | exact next_map hc fun _ => r0 | exact next_map hc fun _ => ru _ _ |
        exact next_bind hc fun _ ha => next_map ha fun _ => r0 |
        (split at hc <;> first | exact next_some hc r0 | exact next_some hc (rn _) | exact next_none hc | exact next_map hc fun _ => r0 | exact next_map hc fun _ => ru _ _ |
          exact next_bind hc fun _ ha => next_map ha fun _ => r0 |
          (refine next_bind hc fun _ ha => next_map ha fun x => ?_; cases x <;> first | exact r0 | exact ru _ _ ; done) |
          (split at hc <;> first | exact next_some hc r0 | exact next_some hc (ru _ _) | exact next_some hc (rn _) | exact next_none hc | exact next_map hc fun _ => r0 | exact next_map hc fun _ => ru _ _ |
            (split at hc <;> first | exact next_some hc r0 | exact next_some hc (rn _) | exact next_some hc (rk _ _) | exact next_none hc | exact next_map hc fun _ => r0 | exact next_map hc fun _ => ru _ _ |
              (split at hc <;> first | exact next_some hc r0 | exact next_some hc (rn _) | exact next_some hc (rk _ _) | exact next_none hc | exact next_map hc fun _ => ru _ _ |
                (split at hc <;> first | exact next_some hc (rn _) | exact next_some hc (rk _ _) | exact next_none hc))))))

/-- What a call comes to. -/
def CPost (P : Program) (S : Stay) (m : Map) (h : Heap) (w : World) (v : Value) (h1 : Heap) : Ending → World → Prop :=
  fun e w1 => ∃ v' m1, e = .returned v' ∧ VR m1 v v' ∧ Out P S m h w m1 h1 w1

structure CallOK (P : Program) (f : FuncId) (args : List Value) (h : Heap) (v : Value) (h1 : Heap) : Prop where
  has : ∃ F, P.funcs[f]? = some F ∧ (F.name == "runtime.NumGoroutine") = false ∧ F.body.isNone = false
  next : h.next ≤ h1.next
  runs : ∀ (S : Stay) (m : Map) (w : World) (args' : Array Value), VL m args args'.toList → Emb P S m h w → Free m h.next h1.next → GlobOK m → Calls P f args' w (CPost P S m h w v h1)

def CallsOK (P : Program) (call : CallFn) : Prop := ∀ f args h v h1, call f args h = some (v, h1) → CallOK P f args h v h1

theorem evOp_next {P : Program} {call : CallFn} (hcall : CallsOK P call) {o : COp} {h h1 : Heap} {v : Value} (hc : evOp call o h = some (v, h1)) : h.next ≤ h1.next := by
  unfold evOp at hc
  split at hc
  · exact (hcall _ _ _ _ _ hc).next
  · exact (hcall _ _ _ _ _ hc).next
  · exact cop_next hc
theorem evR_next {P : Program} {call : CallFn} (hcall : CallsOK P call) (r : Reg) : ∀ {h h1 : Heap} {e1 : Env}, evR call r h = some (e1, h1) → h.next ≤ h1.next := by
  induction r with
  | done e => intro h h1 e1 hc; simp only [evR, Option.some.injEq, Prod.mk.injEq] at hc; rw [hc.2]; exact Nat.le_refl _
  | op o k ih =>
    intro h h1 e1 hc
    simp only [evR] at hc
    split at hc
    · rename_i v h' he; exact Nat.le_trans (evOp_next hcall he) (ih v hc)
    · simp at hc
  | opg g w o k ih =>
    intro h h1 e1 hc
    simp only [evR] at hc
    split at hc
    · split at hc
      · rename_i v h' he; exact Nat.le_trans (evOp_next hcall he) (ih v hc)
      · simp at hc
    · exact ih _ hc
    · simp at hc
  | snap k ih => intro h h1 e1 hc; exact ih h hc
  | chk g hj o v k ih =>
    intro h h1 e1 hc
    simp only [evR] at hc
    split at hc
    · exact ih hc
    · simp at hc

section
variable {P : Program}

theorem noEsc_next : (Extern.allNextRows.lookup "internal/abi.NoEscape").isNone = true ∧ (Extern.allNextRows.lookup "").isNone = true := by
  refine ⟨?_, ?_⟩ <;> kernel_rfl
theorem noEsc_find : (Extern.allGenericRows.lookup "internal/abi.NoEscape").isNone = true ∧ (Extern.allTypedRows.lookup "internal/abi.NoEscape").isNone = true ∧ Extern.allRows.lookup "internal/abi.NoEscape" = some Extern.AbiNoEscape.same := by
  refine ⟨?_, ?_, ?_⟩ <;> kernel_rfl
theorem noEsc_run {f : FuncId} (h : noEsc P f = true) {x : Value} {w : World} : (callFunc f #[x]).run P w = .ok (.value x) w := by
  unfold noEsc at h
  split at h
  case h_2 => simp at h
  rename_i F hF
  simp only [Bool.and_eq_true, beq_iff_eq] at h
  obtain ⟨⟨hb, hn⟩, ho⟩ := h
  have e1 := noEsc_next
  have e2 := noEsc_find
  rw [Option.isNone_iff_eq_none] at e1 e2
  rw [run_callFunc_extern hF (by rw [hn]; rfl) hb (by unfold Extern.findNext; simp [hn, ho, e1.1, Option.isNone_iff_eq_none.1 e1.2]) (e := Extern.AbiNoEscape.same) (by unfold Extern.find; simp [hn, e2.1, Option.isNone_iff_eq_none.1 e2.2.1, e2.2.2])]
  rfl
/-- The operation runs, or its call does. -/
theorem op_wp {S : Stay} {m : Map} {h : Heap} {w : World} {call : CallFn} (hcall : CallsOK P call) (e : Emb P S m h w) (o : Oper) (a : Act) {ρ : Rho} (hρ : ∀ x, VR m (ρ x) (a.eval x)) {v : Value} {h1 : Heap}
    (hc : evOp call (resOp P o ρ) h = some (v, h1)) (hf : Free m h.next h1.next) (hgl : GlobOK m) {next : Act → World → Prop} {Q : Exit → Act → World → Prop}
    (hn : ∀ v' w1 m1, VR m1 v v' → Out P S m h w m1 h1 w1 → next (a.put o.dst v') w1) : o.wp P a w next Q := by
  have hcst : ∀ v, a.eval (.const v) = v := fun _ => rfl
  have plain : cop (resP P o ρ) h = some (v, h1) → o.wp P a w next Q := by
    intro hc
    obtain ⟨n, v', w1, m1, hrun, hnv, hv, ho⟩ := cop_sim e o hρ hcst hc hf
    unfold Oper.wp
    rw [hrun]
    rcases hnv with rfl | ⟨rfl, rfl⟩
    · exact hn _ _ _ hv ho
    · exact hn _ _ _ hv ho
  have viacall : ∀ (f : FuncId) (args : List Value) (args' : Array Value), call f args h = some (v, h1) → VL m args args'.toList →
      (execOp a.eval o).run P w = (callFunc f args').run P w → o.wp P a w next Q := by
    intro f args args' hcl hargs hrun
    obtain ⟨⟨F, hF, hname, hbody⟩, _, hruns⟩ := hcall f args h v h1 hcl
    have hcf : (callFunc f args').run P w = .ok (.enter f args') w := by
      simp only [callFunc, Sem.run_bind, run_program, Result.andThen_ok, hF, hname, hbody, Bool.false_eq_true, if_false, Sem.run_pure]
    unfold Oper.wp
    rw [hrun, hcf, Oper.upon_enter]
    refine (hruns S m w args' hargs e hf hgl).mono fun en w1 hp => ?_
    obtain ⟨v', m1, rfl, hv, ho⟩ := hp
    exact hn _ _ _ hv ho
  have rest : resOp P o ρ = (resP P o ρ).plain → o.wp P a w next Q := by
    intro hres
    rw [hres] at hc
    refine plain ?_
    generalize resP P o ρ = x at hc
    cases x <;> first | exact hc | (simp [COp.plain, evOp, cop] at hc)
  cases hop : o.op with
  | call c =>
    obtain ⟨callee, args, ts⟩ := c
    cases callee with
    | value f =>
      have hres : ∀ g, f = .func g → noEsc P g = false → resOp P o ρ = .call g (args.toList.map ρ) := by
        intro g hg hne
        unfold resOp
        rw [hop, hg]
        simp only [hne, Bool.false_eq_true, if_false]
      have hres2 : (∀ g, f ≠ .func g) → resOp P o ρ = .callv (ρ f) (args.toList.map ρ) := by
        intro hg; unfold resOp; rw [hop]
        cases f <;> first | rfl | (exact absurd rfl (hg _))
      have hal : VL m (args.toList.map ρ) (args.map a.eval).toList := by simpa using list_rel hρ args.toList
      have hex : ∀ (fn : Fn) (first captured : Array Value), a.eval f = .func fn first captured →
          (execOp a.eval o).run P w = (invoke (.fn fn captured) (first ++ args.map a.eval)).run P w := by
        intro fn first captured hfv
        unfold execOp
        rw [hop]
        simp only [resolve, hfv, Deferred.ofValue, Sem.run_bind, Sem.run_pure, Result.andThen_ok]
      by_cases hg : ∃ g, f = .func g
      · obtain ⟨g, rfl⟩ := hg
        by_cases hne : noEsc P g = true
        · have hres3 : resOp P o ρ = noEscOp (args.toList.map ρ) := by
            unfold resOp
            rw [hop]
            simp only [hne, if_true]
          rw [hres3] at hc
          unfold noEscOp at hc
          split at hc
          · rename_i x0 hx
            obtain ⟨x, hx1, hx2⟩ : ∃ x, args.toList = [x] ∧ ρ x = x0 := by
              rcases hq : args.toList with _ | ⟨x, _ | ⟨y, l⟩⟩
              · rw [hq] at hx; simp at hx
              · rw [hq] at hx; simp at hx; exact ⟨x, rfl, hx⟩
              · rw [hq] at hx; simp at hx
            simp only [evOp, cop, Option.some.injEq, Prod.mk.injEq] at hc
            obtain ⟨rfl, rfl⟩ := hc
            unfold Oper.wp
            rw [hex (.func g) #[] #[] rfl]
            have hargs : #[] ++ args.map a.eval ++ #[] = #[a.eval x] := by
              apply Array.ext'; simp [hx1]
            have hinv : (invoke (.fn (.func g) #[]) (#[] ++ args.map a.eval)).run P w = (callFunc g #[a.eval x]).run P w := by
              simp only [invoke, hargs]
            rw [hinv, noEsc_run hne]
            exact hn _ _ _ (hx2 ▸ hρ x) (Out.refl e)
          · simp [evOp, cop] at hc
        rw [hres g rfl (by simpa using hne)] at hc
        refine viacall g _ (args.map a.eval) hc hal ?_
        rw [hex (.func g) #[] #[] rfl]
        simp [invoke]
      · have hg' : ∀ g, f ≠ .func g := fun g h => hg ⟨g, h⟩
        rw [hres2 hg'] at hc
        unfold evOp at hc
        split at hc
        · rename_i heq; simp at heq
        · rename_i g first captured args2 heq
          simp only [COp.callv.injEq] at heq
          obtain ⟨hfv, rfl⟩ := heq
          have hfr := hρ f
          rw [hfv] at hfr
          obtain ⟨a', c', hfe, ha', hc'⟩ := hfr.func_inv
          refine viacall g _ (a' ++ args.map a.eval ++ c') hc ?_ ?_
          · simp only [Array.toList_append]
            exact VL.append (VL.append ha' hal) hc'
          · rw [hex (.func g) a' c' hfe]; rfl
        · simp [cop] at hc
    | invoke r mth =>
      exact rest (by unfold resOp; rw [hop])
    | builtin b => exact rest (by unfold resOp; rw [hop])
  | _ => exact rest (by unfold resOp; rw [hop])

/-! ### slots -/
def lookT (p : Pers) (e l : Env) (t : Nat) : Value := if p.has t then e t else l t
/-- The program's slots stand to those of the canonical machine. -/
structure Slots (p : Pers) (m : Map) (e l : Env) (a : Act) : Prop where
  rel : ∀ t, VR m (lookT p e l t) (a.tmps.getD t undef)
  size : p.size ≤ a.tmps.size
  defers : a.defers = []
  glob : GlobOK m

theorem Slots.eval {p : Pers} {m : Map} {e l : Env} {a : Act} (s : Slots p m e l a) (x : Operand) : VR m (lookE p e l x) (a.eval x) := by
  cases x with
  | tmp t => exact s.rel t
  | const v =>
    simp only [lookE, Act.eval]
    split
    · rename_i hv; exact VR.selfV hv
    · exact .unk v
  | global g => exact s.glob.rel g
  | func f => exact VR.func_of (VL.nil m) (VL.nil m)
theorem Slots.ext {p : Pers} {m m1 : Map} {e l : Env} {a : Act} (s : Slots p m e l a) (hm : Ext m m1) : Slots p m1 e l a := ⟨fun t => (s.rel t).ext hm, s.size, s.defers, s.glob.ext hm⟩

theorem Slots.put {p : Pers} {m : Map} {e l : Env} {a : Act} (s : Slots p m e l a) {d : Option Tmp} (hd : dstOk p d = true) {v v' : Value} (hv : VR m v v') :
    Slots p m (putE p e l d v).1 (putE p e l d v).2 (a.put d v') := by
  cases d with
  | none => exact s
  | some t =>
    have ht : t < p.size := by simpa [dstOk, Nat.blt_eq] using hd
    refine ⟨fun x => ?_, by simp only [Act.put, Array.size_setIfInBounds]; exact s.size, s.defers, s.glob⟩
    have hget : (a.put (some t) v').tmps.getD x undef = if x = t then v' else a.tmps.getD x undef := by
      simp only [Act.put, Array.getD_eq_getD_getElem?]
      by_cases hx : x = t
      · subst hx
        have hlt : x < a.tmps.size := Nat.lt_of_lt_of_le ht s.size
        rw [if_pos rfl, Array.getElem?_setIfInBounds_self_of_lt hlt]; rfl
      · rw [if_neg hx, Array.getElem?_setIfInBounds_ne (fun h => hx h.symm)]
    rw [hget]
    unfold putE lookT
    by_cases hp : p.has t = true
    · simp only [hp, if_true]
      by_cases hx : x = t
      · subst hx; simp only [hp, if_true, Env.upd]; exact hv
      · rw [if_neg hx]
        have := s.rel x
        unfold lookT at this
        simp only [Env.upd, hx, if_false]; exact this
    · simp only [hp, Bool.false_eq_true, if_false]
      by_cases hx : x = t
      · subst hx; simp only [hp, Bool.false_eq_true, if_false, if_true, Env.upd]; exact hv
      · rw [if_neg hx]
        have := s.rel x
        unfold lookT at this
        simp only [Env.upd, hx, if_false]; exact this

/-! ### is a guarded operation wanted? -/
theorem want_sim' {p : Pers} {m : Map} {e l : Env} {a : Act} {all : Array Oper} {o : Oper} {j : Nat} {w : Bool} (hg : o.guard = some (j, w)) {t : Nat} (ht : (all[j]?).bind (·.dst) = some t) (hr : VR m (lookE p e l (.tmp t)) (a.eval (.tmp t))) {b : Bool}
    (hw : wantV (lookE p e l (.tmp t)) w = some b) : Region.wanted o (yielded all a.tmps) = b := by
  generalize lookE p e l (.tmp t) = g at hw hr
  unfold Region.wanted
  rw [hg]
  simp only [yielded, ht, Option.bind_some]
  unfold wantV at hw
  split at hw
  · rename_i x
    have hx := hr.bool_inv
    simp only [Act.eval, Array.getD_eq_getD_getElem?] at hx
    cases hq : a.tmps[t]? with
    | none => rw [hq] at hx; simp [undef] at hx
    | some u =>
      rw [hq] at hx
      simp only [Option.getD_some] at hx
      subst hx
      obtain rfl := Option.some.inj hw
      cases x <;> cases w <;> rfl
  · rename_i vs
    split at hw
    · rename_i hsz
      obtain rfl := Option.some.inj hw
      rcases hr.tuple_inv with ⟨vs', hx, _⟩ | h
      · simp only [Act.eval, Array.getD_eq_getD_getElem?] at hx
        cases hq : a.tmps[t]? with
        | none => rfl
        | some u => rw [hq] at hx; simp only [Option.getD_some] at hx; subst hx; rfl
      · subst h; simp at hsz
    · simp at hw
  · simp at hw

theorem want_sim {p : Pers} {m : Map} {e l : Env} {a : Act} (s : Slots p m e l a) {all : Array Oper} {o : Oper} {j : Nat} {w : Bool} (hg : o.guard = some (j, w)) {t : Nat} (ht : (all[j]?).bind (·.dst) = some t) {b : Bool}
    (hw : wantV (lookE p e l (.tmp t)) w = some b) : Region.wanted o (yielded all a.tmps) = b := want_sim' hg ht (s.eval (.tmp t)) hw

/-! ### a statement in the text's order -/
theorem reg_sim {S : Stay} {call : CallFn} (hcall : CallsOK P call) (p : Pers) (all : Array Oper) {Q : Exit → Act → World → Prop} {e1 : Env} {h1 : Heap} : ∀ (ops : List Oper) (m : Map) (e l : Env) (h : Heap) (a : Act) (w : World),
    evR call (toReg P p all ops e l) h = some (e1, h1) → Slots p m e l a → Emb P S m h w → Free m h.next h1.next →
    (∀ a1 w1 m1 l1, Slots p m1 e1 l1 a1 → Out P S m h w m1 h1 w1 → Q .normal a1 w1) → wpList P all Q ops a w
  | [], m, e, l, h, a, w, hr, hs, hE, hf, hQ => by
    simp only [toReg, evR, Option.some.injEq, Prod.mk.injEq] at hr
    obtain ⟨rfl, rfl⟩ := hr
    exact hQ a w m l hs (Out.refl hE)
  | o :: ops, m, e, l, h, a, w, hr, hs, hE, hf, hQ => by
    simp only [toReg, opReg] at hr
    split at hr
    case isFalse => simp [evR, evOp, cop] at hr
    rename_i hd
    -- the operation is done
    have done : Region.wanted o (yielded all a.tmps) = true → ∀ v h2, evOp call (resOp P o (lookE p e l)) h = some (v, h2) → evR call (toReg P p all ops (putE p e l o.dst v).1 (putE p e l o.dst v).2) h2 = some (e1, h1) → wpList P all Q (o :: ops) a w := by
      intro hw v h2 hop hrest
      have hn2 := evR_next hcall _ hrest
      unfold wpList
      rw [if_pos hw]
      left
      refine op_wp hcall hE o a hs.eval hop (hf.mono (Nat.le_refl _) hn2) hs.glob fun v' w2 m2 hv ho => ?_
      refine reg_sim hcall p all ops m2 _ _ h2 _ w2 hrest ((hs.ext ho.ext).put hd hv) ho.emb (Free.out ho hf) fun a1 w1 m1 l1 hs1 ho1 => hQ a1 w1 m1 l1 hs1 (ho.trans ho1)
    split at hr
    · rename_i hg
      simp only [evR] at hr
      split at hr
      · rename_i v h2 hop
        exact done (by simp [Region.wanted, hg]) v h2 hop hr
      · simp at hr
    · rename_i j w0 hg
      split at hr
      · rename_i t ht
        simp only [evR] at hr
        split at hr
        · rename_i hw
          split at hr
          · rename_i v h2 hop
            exact done (want_sim hs hg ht hw) v h2 hop hr
          · simp at hr
        · rename_i hw
          have hwf := want_sim hs hg ht hw
          unfold wpList
          rw [if_neg (by rw [hwf]; simp)]
          exact reg_sim hcall p all ops m _ _ h _ w hr (hs.put hd (v' := undef) (.tuple _ _ rfl (fun i x y hx => by simp at hx))) hE hf hQ
        · simp at hr
      · simp [evR, evOp, cop] at hr
end
end Go.Proofs.Ytekojjilbchkgaa.Can
