/- Code, functions, programs: what the canonical machine comes to, the program's own comes to. No condition. -/
import Derived.Test.YtekojjilbchkgaaCanDrawD
import Derived.Test.YtekojjilbchkgaaCanWp
namespace Go.Proofs.Ytekojjilbchkgaa.Can
open Go
set_option linter.unusedSimpArgs false
set_option linter.unusedVariables false

/-! ### loops, round by round -/
def LoopIn (P : Program) (c : Code) (Q : Exit → Act → World → Prop) (a : Act) (w : World) : Prop :=
  ∀ (b : Frame) (k : List Item) (cs : List Frame), ∃ e a' w', Q e a' w' ∧ Arrives P (lone (b.at a (.code c :: .inLoop c :: k)) cs w) b k cs e a' w'
theorem LoopIn.loop {P : Program} {c : Code} {Q : Exit → Act → World → Prop} {a : Act} {w : World} (h : LoopIn P c Q a w) : (Code.loop c).wp P Q a w := by
  intro b k cs
  obtain ⟨e, a', w', hq, harr⟩ := h b k cs
  exact ⟨e, a', w', hq, .of_steps (.one step_loop) harr⟩
theorem LoopIn.round {P : Program} {c : Code} {Q : Exit → Act → World → Prop} {a : Act} {w : World} (h : c.wp P (Exit.then (LoopIn P c Q) Q) a w) : LoopIn P c Q a w := by
  intro b k cs
  obtain ⟨e, a₁, w₁, hq, harr⟩ := h b (.inLoop c :: k) cs
  cases e with
  | normal =>
    obtain ⟨e₂, a₂, w₂, hq₂, harr₂⟩ := hq b k cs
    exact ⟨e₂, a₂, w₂, hq₂, .of_steps (Steps.trans harr (.one step_inLoop)) harr₂⟩
  | exit id => exact ⟨_, a₁, w₁, hq, .pass (x := .inLoop c) rfl (fun _ _ => .inl (by simp)) harr⟩
  | goto l => exact ⟨_, a₁, w₁, hq, .pass (x := .inLoop c) rfl (fun _ _ => .inl (by simp)) harr⟩
  | ret => exact ⟨_, a₁, w₁, hq, .pass (x := .inLoop c) rfl (fun _ _ => .inl (by simp)) harr⟩
  | panic ch => exact ⟨_, a₁, w₁, hq, .pass (x := .inLoop c) rfl (fun _ _ => .inl (by simp)) harr⟩
  | outgrown => exact ⟨_, a₁, w₁, hq, .pass (x := .inLoop c) rfl (fun _ _ => .inl (by simp)) harr⟩

/-! ### numbers only rise -/
theorem iter_next {f : Env → Heap → Option (X × Env × Heap)} (hf : ∀ {e h x e1 h1}, f e h = some (x, e1, h1) → h.next ≤ h1.next) : ∀ (n : Nat) {e h x e1 h1}, iter f n e h = some (x, e1, h1) → h.next ≤ h1.next
  | 0, _, _, _, _, _, hc => by simp [iter] at hc
  | n + 1, e, h, x, e1, h1, hc => by
    simp only [iter] at hc
    split at hc
    · rename_i e' h' he
      exact Nat.le_trans (hf he) (iter_next hf n hc)
    · exact hf hc
theorem evC_next {P : Program} {call : CallFn} (hcall : CallsOK P call) {N : Nat} (c : CC) : ∀ {e h x e1 h1}, evC call N c e h = some (x, e1, h1) → h.next ≤ h1.next := by
  induction c with
  | skip => intro e h x e1 h1 hc; simp only [evC, Option.some.injEq, Prod.mk.injEq] at hc; rw [hc.2.2]; exact Nat.le_refl _
  | exit id => intro e h x e1 h1 hc; simp only [evC, Option.some.injEq, Prod.mk.injEq] at hc; rw [hc.2.2]; exact Nat.le_refl _
  | ret => intro e h x e1 h1 hc; simp only [evC, Option.some.injEq, Prod.mk.injEq] at hc; rw [hc.2.2]; exact Nat.le_refl _
  | bad => intro e h x e1 h1 hc; simp [evC] at hc
  | region r =>
    intro e h x e1 h1 hc
    simp only [evC, Option.map_eq_some_iff] at hc
    obtain ⟨⟨e', h'⟩, hr, heq⟩ := hc
    simp only [Prod.mk.injEq] at heq
    rw [← heq.2.2]
    exact evR_next hcall _ hr
  | seq a b iha ihb =>
    intro e h x e1 h1 hc
    simp only [evC] at hc
    split at hc
    · rename_i e' h' he; exact Nat.le_trans (iha he) (ihb hc)
    · exact iha hc
  | cond c a b iha ihb =>
    intro e h x e1 h1 hc
    simp only [evC] at hc
    split at hc
    · exact iha hc
    · exact ihb hc
    · simp at hc
  | block id b ih =>
    intro e h x e1 h1 hc
    simp only [evC] at hc
    split at hc
    · rename_i i e' h' he
      split at hc
      · simp only [Option.some.injEq, Prod.mk.injEq] at hc; rw [← hc.2.2]; exact ih he
      · simp only [Option.some.injEq, Prod.mk.injEq] at hc; rw [← hc.2.2]; exact ih he
    · exact ih hc
  | loop b ih =>
    intro e h x e1 h1 hc
    simp only [evC] at hc
    exact iter_next (fun h => ih h) N hc

def exitOf : X → Exit
  | .normal => .normal
  | .exit id => .exit id
  | .ret => .ret

theorem Slots.drop {p : Pers} {m : Map} {e l : Env} {a : Act} (s : Slots p m e l a) : Slots p m e (fun _ => unk) a :=
  ⟨fun t => by
    have := s.rel t
    unfold lookT at this ⊢
    split
    · rename_i h; rw [if_pos h] at this; exact this
    · exact .unk _, s.size, s.defers, s.glob⟩

section
variable {P : Program}
theorem code_sim {S : Stay} {call : CallFn} (hcall : CallsOK P call) (N : Nat) (p : Pers) (c : Code) : ∀ {Q : Exit → Act → World → Prop} {x : X} {e1 : Env} {h1 : Heap} {m : Map} {e : Env} {h : Heap} {a : Act} {w : World},
    evC call N (toCC P p c) e h = some (x, e1, h1) → Slots p m e (fun _ => unk) a → Emb P S m h w → Free m h.next h1.next →
    (∀ a1 w1 m1, Slots p m1 e1 (fun _ => unk) a1 → Out P S m h w m1 h1 w1 → Q (exitOf x) a1 w1) → c.wp P Q a w := by
  induction c with
  | skip =>
    intro Q x e1 h1 m e h a w hr hs hE hf hQ
    simp only [toCC, evC, Option.some.injEq, Prod.mk.injEq] at hr
    obtain ⟨rfl, rfl, rfl⟩ := hr
    exact wp_skip (hQ a w m hs (Out.refl hE))
  | exit id =>
    intro Q x e1 h1 m e h a w hr hs hE hf hQ
    simp only [toCC, evC, Option.some.injEq, Prod.mk.injEq] at hr
    obtain ⟨rfl, rfl, rfl⟩ := hr
    exact wp_exit (hQ a w m hs (Out.refl hE))
  | ret =>
    intro Q x e1 h1 m e h a w hr hs hE hf hQ
    simp only [toCC, evC, Option.some.injEq, Prod.mk.injEq] at hr
    obtain ⟨rfl, rfl, rfl⟩ := hr
    exact wp_ret (hQ a w m hs (Out.refl hE))
  | region id ops d =>
    intro Q x e1 h1 m e h a w hr hs hE hf hQ
    cases d with
    | false =>
      simp only [toCC, evC, Option.map_eq_some_iff, Prod.mk.injEq] at hr
      obtain ⟨⟨e', h'⟩, hr, rfl, rfl, rfl⟩ := hr
      exact wp_region_list (reg_sim hcall p ops ops.toList m e _ h a w hr hs hE hf fun a1 w1 m1 l1 hs1 ho => hQ a1 w1 m1 hs1.drop ho)
    | true =>
      simp only [toCC] at hr
      split at hr
      · rename_i hok
        simp only [Bool.and_eq_true] at hok
        simp only [evC, Option.map_eq_some_iff, Prod.mk.injEq] at hr
        obtain ⟨⟨e', h'⟩, hr, rfl, rfl, rfl⟩ := hr
        exact draw_sim hcall p ops (aheadOf ops) hok.1.1 hok.1.2 hok.2 hr hs hE hf fun a1 w1 m1 l1 hs1 ho => hQ a1 w1 m1 hs1.drop ho
      · simp [evC] at hr
  | seq a b iha ihb =>
    intro Q x e1 h1 m e h ac w hr hs hE hf hQ
    simp only [toCC, evC] at hr
    split at hr
    · rename_i e' h' he
      have hn := evC_next hcall _ hr
      refine wp_seq (iha he hs hE (hf.mono (Nat.le_refl _) hn) fun a1 w1 m1 hs1 ho => ?_)
      exact ihb hr hs1 ho.emb (Free.out ho hf) fun a2 w2 m2 hs2 ho2 => hQ a2 w2 m2 hs2 (ho.trans ho2)
    · rename_i hne
      refine wp_seq (iha hr hs hE hf fun a1 w1 m1 hs1 ho => ?_)
      have := hQ a1 w1 m1 hs1 ho
      cases x with
      | normal => exact absurd hr (hne _ _)
      | exit id => exact this
      | ret => exact this
  | cond c a b iha ihb =>
    intro Q x e1 h1 m e h ac w hr hs hE hf hQ
    simp only [toCC, evC] at hr
    have hv := hs.eval c
    split at hr
    · rename_i hc
      rw [hc] at hv
      exact wp_cond_true hv.bool_inv (iha hr hs hE hf hQ)
    · rename_i hc
      rw [hc] at hv
      exact wp_cond_false hv.bool_inv (ihb hr hs hE hf hQ)
    · simp at hr
  | block id b ih =>
    intro Q x e1 h1 m e h a w hr hs hE hf hQ
    simp only [toCC, evC] at hr
    split at hr
    · rename_i i e' h' he
      have hh : h' = h1 ∧ e' = e1 ∧ (i = id ∧ x = .normal ∨ i ≠ id ∧ x = .exit i) := by
        split at hr
        · rename_i hi
          simp only [Option.some.injEq, Prod.mk.injEq] at hr
          exact ⟨hr.2.2, hr.2.1, .inl ⟨hi, hr.1.symm⟩⟩
        · rename_i hi
          simp only [Option.some.injEq, Prod.mk.injEq] at hr
          exact ⟨hr.2.2, hr.2.1, .inr ⟨hi, hr.1.symm⟩⟩
      obtain ⟨rfl, rfl, hx⟩ := hh
      refine wp_block (ih he hs hE hf fun a1 w1 m1 hs1 ho => ?_)
      have := hQ a1 w1 m1 hs1 ho
      show (if i = id then Q .normal a1 w1 else Q (.exit i) a1 w1)
      rcases hx with ⟨hi, rfl⟩ | ⟨hi, rfl⟩
      · rw [if_pos hi]; exact this
      · rw [if_neg hi]; exact this
    · rename_i hne
      refine wp_block (ih hr hs hE hf fun a1 w1 m1 hs1 ho => ?_)
      have := hQ a1 w1 m1 hs1 ho
      cases x with
      | normal => exact this
      | exit i => exact absurd hr (hne _ _ _)
      | ret => exact this
  | loop b ih =>
    intro Q x e1 h1 m e h a w hr hs hE hf hQ
    simp only [toCC, evC] at hr
    refine LoopIn.loop ?_
    have key : ∀ (n : Nat) {m : Map} {e : Env} {h : Heap} {a : Act} {w : World}, iter (evC call N (toCC P p b)) n e h = some (x, e1, h1) → Slots p m e (fun _ => unk) a → Emb P S m h w → Free m h.next h1.next →
        (∀ a1 w1 m1, Slots p m1 e1 (fun _ => unk) a1 → Out P S m h w m1 h1 w1 → Q (exitOf x) a1 w1) → LoopIn P b Q a w := by
      intro n
      induction n with
      | zero => intro m e h a w hr; simp [iter] at hr
      | succ n ihn =>
        intro m e h a w hr hs hE hf hQ
        simp only [iter] at hr
        split at hr
        · rename_i e' h' he
          have hn := iter_next (fun h => evC_next hcall _ h) n hr
          refine LoopIn.round (ih he hs hE (hf.mono (Nat.le_refl _) hn) fun a1 w1 m1 hs1 ho => ?_)
          exact ihn hr hs1 ho.emb (Free.out ho hf) fun a2 w2 m2 hs2 ho2 => hQ a2 w2 m2 hs2 (ho.trans ho2)
        · rename_i hne
          refine LoopIn.round (ih hr hs hE hf fun a1 w1 m1 hs1 ho => ?_)
          have := hQ a1 w1 m1 hs1 ho
          cases x with
          | normal => exact absurd hr (hne _ _)
          | exit id => exact this
          | ret => exact this
    exact key N hr hs hE hf hQ
  | _ =>
    intros
    rename_i hr _ _ _ _
    simp [toCC, evC] at hr

/-! ### results -/
def resM (tmps : Array Value) : ResultVar → Sem Value
  | .tmp t => pure (tmps.getD t undef)
  | .cell a t => do loadVar t (← asAddr (tmps.getD a undef))
theorem results_is (F : Func) (tmps : Array Value) : results F tmps = (do
    let vs ← F.results.mapM (resM tmps)
    pure (if h : vs.size = 1 then vs[0] else .tuple vs)) := rfl
theorem resT_rel {S : Stay} {m : Map} {h : Heap} {w : World} (hE : Emb P S m h w) {r : ResultVar} {c : RV} (hr : resT P r = some c) {p : Pers} (hp : p.has c.slot = true) {e : Env} {a : Act} (s : Slots p m e (fun _ => unk) a) {v : Value} (hv : resV e h c = some v) :
    ∃ v', (resM a.tmps r).run P w = .ok v' w ∧ VR m v v' := by
  have hat : ∀ t, p.has t = true → VR m (e t) (a.tmps.getD t undef) := fun t ht => by
    have := s.rel t
    unfold lookT at this
    rw [if_pos ht] at this; exact this
  cases r with
  | tmp t =>
    simp only [resT, Option.some.injEq] at hr
    subst hr
    simp only [resV, Option.some.injEq] at hv
    subst hv
    exact ⟨_, rfl, hat t hp⟩
  | cell x t =>
    simp only [resT] at hr
    split at hr
    case isFalse => simp at hr
    rename_i ht
    obtain rfl := Option.some.inj hr
    simp only [resV, Option.map_eq_some_iff] at hv
    obtain ⟨⟨u, h2⟩, hc, rfl⟩ := hv
    obtain ⟨d, i, hu, hi⟩ := hasT_info ht
    have hx := hat x hp
    simp only [cop] at hc
    split at hc
    case h_2 => simp at hc
    rename_i b o hex
    rw [hex] at hx
    obtain ⟨b', o', L, heq, hb, hx'⟩ := hx.ptr_inv
    obtain ⟨rfl, rfl, -⟩ := Addr.mk.inj heq
    unfold aggT at hc
    by_cases hagg : isAggT P t = true
    · rw [if_pos hagg] at hc
      simp only [Option.map_eq_some_iff, Prod.mk.injEq] at hc
      obtain ⟨cs, hcs, rfl, rfl⟩ := hc
      obtain ⟨hl, cs', hv, hcell⟩ := read_sim hE hb hcs
      have hl' : cs'.length = P.cellsOf t := by rw [← hv.1]; exact hl
      refine ⟨_, ?_, VR.agg_of (a := cs.toArray) (a' := cs'.toArray) (by simpa using hv)⟩
      have := run_loadCells_sim (P := P) hcell
      rw [hl'] at this
      simp only [resM, hx', asAddr, loadVar, Sem.run_bind, Sem.run_pure, Result.andThen_ok, run_isAgg' w hu, hagg, if_true, run_sizeOf' w hi, this]
    · simp only [hagg, Bool.false_eq_true, if_false, Option.map_eq_some_iff, Prod.mk.injEq] at hc
      obtain ⟨cv, hcv, rfl, rfl⟩ := hc
      obtain ⟨v', hcell, hv⟩ := get_sim hE hb hcv
      refine ⟨_, ?_, hv⟩
      simp only [resM, hx', asAddr, loadVar, Sem.run_bind, Sem.run_pure, Result.andThen_ok, run_isAgg' w hu, hagg, Bool.false_eq_true, if_false, run_load, hcell]
theorem results_sim {S : Stay} {m : Map} {h : Heap} {w : World} (hE : Emb P S m h w) {F : Func} {rs : List RV} (hF : F.results.toList.mapM (resT P) = some rs) (h3 : rs.length ≤ 3) {p : Pers} (hp : (rs.all fun r => p.has r.slot) = true) {e : Env} {a : Act} (s : Slots p m e (fun _ => unk) a) {v : Value} (hv : resultsV e h rs = some v) :
    ∃ v', (results F a.tmps).run P w = .ok v' w ∧ VR m v v' := by
  obtain ⟨l, hl⟩ : ∃ l, F.results = l.toArray ∧ F.results.toList = l := ⟨F.results.toList, by simp, rfl⟩
  rw [hl.2] at hF
  have hcons : ∀ {r : ResultVar} {l : List ResultVar} {rs : List RV}, (r :: l).mapM (resT P) = some rs → ∃ c cs, rs = c :: cs ∧ resT P r = some c ∧ l.mapM (resT P) = some cs := fun h => by
    simp only [List.mapM_cons, Option.bind_eq_bind, Option.bind_eq_some_iff, Option.pure_def, Option.some.injEq] at h
    obtain ⟨c, hc, cs, hcs, rfl⟩ := h
    exact ⟨c, cs, rfl, hc, hcs⟩
  have hnil : ∀ {rs : List RV}, ([] : List ResultVar).mapM (resT P) = some rs → rs = [] := fun h => by
    simp only [List.mapM_nil, Option.pure_def, Option.some.injEq] at h
    exact h.symm
  rw [results_is, hl.1]
  match l, hF with
  | [], hF =>
    obtain rfl := hnil hF
    simp only [resultsV, resL, List.map_nil, Option.map_some, Option.some.injEq] at hv
    subst hv
    exact ⟨.tuple #[], by simp, .tuple _ _ rfl (fun i x y hx => by simp at hx)⟩
  | [r], hF =>
    obtain ⟨c, cs, rfl, h1, hF⟩ := hcons hF
    obtain rfl := hnil hF
    simp only [List.all_cons, List.all_nil, Bool.and_true] at hp
    obtain ⟨v1, k1, q1⟩ := resT_rel hE h1 hp s hv
    exact ⟨v1, by simp [Sem.run_bind, k1], q1⟩
  | [r, r2], hF =>
    obtain ⟨c, cs, rfl, h1, hF⟩ := hcons hF
    obtain ⟨c2, cs, rfl, h2, hF⟩ := hcons hF
    obtain rfl := hnil hF
    simp only [List.all_cons, List.all_nil, Bool.and_true, Bool.and_eq_true] at hp
    simp only [resultsV, List.map_cons, List.map_nil] at hv
    cases e1 : resV e h c with
    | none => rw [e1] at hv; simp [resL] at hv
    | some u1 =>
      cases e2 : resV e h c2 with
      | none => rw [e1, e2] at hv; simp [resL] at hv
      | some u2 =>
        rw [e1, e2] at hv
        simp only [resL, Option.map_some, Option.some.injEq] at hv
        subst hv
        obtain ⟨v1, k1, q1⟩ := resT_rel hE h1 hp.1 s e1
        obtain ⟨v2, k2, q2⟩ := resT_rel hE h2 hp.2 s e2
        refine ⟨.tuple #[v1, v2], by simp [Sem.run_bind, k1, k2], .tuple _ _ rfl ?_⟩
        have hvl := VL.cons q1 (VL.cons q2 (VL.nil m))
        exact fun i x y hx hy => hvl.2 i x y (by simpa using hx) (by simpa using hy)
  | [r, r2, r3], hF =>
    obtain ⟨c, cs, rfl, h1, hF⟩ := hcons hF
    obtain ⟨c2, cs, rfl, h2, hF⟩ := hcons hF
    obtain ⟨c3, cs, rfl, h3', hF⟩ := hcons hF
    obtain rfl := hnil hF
    simp only [List.all_cons, List.all_nil, Bool.and_true, Bool.and_eq_true] at hp
    simp only [resultsV, List.map_cons, List.map_nil] at hv
    cases e1 : resV e h c with
    | none => rw [e1] at hv; simp [resL] at hv
    | some u1 =>
      cases e2 : resV e h c2 with
      | none => rw [e1, e2] at hv; simp [resL] at hv
      | some u2 =>
        cases e3 : resV e h c3 with
        | none => rw [e1, e2, e3] at hv; simp [resL] at hv
        | some u3 =>
          rw [e1, e2, e3] at hv
          simp only [resL, Option.map_some, Option.some.injEq] at hv
          subst hv
          obtain ⟨v1, k1, q1⟩ := resT_rel hE h1 hp.1 s e1
          obtain ⟨v2, k2, q2⟩ := resT_rel hE h2 hp.2.1 s e2
          obtain ⟨v3, k3, q3⟩ := resT_rel hE h3' hp.2.2 s e3
          refine ⟨.tuple #[v1, v2, v3], by simp [Sem.run_bind, k1, k2, k3], .tuple _ _ rfl ?_⟩
          have hvl := VL.cons q1 (VL.cons q2 (VL.cons q3 (VL.nil m)))
          exact fun i x y hx hy => hvl.2 i x y (by simpa using hx) (by simpa using hy)
  | r :: r2 :: r3 :: r4 :: l, hF =>
    obtain ⟨c, cs, rfl, h1, hF⟩ := hcons hF
    obtain ⟨c2, cs, rfl, h2, hF⟩ := hcons hF
    obtain ⟨c3, cs, rfl, h3', hF⟩ := hcons hF
    obtain ⟨c4, cs, rfl, h4, hF⟩ := hcons hF
    simp only [List.length_cons] at h3
    omega

/-- The canonical program is the program's own. -/
def Progs (P : Program) (CP : CProg) : Prop := ∀ f fn, CP f = some fn → ∃ p F, P.funcs[f]? = some F ∧ toFn P p F = some fn

theorem evF_sound {CP : CProg} (hP : Progs P CP) : ∀ n, CallsOK P (evF CP n) := by
  intro n
  induction n with
  | zero => intro f args h v h1 hc; simp [evF] at hc
  | succ n ih =>
    intro f args h v h1 hc
    simp only [evF] at hc
    cases hcp : CP f with
    | none => rw [hcp] at hc; simp at hc
    | some fn =>
      rw [hcp] at hc
      simp only at hc
      obtain ⟨p, F, hF, hfn⟩ := hP f fn hcp
      unfold toFn at hfn
      split at hfn
      case h_2 => simp at hfn
      rename_i c rs hb hrs
      split at hfn
      case isFalse => simp at hfn
      rename_i hok
      simp only [Bool.and_eq_true, Bool.not_eq_true', Nat.ble_eq] at hok
      obtain ⟨⟨⟨hsz, hhas⟩, h3⟩, hname⟩ := hok
      obtain rfl := Option.some.inj hfn
      simp only at hc
      have hx : ∃ x e1, evC (evF CP n) n (toCC P p c) (initE args) h = some (x, e1, h1) ∧ resultsV e1 h1 rs = some v ∧ (x = .normal ∨ x = .ret) := by
        split at hc
        · rename_i e1 h' he
          simp only [Option.map_eq_some_iff, Prod.mk.injEq] at hc
          obtain ⟨u, hu, rfl, rfl⟩ := hc
          exact ⟨_, e1, he, hu, .inl rfl⟩
        · rename_i e1 h' he
          simp only [Option.map_eq_some_iff, Prod.mk.injEq] at hc
          obtain ⟨u, hu, rfl, rfl⟩ := hc
          exact ⟨_, e1, he, hu, .inr rfl⟩
        · simp at hc
      obtain ⟨x, e1, he, hres, hx⟩ := hx
      refine ⟨⟨F, hF, hname, by rw [hb]; rfl⟩, evC_next ih _ he, fun S m w args' hargs hE hf hgl => ?_⟩
      refine calls_of_wp hF hb (code_sim ih n p c he ⟨fun t => ?_, ?_, rfl, hgl⟩ hE hf fun a1 w1 m1 hs1 ho => ?_)
      · unfold lookT
        split
        · simp only [initE, List.getD_eq_getElem?_getD, Array.getD_eq_getD_getElem?]
          by_cases ht : t < args'.size
          · have ht2 : t < args.length := by have := hargs.1; simp only [Array.length_toList] at this; omega
            rw [Array.getElem?_append_left ht, Array.getElem?_eq_getElem ht, List.getElem?_eq_getElem ht2]
            simp only [Option.getD_some]
            exact hargs.2 t _ _ (List.getElem?_eq_getElem ht2) (by simp [ht])
          · have ht2 : args.length ≤ t := by have := hargs.1; simp only [Array.length_toList] at this; omega
            have hu : ((args' ++ Array.replicate (F.ntmps - args'.size) undef)[t]?).getD undef = undef := by
              rw [Array.getElem?_append_right (Nat.le_of_not_lt ht), Array.getElem?_replicate]
              split <;> rfl
            rw [hu, List.getElem?_eq_none ht2]
            exact .tuple _ _ rfl (fun i x y hx => by simp at hx)
        · exact .unk _
      · simp only [Array.size_append, Array.size_replicate]; omega
      · obtain ⟨v', hrun, hv⟩ := results_sim ho.emb hrs h3 hhas hs1 hres
        have hd := hs1.defers
        rcases hx with rfl | rfl
        · exact ⟨hd, v', hrun, v', m1, rfl, hv, ho⟩
        · exact ⟨hd, v', hrun, v', m1, rfl, hv, ho⟩

/-- What the canonical machine answers, the program answers. -/
theorem call_sound {CP : CProg} (hP : Progs P CP) {f : FuncId} {args : List Value} {h : Heap} {R : Value → Heap → Prop} (hc : CALL CP f args h R) {S : Stay} {m : Map} {w : World} {args' : Array Value} (ha : VL m args args'.toList) (hE : Emb P S m h w) (hf : ∀ b, h.next ≤ b → m b = none) (hgl : GlobOK m := by intro g hg; exact absurd hg (by simp [GLN])) :
    Calls P f args' w fun e w1 => ∃ v v' h1 m1, e = .returned v' ∧ R v h1 ∧ VR m1 v v' ∧ Out P S m h w m1 h1 w1 := by
  obtain ⟨n, v, h1, he, hR⟩ := hc
  refine ((evF_sound hP n f args h v h1 he).runs S m w args' ha hE (fun b hb _ => hf b hb) hgl).mono fun e w1 hp => ?_
  obtain ⟨v', m1, rfl, hv, ho⟩ := hp
  exact ⟨v, v', h1, m1, rfl, hR, hv, ho⟩
end
end Go.Proofs.Ytekojjilbchkgaa.Can
