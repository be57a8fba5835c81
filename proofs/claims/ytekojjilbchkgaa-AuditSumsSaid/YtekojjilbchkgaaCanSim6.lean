/- One operation: what the canonical machine does the program's does (structs compared, maps, ranges). No condition. -/
import Derived.Test.YtekojjilbchkgaaCanSim2
import Derived.Test.YtekojjilbchkgaaCanSim4
namespace Go.Proofs.Ytekojjilbchkgaa.Can
open Go
set_option linter.unusedSimpArgs false
set_option linter.unusedVariables false

section
variable {P : Program} {S : Stay} {m : Map} {h : Heap} {w : World}

/-! ### plain values compared -/
theorem skT_plain {t : TypeId} {k : SK} (hk : skT P t = some k) : hasT P t = true ∧ isAggT P t = false := by
  unfold skT at hk
  cases hu : P.underlying t with
  | none => rw [hu] at hk; simp at hk
  | some d => rw [hu] at hk; cases d <;> first | (simp at hk; done) | exact ⟨by simp [hasT, hu], by simp [isAggT, hu]⟩

theorem eqS_sim {t : TypeId} {k : SK} (hk : skT P t = some k) {a b a' b' : Value} (ha : VR m a a') (hb : VR m b b') {r : Bool} (hr : eqS k a b = some r) (d : Nat) :
    (Op.equalIn (d + 1) t a' b').run P w = .ok r w ∧ a' = a ∧ b' = b := by
  unfold skT at hk
  unfold eqS at hr
  split at hr
  · rename_i k1 x k2 y
    obtain rfl := ha.int_inv
    obtain rfl := hb.int_inv
    split at hr
    · rename_i hkk
      subst hkk
      obtain rfl := Option.some.inj hr
      cases hu : P.underlying t with
      | none => rw [hu] at hk; simp at hk
      | some e => rw [hu] at hk; cases e <;> first | (simp at hk; done) | exact ⟨by simp [Op.equalIn, run_underlying' w hu], rfl, rfl⟩
    · simp at hr
  · rename_i x y
    obtain rfl := ha.string_inv
    obtain rfl := hb.string_inv
    obtain rfl := Option.some.inj hr
    cases hu : P.underlying t with
    | none => rw [hu] at hk; simp at hk
    | some e => rw [hu] at hk; cases e <;> first | (simp at hk; done) | exact ⟨run_equalIn_string w d t x y hu, rfl, rfl⟩
  · rename_i x y
    obtain rfl := ha.bool_inv
    obtain rfl := hb.bool_inv
    obtain rfl := Option.some.inj hr
    cases hu : P.underlying t with
    | none => rw [hu] at hk; simp at hk
    | some e => rw [hu] at hk; cases e <;> first | (simp at hk; done) | exact ⟨by simp [Op.equalIn, run_underlying' w hu], rfl, rfl⟩
  · simp at hr

theorem eqFields_sim (d : Nat) (xs' ys' : Array Value) : ∀ (fs : List Field) (ks : List SK) (x y : List Value) (o : Nat), skList P fs = some ks → (∀ f ∈ fs, f.name ≠ "_") → fs.map (·.offset) = List.range' o fs.length →
    VL m x (xs'.toList.drop o) → VL m y (ys'.toList.drop o) → ∀ {r : Bool}, eqL ks x y = some r → (Op.eqFields (d + 1) xs' ys' fs).run P w = .ok r w
  | [], ks, x, y, o, hks, _, _, _, _, r, hr => by
    obtain rfl := Option.some.inj hks
    cases x <;> cases y <;> simp [eqL] at hr
    subst hr; rfl
  | f :: fs, ks, x, y, o, hks, hn, hof, hx, hy, r, hr => by
    simp only [skList, Option.bind_eq_some_iff, Option.map_eq_some_iff] at hks
    obtain ⟨k, hk, l, hl, rfl⟩ := hks
    cases x with
    | nil => simp [eqL] at hr
    | cons a x =>
      cases y with
      | nil => simp [eqL] at hr
      | cons b y =>
        simp only [eqL, Option.bind_eq_some_iff, Option.map_eq_some_iff] at hr
        obtain ⟨r1, hr1, r2, hr2, rfl⟩ := hr
        simp only [List.map_cons, List.length_cons, List.range'_succ, List.cons.injEq] at hof
        obtain ⟨a', ta, ea, ha, hta⟩ := hx.of_cons
        obtain ⟨b', tb, eb, hb, htb⟩ := hy.of_cons
        obtain ⟨q1, q2⟩ := skT_plain hk
        have ga : xs'[f.offset]? = some a' := by
          rw [hof.1]
          have : (xs'.toList.drop o)[0]? = some a' := by rw [ea]; rfl
          simpa using this
        have gb : ys'[f.offset]? = some b' := by
          rw [hof.1]
          have : (ys'.toList.drop o)[0]? = some b' := by rw [eb]; rfl
          simpa using this
        have da : xs'.toList.drop (o + 1) = ta := by rw [← List.drop_drop, ea]; rfl
        have db : ys'.toList.drop (o + 1) = tb := by rw [← List.drop_drop, eb]; rfl
        obtain ⟨heq, _, _⟩ := eqS_sim (w := w) hk ha hb hr1 d
        simp only [Op.eqFields, Sem.run_bind, run_part_one q1 q2 ga, Result.andThen_ok, run_part_one q1 q2 gb, heq]
        rw [if_pos (hn f (by simp))]
        simp only [Sem.run_bind, run_part_one q1 q2 ga, Result.andThen_ok, run_part_one q1 q2 gb, heq]
        cases r1 with
        | false => simp
        | true =>
          simp only [Bool.not_true, Bool.false_eq_true, if_false, Bool.true_and]
          exact eqFields_sim d xs' ys' fs l x y (o + 1) hl (fun g hg => hn g (by simp [hg])) hof.2 (by rw [da]; exact hta) (by rw [db]; exact htb) hr2

theorem structK_some {t : TypeId} {ks : List SK} (hk : structK P t = some ks) : ∃ fs, P.underlying t = some (.struct fs) ∧ (∀ f ∈ fs.toList, f.name ≠ "_") ∧ fs.toList.map (·.offset) = List.range fs.size ∧ P.stoodInHeld t = false ∧ P.eqGuardType P.depth t = false ∧ skList P fs.toList = some ks := by
  unfold structK at hk
  split at hk
  · rename_i fs hu
    split at hk
    · rename_i hc
      simp only [Bool.and_eq_true, Bool.not_eq_true', beq_iff_eq, List.all_eq_true, bne_iff_ne] at hc
      exact ⟨fs, hu, hc.1.1.1, hc.1.1.2, hc.1.2, hc.2, hk⟩
    · simp at hk
  · simp at hk

theorem eqAgg_run {t : TypeId} {ks : List SK} (hk : structK P t = some ks) {xs ys xs' ys' : Array Value} (hx : VL m xs.toList xs'.toList) (hy : VL m ys.toList ys'.toList) {r : Bool} (hr : eqL ks xs.toList ys.toList = some r) (d : Nat) :
    (Op.equalIn (d + 2) t (.agg xs') (.agg ys')).run P w = .ok r w := by
  obtain ⟨fs, hu, hn, hof, hst, hg, hl⟩ := structK_some hk
  have hfo : P.fieldsOf t = fs := by simp [Program.fieldsOf, hu]
  rw [run_equalIn_struct w (d + 1) t xs' ys' (by rw [hfo]; exact hu) hst, hfo]
  exact eqFields_sim d xs' ys' fs.toList ks xs.toList ys.toList 0 hl hn (by rw [hof, List.range_eq_range']; simp) (by simpa using hx) (by simpa using hy) hr

theorem sim_eqAgg (e : Emb P S m h w) (op : BinOp) (t : TypeId) (ox oy : Operand) {ks : List SK} (hk : structK P t = some ks) (neg : Bool) (hop : op = if neg then .neq else .eql)
    {x x' y y' : Value} (hx : VR m x x') (hy : VR m y y') {v : Value} {h1 : Heap}
    (hc : cop (.eqAgg neg ks x y) h = some (v, h1)) : Did P S m h w (valOf (do eqGuard op t ox oy x' y'; binOp op t x' y')) v h1 := by
  obtain ⟨fs, hu, hn, hof, hst, hg, hl⟩ := structK_some hk
  simp only [cop] at hc
  split at hc
  · rename_i xs ys
    simp only [Option.map_eq_some_iff, Prod.mk.injEq] at hc
    obtain ⟨r, hr, rfl, rfl⟩ := hc
    obtain ⟨xs', rfl, hxv⟩ := hx.agg_inv
    obtain ⟨ys', rfl, hyv⟩ := hy.agg_inv
    refine Did.same (s := do eqGuard op t ox oy (.agg xs') (.agg ys'); binOp op t (.agg xs') (.agg ys')) e ?_ (.bool _)
    exact run_cmp op t ox oy (.agg xs') (.agg ys') neg hop r (run_eqGuard_agg w op t ox oy xs' ys' hg) (eqAgg_run hk hxv hyv hr 9998) (by simp) (by simp) (by simp) (by simp)
  · simp at hc

/-! ### keys -/
theorem keyK_cases {q : TypeId} {kk : KK} (hk : keyK P q = some kk) : (∃ k, kk = .one k ∧ skT P q = some k) ∨ (∃ ks, kk = .agg ks ∧ structK P q = some ks ∧ skT P q = none) := by
  unfold keyK at hk
  split at hk
  · rename_i k hs; left; exact ⟨k, (Option.some.inj hk).symm, hs⟩
  · rename_i hs
    right
    simp only [Option.map_eq_some_iff] at hk
    obtain ⟨ks, h1, h2⟩ := hk
    exact ⟨ks, h2.symm, h1, hs⟩

theorem run_checkKey_plain {q : TypeId} {s : SK} (hs : skT P q = some s) (emp : Bool) (n : Nat) (k : Value) : (Instr.checkKey emp (n + 1) q k).run P w = .ok () w := by
  have hne : ∃ d, P.underlying q = some d ∧ (d = .bool ∨ (∃ i, d = .int i) ∨ d = .string) := by
    unfold skT at hs
    cases hu : P.underlying q with
    | none => rw [hu] at hs; simp at hs
    | some d => rw [hu] at hs; cases d <;> first | (simp at hs; done) | exact ⟨_, rfl, by simp⟩
  obtain ⟨d, hu, hd⟩ := hne
  rcases hd with rfl | ⟨i, rfl⟩ | rfl <;> simp [Instr.checkKey, run_underlying' w hu]

theorem run_checkKey_struct {q : TypeId} {ks : List SK} (hk : structK P q = some ks) {xs xs' : Array Value} (hxv : VL m xs.toList xs'.toList) {r : Bool} (hr : eqL ks xs.toList xs.toList = some r) (emp : Bool) (n : Nat) :
    (Instr.checkKey emp (n + 2) q (.agg xs')).run P w = .ok () w := by
  obtain ⟨fs, hu, hn, hof, hst, hg, hl⟩ := structK_some hk
  unfold Instr.checkKey
  simp only [Sem.run_bind, run_underlying' w hu, Result.andThen_ok]
  rw [← Array.forIn_toList]
  have main : ∀ (fl : List Field) (ks : List SK) (x : List Value) (o : Nat), skList P fl = some ks → (∀ f ∈ fl, f.name ≠ "_") → fl.map (·.offset) = List.range' o fl.length → VL m x (xs'.toList.drop o) → (∃ r, eqL ks x x = some r) →
      ∀ (g : Field → PUnit → Sem (ForInStep PUnit)), (∀ f u w', f.name ≠ "_" → (g f u).run P w' = ((part f.type xs' f.offset).run P w').andThen fun a w'' => ((Instr.checkKey emp (n + 1) f.type a).run P w'').andThen fun _ w3 => .ok (ForInStep.yield PUnit.unit) w3) →
      (forIn fl PUnit.unit g : Sem PUnit).run P w = .ok PUnit.unit w := by
    intro fl
    induction fl with
    | nil => intro ks x o _ _ _ _ _ g _; rfl
    | cons f fl ih =>
      intro ks x o hks hn hof hx hr g hgf
      simp only [skList, Option.bind_eq_some_iff, Option.map_eq_some_iff] at hks
      obtain ⟨k, hk, l, hl, rfl⟩ := hks
      cases x with
      | nil => obtain ⟨r, hr⟩ := hr; simp [eqL] at hr
      | cons a x =>
        obtain ⟨r, hr⟩ := hr
        simp only [eqL, Option.bind_eq_some_iff, Option.map_eq_some_iff] at hr
        obtain ⟨r1, hr1, r2, hr2, _⟩ := hr
        simp only [List.map_cons, List.length_cons, List.range'_succ, List.cons.injEq] at hof
        obtain ⟨a', ta, ea, ha, hta⟩ := hx.of_cons
        obtain ⟨q1, q2⟩ := skT_plain hk
        have ga : xs'[f.offset]? = some a' := by
          rw [hof.1]
          have : (xs'.toList.drop o)[0]? = some a' := by rw [ea]; rfl
          simpa using this
        have da : xs'.toList.drop (o + 1) = ta := by rw [← List.drop_drop, ea]; rfl
        simp only [List.forIn_cons, Sem.run_bind]
        rw [hgf f _ w (hn f (by simp)), run_part_one q1 q2 ga]
        simp only [Result.andThen_ok, run_checkKey_plain hk]
        exact ih l x (o + 1) hl (fun g hg => hn g (by simp [hg])) hof.2 (by rw [da]; exact hta) ⟨r2, hr2⟩ g hgf
  refine congrArg (fun r => Result.andThen r fun (_ : PUnit) w' => Sem.run P (pure ()) w') (main fs.toList ks xs.toList 0 hl hn (by rw [hof, List.range_eq_range']; simp) (by simpa using hxv) ⟨r, hr⟩ _ ?_)
  intro f u w' hf
  rw [if_pos hf]; simp only [Sem.run_bind, Sem.run_pure]

theorem run_checkKey {q : TypeId} {kk : KK} (hk : keyK P q = some kk) {k k' : Value} (hkv : VR m k k') {b : Bool} (hb : keyEq kk k k = some b) (emp : Bool) : (Instr.checkKey emp 10000 q k').run P w = .ok () w := by
  rcases keyK_cases hk with ⟨s, rfl, hs⟩ | ⟨ks, rfl, hs, _⟩
  · exact run_checkKey_plain hs emp 9999 k'
  · cases k with
    | agg xs =>
      obtain ⟨xs', rfl, hxv⟩ := hkv.agg_inv
      exact run_checkKey_struct hs hxv hb emp 9998
    | _ => simp [keyEq] at hb

theorem run_keyEq {q : TypeId} {kk : KK} (hk : keyK P q = some kk) {a b a' b' : Value} (ha : VR m a a') (hb : VR m b b') {r : Bool} (hr : keyEq kk a b = some r) : (Op.equal q a' b').run P w = .ok r w := by
  rcases keyK_cases hk with ⟨s, rfl, hs⟩ | ⟨ks, rfl, hs, _⟩
  · exact (eqS_sim (w := w) hs ha hb hr 9999).1
  · cases a with
    | agg xs => cases b with
      | agg ys =>
        obtain ⟨xs', rfl, hxv⟩ := ha.agg_inv
        obtain ⟨ys', rfl, hyv⟩ := hb.agg_inv
        exact eqAgg_run hs hxv hyv hr 9998
      | _ => simp [keyEq] at hr
    | _ => simp [keyEq] at hr

theorem run_findAsking {q : TypeId} {kk : KK} (hk : keyK P q = some kk) {k k' : Value} (hkv : VR m k k') : ∀ (es es' : List MapEntry) (i : Nat) {r : Option Nat}, EntL m es es' → findEntry kk k es i = some r →
    (Instr.findAsking q k' es' i).run P w = .ok (r.map fun j => (j, ((es'[j - i]?).map (·.val)).getD default)) w ∧ (∀ j, r = some j → i ≤ j ∧ j - i < es'.length)
  | [], es', i, r, he, hr => by
    obtain rfl := Option.some.inj hr
    have : es' = [] := by have := he.1; simp at this; exact List.length_eq_zero_iff.1 this.symm
    subst this
    exact ⟨rfl, fun j hj => by simp at hj⟩
  | x :: es, es', i, r, he, hr => by
    cases es' with
    | nil => have := he.1; simp at this
    | cons y es' =>
      simp only [findEntry, Option.bind_eq_some_iff] at hr
      obtain ⟨b, hb, hr⟩ := hr
      have hxy := he.2 0 x y rfl rfl
      have hrun := run_keyEq (w := w) hk hkv hxy.2.1 hb
      cases b with
      | true =>
        simp only [if_true, Option.some.injEq] at hr
        subst hr
        refine ⟨?_, fun j hj => by obtain rfl := Option.some.inj hj; simp⟩
        simp [Instr.findAsking, hrun]
      | false =>
        simp only [Bool.false_eq_true, if_false] at hr
        obtain ⟨h1, h2⟩ := run_findAsking hk hkv es es' (i + 1) ⟨by have := he.1; simpa using this, fun j u v hu hv => he.2 (j + 1) u v (by simpa using hu) (by simpa using hv)⟩ hr
        refine ⟨?_, fun j hj => by have := h2 j hj; simp; omega⟩
        simp only [Instr.findAsking, Sem.run_bind, hrun, Result.andThen_ok, Bool.false_eq_true, if_false, h1]
        cases r with
        | none => rfl
        | some j =>
          have := h2 j rfl
          simp only [Option.map_some]
          rw [show j - i = (j - (i + 1)) + 1 from by omega]
          rfl

theorem findNow_sim {q : TypeId} {s : SK} {d : TypeDesc} (hu : P.underlying q = some d) (hs : skT P q = some s) {k k' : Value} (hkv : VR m k k') : ∀ (es es' : List MapEntry) (i : Nat) {r : Option Nat}, EntL m es es' → findEntry (.one s) k es i = some r →
    Instr.findNow d k' es' i = some (r.map fun j => (j, ((es'[j - i]?).map (·.val)).getD default)) ∧ (∀ j, r = some j → i ≤ j ∧ j - i < es'.length)
  | [], es', i, r, he, hr => by
    obtain rfl := Option.some.inj hr
    have : es' = [] := by have := he.1; simp at this; exact List.length_eq_zero_iff.1 this.symm
    subst this
    exact ⟨rfl, fun j hj => by simp at hj⟩
  | x :: es, es', i, r, he, hr => by
    cases es' with
    | nil => have := he.1; simp at this
    | cons y es' =>
      simp only [findEntry, Option.bind_eq_some_iff, keyEq] at hr
      obtain ⟨b, hb, hr⟩ := hr
      have hxy := he.2 0 x y rfl rfl
      have hsame : Instr.sameNow d k' y.key = some b := by
        have hkey := hxy.2.1
        unfold skT at hs
        rw [hu] at hs
        unfold eqS at hb
        split at hb
        · rename_i k1 a1 k2 b1 hk1 hk2
          obtain rfl := hkv.int_inv
          rw [hk2] at hkey
          have hk2' := hkey.int_inv
          rw [hk2']
          split at hb
          · rename_i hkk
            cases d <;> first | (simp at hs; done) | (simp only [Instr.sameNow, hkk, if_true]; exact hb)
          · simp at hb
        · rename_i a1 b1 hk2
          obtain rfl := hkv.string_inv
          rw [hk2] at hkey
          have hk2' := hkey.string_inv
          rw [hk2']
          cases d <;> first | (simp at hs; done) | (simp only [Instr.sameNow]; rw [beq_toListBytes]; exact hb)
        · rename_i a1 b1 hk2
          obtain rfl := hkv.bool_inv
          rw [hk2] at hkey
          have hk2' := hkey.bool_inv
          rw [hk2']
          cases d <;> first | (simp at hs; done) | (simp only [Instr.sameNow]; exact hb)
        · simp at hb
      cases b with
      | true =>
        simp only [if_true, Option.some.injEq] at hr
        subst hr
        refine ⟨?_, fun j hj => by obtain rfl := Option.some.inj hj; simp⟩
        simp [Instr.findNow, hsame]
      | false =>
        simp only [Bool.false_eq_true, if_false] at hr
        obtain ⟨h1, h2⟩ := findNow_sim hu hs hkv es es' (i + 1) ⟨by have := he.1; simpa using this, fun j u v hu hv => he.2 (j + 1) u v (by simpa using hu) (by simpa using hv)⟩ hr
        refine ⟨?_, fun j hj => by have := h2 j hj; simp; omega⟩
        simp only [Instr.findNow, hsame, h1]
        cases r with
        | none => rfl
        | some j =>
          have := h2 j rfl
          simp only [Option.map_some]
          rw [show j - i = (j - (i + 1)) + 1 from by omega]
          rfl

theorem find_sim {q : TypeId} {kk : KK} (hk : keyK P q = some kk) {k k' : Value} (hkv : VR m k k') {es : List MapEntry} {es' : Array MapEntry} {r : Option Nat} (he : EntL m es es'.toList) (hr : findEntry kk k es 0 = some r) :
    (Instr.findKey q k' es'.toList).run P w = .ok (r.map fun j => (j, ((es'[j]?).map (·.val)).getD default)) w ∧ (∀ j, r = some j → j < es.length) := by
  have hlen := he.1
  rcases keyK_cases hk with ⟨s, rfl, hs⟩ | ⟨ks, rfl, hs, hno⟩
  · have : ∃ d, P.underlying q = some d := by
      unfold skT at hs
      cases hu : P.underlying q with
      | none => rw [hu] at hs; simp at hs
      | some d => exact ⟨d, rfl⟩
    obtain ⟨d, hu⟩ := this
    obtain ⟨h1, h2⟩ := findNow_sim hu hs hkv es es'.toList 0 he hr
    refine ⟨?_, fun j hj => by have := h2 j hj; omega⟩
    simp only [Instr.findKey, Sem.run_bind, run_underlying' w hu, Result.andThen_ok, h1, Sem.run_pure]
    simp
  · obtain ⟨fs, hu, hn, hof, hst, hg, hl⟩ := structK_some hs
    obtain ⟨h1, h2⟩ := run_findAsking (w := w) hk hkv es es'.toList 0 he hr
    refine ⟨?_, fun j hj => by have := h2 j hj; omega⟩
    cases hes : es'.toList with
    | nil =>
      rw [hes] at h1 he
      have : es = [] := by have := he.1; simp at this; exact this
      subst this
      obtain rfl := Option.some.inj hr
      simp [Instr.findKey, run_underlying' w hu, Instr.findNow]
    | cons y ys =>
      rw [hes] at h1
      have hnow : Instr.findNow (.struct fs) k' (y :: ys) 0 = none := by
        have : Instr.sameNow (.struct fs) k' y.key = none := by cases k' <;> rfl
        simp [Instr.findNow, this]
      simp only [Instr.findKey, Sem.run_bind, run_underlying' w hu, Result.andThen_ok, hnow, h1]
      rw [← hes]; simp
end
end Go.Proofs.Ytekojjilbchkgaa.Can
