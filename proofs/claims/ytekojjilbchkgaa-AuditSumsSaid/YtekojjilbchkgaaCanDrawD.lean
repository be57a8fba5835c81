/- A statement whose operations may change places: every order comes to what the text's order does. No condition. -/
import Derived.Test.YtekojjilbchkgaaCanDrawC
namespace Go.Proofs.Ytekojjilbchkgaa.Can
open Go
set_option linter.unusedSimpArgs false
set_option linter.unusedVariables false

section
variable {P : Program} {call : CallFn} {p : Pers} {ops : Array Oper} {ah : List (List Nat)} {E L : Nat → Env} {H : Nat → Heap} {V : Nat → Value} {R : Nat → Bool}
variable {S : Stay} {m0 : Map} {w0 : World}

open Classical in
theorem draw_step (T : Trace P call p ops ah 0 ops.toList E L H V R) (hcall : CallsOK P call) (hap : Apart ops ah) (hf : Free m0 (H 0).next (H ops.size).next) (hgl : GlobOK m0)
    {D : Nat → Prop} {q : Nat} {m : Map} {a : Act} {w : World} (c : Ctl P p ops ah E L D q) (s : Sl p ops E L D m a) (h : Hp P S ops H m0 w0 D q m w)
    {j : Nat} {o : Oper} (hj : ops[j]? = some o) (hD : ¬ D j) (hah : ∀ i, (ah.getD j []).elem i = true → D i) {Q : Exit → Act → World → Prop} {K : Act → World → Prop}
    (hK : ∀ q1 m1 a1 w1, Ctl P p ops ah E L (fun i => i = j ∨ D i) q1 → Sl p ops E L (fun i => i = j ∨ D i) m1 a1 → Hp P S ops H m0 w0 (fun i => i = j ∨ D i) q1 m1 w1 → K a1 w1) : wpOp P ops Q j K a w := by
  have hst := T.st hj
  have hlt := lt_of_op hj
  have hc' := c.step T hj hD hah
  have hwant : Region.wanted o (yielded ops a.tmps) = R j := by
    rcases hst.guard with ⟨hg, hr⟩ | ⟨jj, w', t, hg, ht, hw⟩
    · rw [hr]; simp [Region.wanted, hg]
    · refine want_sim' hg ht (s.at T hap c.closed hj hD hah (t := t) ?_) hw
      simp [Oper.looksAt, hg, ht]
  unfold wpOp
  rw [hj]
  simp only [hwant]
  cases hr : R j with
  | false =>
    simp only [Bool.false_eq_true, if_false]
    obtain ⟨hv, hh⟩ := hst.idle hr
    have hs' : Sl p ops E L (fun i => i = j ∨ D i) m (a.put o.dst undef) := s.step T hap c.closed (Ext.refl m) hj hD (by rw [hv]; exact .tuple _ _ rfl (fun i x y hx => by simp at hx))
    refine hK _ m _ w hc' hs' ?_
    unfold qNext
    split
    · rename_i hk
      obtain ⟨hq, hnw⟩ := c.ahead T hj hD hah hk
      refine h.write T hcall hj hq hnw ?_
      rw [hh]
      exact Out.refl (h.shows T hcall hq (Nat.le_of_lt hlt) hnw).2.2
    · exact h.idle
  | true =>
    simp only [if_true]
    left
    have hran := hst.ran hr
    let ρ : Rho := fun x => if x ∈ o.op.operands then lookE p (E j) (L j) x else unk
    have hρ : ∀ x, VR m (ρ x) (a.eval x) := by
      intro x
      show VR m (if x ∈ o.op.operands then lookE p (E j) (L j) x else unk) _
      split
      · rename_i hx
        cases x with
        | tmp t =>
          refine s.at T hap c.closed hj hD hah (t := t) ?_
          unfold Oper.looksAt
          refine List.mem_append_left _ (List.mem_filterMap.2 ⟨.tmp t, by simpa using hx, rfl⟩)
        | const v =>
          simp only [lookE, Act.eval]
          split
          · rename_i hv; exact VR.selfV hv
          · exact .unk v
        | global g => exact (hgl.ext h.ext).rel g
        | func f => exact VR.func_of (VL.nil m) (VL.nil m)
      · exact .unk _
    have hres : resOp P o ρ = At P p E L j o := resOp_congr o fun x hx => if_pos hx
    have goOn : ∀ v' m1 w1 q1, q1 = qNext P p E L o j q → VR m1 (V j) v' → Ext m m1 → Hp P S ops H m0 w0 (fun i => i = j ∨ D i) q1 m1 w1 → K (a.put o.dst v') w1 := fun v' m1 w1 q1 hq hv hx hh =>
      hK q1 m1 _ w1 (hq ▸ hc') (s.step T hap c.closed hx hj hD hv) hh
    -- a look at memory as it stands
    have look : ∀ n, q ≤ n → n ≤ ops.size → NW P p ops E L q n → kindC (At P p E L j o) ≠ .write → cop (At P p E L j o) (H n) = some (V j, H n) → o.wp P a w K Q := by
      intro n hq hn hnw hk hcop
      refine op_wp hcall (h.shows T hcall hq hn hnw).2.2 o a hρ (v := V j) (h1 := H n) (by rw [hres, evOp_plain hk]; exact hcop) (fun x h1 h2 => by omega) (hgl.ext h.ext) fun v' w1 m1 hv ho => ?_
      exact goOn v' m1 w1 q (by unfold qNext; rw [if_neg hk]) hv ho.ext (h.read T hcall hq hn hnw ho)
    cases hk : kindC (At P p E L j o) with
    | write =>
      obtain ⟨hq, hnw⟩ := c.ahead T hj hD hah hk
      refine op_wp hcall (h.shows T hcall hq (Nat.le_of_lt hlt) hnw).2.2 o a hρ (v := V j) (h1 := H (j + 1)) (by rw [hres]; exact hran) (h.fresh T hcall hf hj hD) (hgl.ext h.ext) fun v' w1 m1 hv ho => ?_
      exact goOn v' m1 w1 (j + 1) (by unfold qNext; rw [if_pos hk]) hv ho.ext (h.write T hcall hj hq hnw ho)
    | pure =>
      have hkn : kindC (At P p E L j o) ≠ .write := by rw [hk]; simp
      rw [evOp_plain hkn] at hran
      exact look q (Nat.le_refl _) c.qle (fun i x h1 h2 => by omega) hkn ((kind_pure hk hran).2 _)
    | alloc =>
      have hkn : kindC (At P p E L j o) ≠ .write := by rw [hk]; simp
      rw [evOp_plain hkn] at hran
      obtain ⟨ob, hH, hall⟩ := kind_alloc hk hran
      have hG : Heap.Wf ⟨fun _ => .gone, (H j).next⟩ := fun _ _ => rfl
      have hE := h.emb.view (G := ⟨fun _ => .gone, (H j).next⟩) (fun b _ => .inl rfl) hG
      refine op_wp hcall hE o a hρ (v := V j) (h1 := Heap.new ⟨fun _ => .gone, (H j).next⟩ ob) (by rw [hres, evOp_plain hkn]; exact hall _ rfl) ?_ (hgl.ext h.ext) fun v' w1 m1 hv ho => ?_
      · have := h.fresh T hcall hf hj hD
        rw [hH] at this; exact this
      · exact goOn v' m1 w1 q (by unfold qNext; rw [if_neg hkn]) hv ho.ext (h.alloc T hcall hf c.qle hj hD hH ho)
    | read =>
      have hkn : kindC (At P p E L j o) ≠ .write := by rw [hk]; simp
      rw [evOp_plain hkn] at hran
      have hHj := kind_read hk hran
      rw [hHj] at hran
      rcases Nat.lt_or_ge j q with hjq | hjq
      · -- a later writer is done
        rcases c.qw with h0 | ⟨i, x, hqi, hi, hki, hDi⟩
        · omega
        · have hij : i ≠ j := fun hij => hD (hij ▸ hDi)
          have hno : (ah.getD i []).elem j = false := by
            cases hq : (ah.getD i []).elem j with
            | false => rfl
            | true => exact absurd (c.closed i hDi j hq) hD
          have := T.rw0 (by omega) hj hi hk hki hno hr
          rw [← hqi] at this
          exact look q (Nat.le_refl _) c.qle (fun i x h1 h2 => by omega) hkn this
      · -- is there an undone writer before it?
        by_cases hnw : NW P p ops E L q j
        · exact look j hjq (Nat.le_of_lt hlt) hnw hkn hran
        · -- the first one
          have hex : ∀ n, q ≤ n → n ≤ j → NW P p ops E L q n ∨ ∃ i x, q ≤ i ∧ i < n ∧ ops[i]? = some x ∧ kindC (At P p E L i x) = .write ∧ NW P p ops E L q i := by
            intro n
            induction n with
            | zero => intro h1 _; exact .inl fun i x h2 h3 => by omega
            | succ n ih =>
              intro h1 h2
              rcases Nat.lt_or_ge n q with h3 | h3
              · exact .inl fun i x h4 h5 => by omega
              · rcases ih h3 (by omega) with h4 | ⟨i, x, h4, h5, h6⟩
                · obtain ⟨y, hy⟩ := op_of_lt (ops := ops) (j := n) (by omega)
                  by_cases hw : kindC (At P p E L n y) = .write
                  · exact .inr ⟨n, y, h3, by omega, hy, hw, h4⟩
                  · left
                    intro i x h5 h6 h7
                    rcases Nat.lt_or_ge i n with h8 | h8
                    · exact h4 i x h5 h8 h7
                    · have : i = n := by omega
                      subst this
                      rw [hy] at h7; obtain rfl := Option.some.inj h7; exact hw
                · exact .inr ⟨i, x, h4, by omega, h6⟩
          rcases hex j hjq (Nat.le_refl _) with h1 | ⟨i, x, h1, h2, h3, h4, h5⟩
          · exact absurd h1 hnw
          · have hno : (ah.getD j []).elem i = false := by
              cases hq : (ah.getD j []).elem i with
              | false => rfl
              | true =>
                have := (c.wq i x h3 h4).1 (hah i hq)
                omega
            exact look i h1 (by omega) h5 hkn (T.wr0 h2 h3 hj h4 hk hno hr)
end

/-! ### how many are left -/
def cnt (f : Nat → Bool) : Nat → Nat
  | 0 => 0
  | n + 1 => cnt f n + if f n then 1 else 0
theorem cnt_congr {f g : Nat → Bool} : ∀ {n : Nat}, (∀ i, i < n → f i = g i) → cnt f n = cnt g n
  | 0, _ => rfl
  | n + 1, h => by simp only [cnt]; rw [h n (by omega), cnt_congr fun i hi => h i (by omega)]
theorem cnt_less {f g : Nat → Bool} {j : Nat} (hf : f j = true) (hg : g j = false) (hn : ∀ i, i ≠ j → f i = g i) : ∀ {n : Nat}, j < n → cnt f n = cnt g n + 1
  | 0, h => by omega
  | n + 1, h => by
    simp only [cnt]
    rcases Nat.lt_or_ge j n with h1 | h1
    · rw [cnt_less hf hg hn h1, hn n (by omega)]; omega
    · have : j = n := by omega
      subst this
      rw [hf, hg, cnt_congr (g := g) fun i hi => hn i (by omega)]; simp
theorem cnt_zero {f : Nat → Bool} : ∀ {n : Nat}, cnt f n = 0 → ∀ i, i < n → f i = false
  | 0, _, i, h => by omega
  | n + 1, h, i, hi => by
    simp only [cnt] at h
    rcases Nat.lt_or_ge i n with h1 | h1
    · exact cnt_zero (by omega) i h1
    · have : i = n := by omega
      subst this
      cases hf : f i with
      | false => rfl
      | true => rw [hf] at h; simp at h
theorem cnt_le {f : Nat → Bool} : ∀ {n : Nat}, cnt f n ≤ n
  | 0 => Nat.le_refl _
  | n + 1 => by simp only [cnt]; have := cnt_le (f := f) (n := n); split <;> omega

section
variable {P : Program} {call : CallFn} {p : Pers} {ops : Array Oper} {ah : List (List Nat)} {E L : Nat → Env} {H : Nat → Heap} {V : Nat → Value} {R : Nat → Bool}
variable {S : Stay} {m0 : Map} {w0 : World}

theorem ahead_of (h : aheadOk ops ah = true) {j : Nat} {o : Oper} (hj : ops[j]? = some o) :
    (∀ i, (ah.getD j []).elem i = true → ∃ e ∈ o.after, Region.binds .any e = true ∧ (e.on = i ∨ (ah.getD e.on []).elem i = true)) ∧ ∀ e ∈ o.after, Region.binds .any e = true → e.on < j := by
  unfold aheadOk at h
  have h1 := List.all_eq_true.1 h j (List.mem_range.2 (lt_of_op hj))
  rw [hj] at h1
  simp only [Bool.and_eq_true] at h1
  refine ⟨fun i hi => ?_, fun e he hb => ?_⟩
  · have h2 := List.all_eq_true.1 h1.1 i (List.elem_iff.1 hi)
    simp only [Bool.and_eq_true] at h2
    obtain ⟨e, he, h3⟩ := List.any_eq_true.1 h2.2
    simp only [Bool.and_eq_true, Bool.or_eq_true, beq_iff_eq] at h3
    exact ⟨e, by simpa using he, h3.1, h3.2⟩
  · have h2 := List.all_eq_true.1 h1.2 e (by simpa using he)
    simp only [hb, Bool.not_true, Bool.false_or, Nat.blt_eq] at h2
    exact h2

abbrev Don (listed : Array Bool) : Nat → Prop := fun i => listed.getD i false = true
theorem don_set {listed : Array Bool} {j : Nat} (hj : j < listed.size) : Don (listed.setIfInBounds j true) = fun i => i = j ∨ Don listed i := by
  funext i
  apply propext
  unfold Don
  simp only [Array.getD_eq_getD_getElem?]
  by_cases h : i = j
  · subst h
    rw [Array.getElem?_setIfInBounds_self_of_lt hj]; simp
  · rw [Array.getElem?_setIfInBounds_ne (fun h1 => h h1.symm)]; simp [h]

theorem draw_any (T : Trace P call p ops ah 0 ops.toList E L H V R) (hcall : CallsOK P call) (hap : Apart ops ah) (hao : aheadOk ops ah = true) (hf : Free m0 (H 0).next (H ops.size).next) (hgl : GlobOK m0) {Q : Exit → Act → World → Prop}
    (hQ : ∀ D q m a w, (∀ j, j < ops.size → D j) → Ctl P p ops ah E L D q → Sl p ops E L D m a → Hp P S ops H m0 w0 D q m w → Q .normal a w) :
    ∀ (fuel : Nat) (listed : Array Bool) (q : Nat) (m : Map) (a : Act) (w : World), listed.size = ops.size → cnt (fun i => !listed.getD i false) ops.size ≤ fuel →
      Ctl P p ops ah E L (Don listed) q → Sl p ops E L (Don listed) m a → Hp P S ops H m0 w0 (Don listed) q m w → wpAny P .any ops Q fuel listed a w := by
  have gd : ∀ (listed : Array Bool) j, j < listed.size → listed.getD j true = listed.getD j false := fun listed j hj => by
    simp only [Array.getD_eq_getD_getElem?, Array.getElem?_eq_getElem hj, Option.getD_some]
  have full : ∀ (listed : Array Bool), listed.size = ops.size → Region.ready .any ops listed = [] → ∀ j, j < ops.size → Don listed j := by
    intro listed hsz hr j
    induction j using Nat.strongRecOn with
    | ind j ih =>
      intro hj
      cases hq : listed.getD j false with
      | true => exact hq
      | false =>
        exfalso
        obtain ⟨o, ho⟩ := op_of_lt hj
        have hm : j ∈ Region.ready .any ops listed := mem_ready.2 ⟨by rw [gd listed j (by omega)]; exact hq, o, ho, fun e he hb => ih e.on ((ahead_of hao ho).2 e he hb) (Nat.lt_trans ((ahead_of hao ho).2 e he hb) hj)⟩
        rw [hr] at hm; simp at hm
  intro fuel
  induction fuel with
  | zero =>
    intro listed q m a w hsz hcn c s h
    have hall : ∀ j, j < ops.size → Don listed j := fun j hj => by
      have h := cnt_zero (Nat.le_zero.1 hcn) j hj
      show listed.getD j false = true
      cases hq : listed.getD j false with
      | true => rfl
      | false => simp only [hq] at h; simp at h
    refine ⟨?_, hQ _ q m a w hall c s h⟩
    apply List.eq_nil_iff_forall_not_mem.2
    intro j hj
    obtain ⟨h1, o, ho, _⟩ := mem_ready.1 hj
    have := hall j (lt_of_op ho)
    rw [gd listed j (by rw [hsz]; exact lt_of_op ho)] at h1
    have h2 : listed.getD j false = true := this
    rw [h1] at h2; simp at h2
  | succ fuel ih =>
    intro listed q m a w hsz hcn c s h
    refine ⟨fun hr => hQ _ q m a w (full listed hsz hr) c s h, fun j hj => ?_⟩
    obtain ⟨h1, o, ho, h3⟩ := mem_ready.1 hj
    have hlt := lt_of_op ho
    rw [gd listed j (by omega)] at h1
    have hD : ¬ Don listed j := by unfold Don; rw [h1]; simp
    have hah : ∀ i, (ah.getD j []).elem i = true → Don listed i := fun i hi => by
      obtain ⟨e, he, hb, h4⟩ := (ahead_of hao ho).1 i hi
      have h5 : Don listed e.on := h3 e he hb
      rcases h4 with h4 | h4
      · exact h4 ▸ h5
      · exact c.closed _ h5 i h4
    refine draw_step T hcall hap hf hgl c s h ho hD hah fun q1 m1 a1 w1 c1 s1 h1' => ?_
    have hds := don_set (listed := listed) (j := j) (by omega)
    refine ih _ q1 m1 a1 w1 (by simpa using hsz) ?_ (by rw [hds]; exact c1) (by rw [hds]; exact s1) (by rw [hds]; exact h1')
    have := cnt_less (f := fun i => !listed.getD i false) (g := fun i => !(listed.setIfInBounds j true).getD i false) (j := j) (by simp only [h1]; rfl) (by
      have : Don (listed.setIfInBounds j true) j := by rw [hds]; exact .inl rfl
      have h2 : (listed.setIfInBounds j true).getD j false = true := this
      simp only [h2]; rfl) (fun i hi => by
      simp only [Array.getD_eq_getD_getElem?]
      rw [Array.getElem?_setIfInBounds_ne (fun h => hi h.symm)]) hlt
    omega
end

theorem draw_sim {P : Program} {S : Stay} {call : CallFn} (hcall : CallsOK P call) (p : Pers) (ops : Array Oper) (ah : List (List Nat)) (hao : aheadOk ops ah = true) (hap : apartOk ops ah = true) (hfo : P.follows .mixedOrders = true)
    {Q : Exit → Act → World → Prop} {id : Nat} {e1 : Env} {h1 : Heap} {m : Map} {e l : Env} {h : Heap} {a : Act} {w : World}
    (hr : evR call (toRegD P p ops ah ops.toList 0 e l [] []) h = some (e1, h1)) (hs : Slots p m e l a) (hE : Emb P S m h w) (hf : Free m h.next h1.next)
    (hQ : ∀ a1 w1 m1 l1, Slots p m1 e1 l1 a1 → Out P S m h w m1 h1 w1 → Q .normal a1 w1) : (Code.region id ops true).wp P Q a w := by
  obtain ⟨E, L, H, V, R, rfl, rfl, rfl, hE1, hH1, T, _, _, _⟩ := trace_of ops.toList 0 e l [] [] h _ hr
  simp only [Nat.zero_add, Array.length_toList] at hE1 hH1
  subst hE1 hH1
  have hnone : ∀ i, ¬ Don (Array.replicate ops.size false) i := fun i hi => by
    unfold Don at hi
    simp only [Array.getD_eq_getD_getElem?, Array.getElem?_replicate] at hi
    split at hi <;> simp at hi
  refine wp_region_any hfo (draw_any (S := S) (m0 := m) (w0 := { w with drawn := w.drawn + 1 }) T hcall (apart_of hap) hao hf hs.glob ?_ ops.size _ 0 m a _ (by simp) cnt_le ?_ ?_ ?_)
  · intro D q m1 a1 w1 hall c s hp
    have hnw : NW P p ops E L q ops.size := fun i x h1 h2 h3 h4 => by
      have := (c.wq i x h3 h4).1 (hall i h2); omega
    have hwf := wf_of T (hp.wf q (Nat.le_refl _)) c.qle (Nat.le_refl _) hnw
    have hmb : ∀ b, b < (H 0).next → m b = none → m1 b = none := fun b hb hm => by
      cases hq : m1 b with
      | none => rfl
      | some K =>
        exfalso
        rcases hp.dom b (by simp [hq]) with h3 | ⟨i, _, hi, h4, _⟩
        · exact h3 hm
        · have := T.nexts hcall (Nat.zero_le i) (Nat.le_of_lt hi); omega
    have hnq := T.nexts hcall (Nat.zero_le q) c.qle
    refine hQ a1 w1 m1 (L ops.size) ⟨fun t => s.rel t ops.size (Nat.le_refl _) fun i x hi _ => ⟨fun _ => lt_of_op hi, fun h => hall i h⟩, s.size, s.defers, hs.glob.ext hp.ext⟩
      ⟨hp.emb.same (fun b hb => ?_) hwf, hp.ext, fun b hb => ?_, T.nexts hcall (Nat.zero_le _) (Nat.le_refl _), ⟨hp.wd.os, hp.wd.tape, hp.wd.output, hp.wd.size, hp.wd.block⟩, fun b hb hm => ?_⟩
    · rw [AH.obj hb]
      by_cases hlt : b < (H ops.size).next
      · exact cur_of T hcall c.qle (Nat.le_refl _) hnw hlt
      · rw [hwf b (Nat.le_of_not_lt hlt)]
        have := T.nexts hcall c.qle (Nat.le_refl _)
        unfold Cur
        rw [if_neg (by omega), if_neg hlt]
    · rcases hp.dom b hb with h3 | ⟨i, _, hi, h4, h5⟩
      · exact .inl h3
      · have h6 := T.nexts hcall (Nat.zero_le i) (Nat.le_of_lt hi)
        have h7 := T.nexts hcall (i := i + 1) (n := ops.size) hi (Nat.le_refl _)
        exact .inr ⟨by omega, by omega⟩
    · have h2 := cur_of T hcall c.qle (Nat.le_refl _) hnw (Nat.lt_of_lt_of_le hb (T.nexts hcall (Nat.zero_le _) (Nat.le_refl _)))
      rw [h2]
      unfold Cur
      rw [if_pos (by omega), hp.same b (by omega) (hmb b hb hm), orig_stays T hcall hb (Nat.zero_le _) (Nat.le_refl _)]
      rfl
  · exact ⟨fun j hj => absurd hj (hnone j), fun j hj => absurd hj (hnone j), fun j o _ _ => ⟨fun hj => absurd hj (hnone j), fun hj => by omega⟩, .inl rfl⟩
  · refine ⟨fun t n hn hc => ?_, hs.size, hs.defers⟩
    rw [look_stays T (Nat.zero_le n) hn fun i o _ h2 hi hd => hnone i ((hc i o hi hd).2 h2)]
    exact hs.rel t
  · refine ⟨Ext.refl m, fun b hb => .inl hb, (hE.same (fun b hb => ?_) (AH.wf T hcall (Nat.zero_le _) m)).of_heap rfl, Wd.refl S _, fun b hb _ => ?_, fun n hn => ?_⟩
    · rw [AH.obj hb]
      unfold Cur
      split
      · rfl
      · rename_i h0
        rw [hE.wf b (Nat.le_of_not_lt h0)]
        split
        · rename_i h2
          exact absurd (hf b (Nat.le_of_not_lt h0) h2) hb
        · rfl
    · rw [orig_stays T hcall hb (Nat.zero_le _) (Nat.le_refl _)]; rfl
    · rw [Nat.le_zero.1 hn]; exact hE.wf
end Go.Proofs.Ytekojjilbchkgaa.Can
