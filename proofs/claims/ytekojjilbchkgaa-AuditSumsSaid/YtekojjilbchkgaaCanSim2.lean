/- One operation: what the canonical machine does the program's does (numbers, comparisons, slices, what is built). No condition. -/
import Derived.Test.YtekojjilbchkgaaCanSim1
import Derived.Laws.StructEq
import Derived.LaidEql
namespace Go.Proofs.Ytekojjilbchkgaa.Can
open Go
set_option linter.unusedSimpArgs false
set_option linter.unusedVariables false

section
variable {P : Program} {S : Stay} {m : Map} {h : Heap} {w : World}

/-! ### numbers, strings -/
theorem run_eqGuard_plain (op : BinOp) (t : TypeId) (x y : Operand) (a b : Value) (h1 : a ≠ .nilIface) (h2 : ∀ xs, a ≠ .agg xs) : (eqGuard op t x y a b).run P w = .ok () w := by
  cases a <;> first
    | exact absurd rfl h1
    | exact absurd rfl (h2 _)
    | (simp only [eqGuard]; split <;> rfl)

theorem sim_bin (e : Emb P S m h w) (op : BinOp) (t : TypeId) (ox oy : Operand) {x x' y y' : Value} (hx : VR m x x') (hy : VR m y y') {v : Value} {h1 : Heap}
    (hc : cop (.bin op x y) h = some (v, h1)) : Did P S m h w (valOf (do eqGuard op t ox oy x' y'; binOp op t x' y')) v h1 := by
  simp only [cop, Option.map_eq_some_iff, Prod.mk.injEq] at hc
  obtain ⟨u, hu, rfl, rfl⟩ := hc
  unfold bin at hu
  split at hu
  · rename_i k a k' b
    obtain rfl := hx.int_inv
    obtain rfl := hy.int_inv
    have hg := run_eqGuard_plain (P := P) (w := w) op t ox oy (.int k a) (.int k' b) (by simp) (by simp)
    have fin : ∀ {u : Value}, (binOp op t (.int k a) (.int k' b)).run P w = .ok u w → VR m u u → Did P S m h w (valOf (do eqGuard op t ox oy (.int k a) (.int k' b); binOp op t (.int k a) (.int k' b))) u h := by
      intro u h1 h2
      exact Did.same (s := do eqGuard op t ox oy (.int k a) (.int k' b); binOp op t (.int k a) (.int k' b)) e (by simp only [Sem.run_bind, hg, Result.andThen_ok, h1]) h2
    cases op with
    | shl =>
      simp only [shiftInt] at hu
      split at hu
      · simp at hu
      · rename_i hn; obtain rfl := Option.some.inj hu; exact fin (by simp only [binOp, Op.shift]; rw [if_neg hn]; rfl) (.int _ _)
    | shr =>
      simp only [shiftInt] at hu
      split at hu
      · simp at hu
      · rename_i hn; obtain rfl := Option.some.inj hu; exact fin (by simp only [binOp, Op.shift]; rw [if_neg hn]; rfl) (.int _ _)
    | _ =>
      simp only at hu
      split at hu
      · rename_i hk
        subst hk
        simp only [binInt] at hu
        first
          | (obtain rfl := Option.some.inj hu
             exact fin (by simp only [binOp, ne_eq, not_true_eq_false, if_false]; rfl) (by constructor))
          | (split at hu
             · simp at hu
             · rename_i hb
               obtain rfl := Option.some.inj hu
               exact fin (by simp only [binOp, ne_eq, not_true_eq_false, if_false, Op.intDiv]; rw [if_neg hb]; rfl) (.int _ _))
          | (simp at hu)
      · simp at hu
  · rename_i a b
    obtain rfl := hx.string_inv
    obtain rfl := hy.string_inv
    have hg := run_eqGuard_plain (P := P) (w := w) op t ox oy (.string a) (.string b) (by simp) (by simp)
    have fin : ∀ {u : Value}, (binOp op t (.string a) (.string b)).run P w = .ok u w → VR m u u → Did P S m h w (valOf (do eqGuard op t ox oy (.string a) (.string b); binOp op t (.string a) (.string b))) u h := by
      intro u h1 h2
      exact Did.same (s := do eqGuard op t ox oy (.string a) (.string b); binOp op t (.string a) (.string b)) e (by simp only [Sem.run_bind, hg, Result.andThen_ok, h1]) h2
    cases op with
    | add =>
      simp only [binStr] at hu
      split at hu
      · rename_i hle
        obtain rfl := Option.some.inj hu
        refine fin ?_ (.string _)
        have hm : IntKind.i64.max = 9223372036854775807 := by decide
        simp only [binOp, Op.stringOp, hm]
        rw [if_neg (by omega)]; rfl
      · simp at hu
    | _ =>
      simp only [binStr] at hu
      first
        | (obtain rfl := Option.some.inj hu
           exact fin rfl (by constructor))
        | (simp at hu)
  · simp at hu

/-! ### comparisons -/
theorem run_cmp (op : BinOp) (t : TypeId) (ox oy : Operand) (a b : Value) (neg : Bool) (hop : op = if neg then .neq else .eql) (r : Bool)
    (hg : (eqGuard op t ox oy a b).run P w = .ok () w) (hr : (Op.equalIn 10000 t a b).run P w = .ok r w)
    (hn1 : ∀ k n, a ≠ .int k n) (hn2 : ∀ k n, a ≠ .float k n) (hn3 : ∀ k x y, a ≠ .complex k x y) (hn4 : ∀ s, a ≠ .string s) :
    (do eqGuard op t ox oy a b; binOp op t a b : Sem Value).run P w = .ok (.bool (if neg then !r else r)) w := by
  have key : (binOp op t a b).run P w = .ok (.bool (if neg then !r else r)) w := by
    subst hop
    cases neg with
    | false =>
      simp only [Bool.false_eq_true, if_false]
      unfold binOp
      split <;> first
        | (exact absurd rfl (hn1 _ _))
        | (exact absurd rfl (hn2 _ _))
        | (exact absurd rfl (hn3 _ _ _))
        | (exact absurd rfl (hn4 _))
        | (simp [Op.equal, Op.maxDepth, hr]; done)
        | (simp_all; done)
    | true =>
      simp only [if_true]
      unfold binOp
      split <;> first
        | (exact absurd rfl (hn1 _ _))
        | (exact absurd rfl (hn2 _ _))
        | (exact absurd rfl (hn3 _ _ _))
        | (exact absurd rfl (hn4 _))
        | (simp [Op.equal, Op.maxDepth, hr]; done)
        | (simp_all; done)
  simp only [Sem.run_bind, hg, Result.andThen_ok, key]

def EqK.fits : EqK → (P : Program) → TypeDesc → Prop
  | .bool, _, .bool => True
  | .ptr, P, .pointer e => (P.info? e).isSome = true
  | .slice, _, .slice _ => True
  | .map, _, .map _ _ => True
  | .func, _, .func _ _ _ => True
  | _, _, _ => False

theorem sim_eqK (e : Emb P S m h w) (op : BinOp) (t : TypeId) (ox oy : Operand) {d : TypeDesc} (ht : P.underlying t = some d) (kd : EqK) (hk : kd.fits P d) (neg : Bool) (hop : op = if neg then .neq else .eql)
    {x x' y y' : Value} (hx : VR m x x') (hy : VR m y y') {v : Value} {h1 : Heap}
    (hc : cop (.eqK kd neg x y) h = some (v, h1)) : Did P S m h w (valOf (do eqGuard op t ox oy x' y'; binOp op t x' y')) v h1 := by
  simp only [cop, Option.map_eq_some_iff, Prod.mk.injEq] at hc
  obtain ⟨r, hr, rfl, rfl⟩ := hc
  have fin : ∀ (hg1 : x' ≠ .nilIface) (hg2 : ∀ xs, x' ≠ .agg xs) (hn1 : ∀ k n, x' ≠ .int k n) (hn2 : ∀ k n, x' ≠ .float k n) (hn3 : ∀ k p q, x' ≠ .complex k p q) (hn4 : ∀ s, x' ≠ .string s)
      (hr : ∀ d, (Op.equalIn (d + 1) t x' y').run P w = .ok r w), Did P S m h w (valOf (do eqGuard op t ox oy x' y'; binOp op t x' y')) (.bool (if neg then !r else r)) h := by
    intro hg1 hg2 hn1 hn2 hn3 hn4 hr
    exact Did.same (s := do eqGuard op t ox oy x' y'; binOp op t x' y') e (run_cmp op t ox oy x' y' neg hop r (run_eqGuard_plain op t ox oy x' y' hg1 hg2) (hr 9999) hn1 hn2 hn3 hn4) (.bool _)
  unfold eqK at hr
  split at hr
  · rename_i a b
    obtain rfl := Option.some.inj hr
    obtain rfl := hx.bool_inv
    obtain rfl := hy.bool_inv
    cases d <;> first | exact hk.elim | skip
    exact fin (by simp) (by simp) (by simp) (by simp) (by simp) (by simp) (fun d => by simp [Op.equalIn, run_underlying' w ht])
  · rename_i b
    obtain rfl := Option.some.inj hr
    obtain rfl := hx.nilPtr_inv
    cases d <;> first | exact hk.elim | skip
    cases b with
    | none => obtain rfl := hy.nilPtr_inv; exact fin (by simp) (by simp) (by simp) (by simp) (by simp) (by simp) (fun d => by simp [Op.equalIn, run_underlying' w ht])
    | some a => obtain ⟨b, o, L, rfl, hb, rfl⟩ := hy.ptr_inv; exact fin (by simp) (by simp) (by simp) (by simp) (by simp) (by simp) (fun d => by simp [Op.equalIn, run_underlying' w ht])
  · obtain rfl := Option.some.inj hr
    obtain ⟨b, o, L, rfl, hb, rfl⟩ := hx.ptr_inv
    obtain rfl := hy.nilPtr_inv
    cases d <;> first | exact hk.elim | skip
    exact fin (by simp) (by simp) (by simp) (by simp) (by simp) (by simp) (fun d => by simp [Op.equalIn, run_underlying' w ht])
  · rename_i a o b o'
    split at hr
    · rename_i hab
      obtain ⟨rfl, rfl⟩ := hab
      obtain rfl := Option.some.inj hr
      obtain ⟨b1, o1, L1, q1, hb1, rfl⟩ := hx.ptr_inv
      obtain ⟨b2, o2, L2, q2, hb2, rfl⟩ := hy.ptr_inv
      obtain ⟨rfl, rfl, _⟩ := Addr.mk.inj q1
      obtain ⟨rfl, rfl, _⟩ := Addr.mk.inj q2
      rw [hb1] at hb2
      obtain rfl := Option.some.inj hb2
      cases d <;> first | exact hk.elim | skip
      rename_i te
      obtain ⟨j, hj⟩ := Option.isSome_iff_exists.1 hk
      exact fin (by simp) (by simp) (by simp) (by simp) (by simp) (by simp) (fun d => by simp [Op.equalIn, run_underlying' w ht, sizeOf, typeInfo, hj, run_sameAddr_same])
    · simp at hr
  · rename_i b n c
    obtain rfl := Option.some.inj hr
    obtain rfl := hx.nilSlice_inv
    cases d <;> first | exact hk.elim | skip
    cases b with
    | none => obtain rfl := hy.nilSlice_inv; exact fin (by simp) (by simp) (by simp) (by simp) (by simp) (by simp) (fun d => by simp [Op.equalIn, run_underlying' w ht])
    | some a =>
      rcases hy.slice_inv with ⟨b, o, c', L, rfl, hb, hn, hcc, hg, rfl⟩ | ⟨rfl, rfl, _, a', rfl, L0, hL0⟩ <;>
      exact fin (by simp) (by simp) (by simp) (by simp) (by simp) (by simp) (fun d => by simp [Op.equalIn, run_underlying' w ht])
  · obtain rfl := Option.some.inj hr
    obtain rfl := hy.nilSlice_inv
    cases d <;> first | exact hk.elim | skip
    rcases hx.slice_inv with ⟨b, o, c', L, rfl, hb, hn, hcc, hg, rfl⟩ | ⟨rfl, rfl, _, a', rfl, L0, hL0⟩ <;>
    exact fin (by simp) (by simp) (by simp) (by simp) (by simp) (by simp) (fun d => by simp [Op.equalIn, run_underlying' w ht])
  · rename_i b
    obtain rfl := Option.some.inj hr
    obtain rfl := hx.nilMap_inv
    cases d <;> first | exact hk.elim | skip
    cases b with
    | none => obtain rfl := hy.nilMap_inv; exact fin (by simp) (by simp) (by simp) (by simp) (by simp) (by simp) (fun d => by simp [Op.equalIn, run_underlying' w ht])
    | some a => obtain ⟨L, hb, rfl⟩ := hy.map_inv; exact fin (by simp) (by simp) (by simp) (by simp) (by simp) (by simp) (fun d => by simp [Op.equalIn, run_underlying' w ht])
  · obtain rfl := Option.some.inj hr
    obtain ⟨L, hb, rfl⟩ := hx.map_inv
    obtain rfl := hy.nilMap_inv
    cases d <;> first | exact hk.elim | skip
    exact fin (by simp) (by simp) (by simp) (by simp) (by simp) (by simp) (fun d => by simp [Op.equalIn, run_underlying' w ht])
  · obtain rfl := Option.some.inj hr
    obtain rfl := hx.nilFunc_inv
    obtain rfl := hy.nilFunc_inv
    cases d <;> first | exact hk.elim | skip
    exact fin (by simp) (by simp) (by simp) (by simp) (by simp) (by simp) (fun d => by simp [Op.equalIn, run_underlying' w ht])
  · obtain rfl := Option.some.inj hr
    obtain rfl := hx.nilFunc_inv
    obtain ⟨a', c', rfl, _, _⟩ := hy.func_inv
    cases d <;> first | exact hk.elim | skip
    exact fin (by simp) (by simp) (by simp) (by simp) (by simp) (by simp) (fun d => by simp [Op.equalIn, run_underlying' w ht])
  · obtain rfl := Option.some.inj hr
    obtain rfl := hy.nilFunc_inv
    obtain ⟨a', c', rfl, _, _⟩ := hx.func_inv
    cases d <;> first | exact hk.elim | skip
    exact fin (by simp) (by simp) (by simp) (by simp) (by simp) (by simp) (fun d => by simp [Op.equalIn, run_underlying' w ht])
  · simp at hr

/-! ### slicing -/
theorem run_sliceBound {k : IntKind} {i : Int} {y : Nat} (code : BoundsCode) (hi : 0 ≤ i ∧ i ≤ y) : (Instr.sliceBound (.int k i) y code).run P w = .ok i.toNat w := by
  simp only [Instr.sliceBound, asIntOf, Sem.run_bind, Sem.run_pure, Result.andThen_ok, hi, and_self, if_true]

/-- The bounds of 'x[lo:hi]', on both sides. -/
theorem bounds_sim {lo hi lo' hi' : Option Value} (hlo : ∀ u, lo = some u → ∃ u', lo' = some u' ∧ VR m u u') (hlo0 : lo = none → lo' = none) (hhi : ∀ u, hi = some u → ∃ u', hi' = some u' ∧ VR m u u') (hhi0 : hi = none → hi' = none)
    {n c c' : Nat} (isS : Bool) (hcc : c ≤ c') {b l : Nat} (hb : bound hi n c = some b) (hl : bound lo 0 b = some l) :
    l ≤ b ∧ (hi = none → b = n) ∧ (hi ≠ none → b ≤ c) ∧ (Instr.sliceBounds isS n c' lo' hi' none).run P w = .ok (l, b, c') w := by
  have h1 : (∃ k i, hi = some (.int k i) ∧ 0 ≤ i ∧ i ≤ c ∧ b = i.toNat) ∨ (hi = none ∧ b = n) := by
    cases hi with
    | none => right; exact ⟨rfl, (Option.some.inj hb).symm⟩
    | some u =>
      left
      simp only [bound] at hb
      split at hb
      · rename_i heq; simp at heq
      · rename_i k i heq
        obtain rfl := Option.some.inj heq
        split at hb
        · rename_i hr; exact ⟨k, i, rfl, hr.1, hr.2, (Option.some.inj hb).symm⟩
        · simp at hb
      · simp at hb
  have h2 : (∃ k i, lo = some (.int k i) ∧ 0 ≤ i ∧ i ≤ b ∧ l = i.toNat) ∨ (lo = none ∧ l = 0) := by
    cases lo with
    | none => right; exact ⟨rfl, (Option.some.inj hl).symm⟩
    | some u =>
      left
      simp only [bound] at hl
      split at hl
      · rename_i heq; simp at heq
      · rename_i k i heq
        obtain rfl := Option.some.inj heq
        split at hl
        · rename_i hr; exact ⟨k, i, rfl, hr.1, hr.2, (Option.some.inj hl).symm⟩
        · simp at hl
      · simp at hl
  refine ⟨?_, ?_, ?_, ?_⟩
  · rcases h2 with ⟨k, i, _, h3, h4, h5⟩ | ⟨_, h3⟩ <;> omega
  · intro hn; rcases h1 with ⟨k, i, h3, _⟩ | ⟨_, h3⟩
    · rw [hn] at h3; simp at h3
    · exact h3
  · intro hn; rcases h1 with ⟨k, i, _, h3, h4, h5⟩ | ⟨h3, _⟩
    · omega
    · exact absurd h3 hn
  · rcases h1 with ⟨k, i, rfl, h3, h4, rfl⟩ | ⟨rfl, rfl⟩
    · obtain ⟨u', rfl, hu⟩ := hhi _ rfl
      obtain rfl := hu.int_inv
      rcases h2 with ⟨k2, i2, rfl, h6, h7, rfl⟩ | ⟨rfl, rfl⟩
      · obtain ⟨u', rfl, hu⟩ := hlo _ rfl
        obtain rfl := hu.int_inv
        have s1 : ∀ code, (Instr.sliceBound (.int k i) c' code).run P w = .ok i.toNat w := fun code => run_sliceBound code ⟨h3, by omega⟩
        have s2 : ∀ code, (Instr.sliceBound (.int k2 i2) i.toNat code).run P w = .ok i2.toNat w := fun code => run_sliceBound code ⟨h6, h7⟩
        simp only [Instr.sliceBounds, Sem.run_bind, Sem.run_pure, Result.andThen_ok, s1, s2]
      · rw [hlo0 rfl]
        have s1 : ∀ code, (Instr.sliceBound (.int k i) c' code).run P w = .ok i.toNat w := fun code => run_sliceBound code ⟨h3, by omega⟩
        simp only [Instr.sliceBounds, Sem.run_bind, Sem.run_pure, Result.andThen_ok, s1]
    · rw [hhi0 rfl]
      rcases h2 with ⟨k2, i2, rfl, h6, h7, rfl⟩ | ⟨rfl, rfl⟩
      · obtain ⟨u', rfl, hu⟩ := hlo _ rfl
        obtain rfl := hu.int_inv
        have s2 : ∀ code, (Instr.sliceBound (.int k2 i2) b code).run P w = .ok i2.toNat w := fun code => run_sliceBound code ⟨h6, h7⟩
        simp only [Instr.sliceBounds, Sem.run_bind, Sem.run_pure, Result.andThen_ok, s2]
      · rw [hlo0 rfl]
        simp only [Instr.sliceBounds, Sem.run_bind, Sem.run_pure, Result.andThen_ok]

theorem sim_sliceStr (e : Emb P S m h w) {t : TypeId} (ht : P.underlying t = some .string) {x x' : Value} (hx : VR m x x') {lo hi lo' hi' : Option Value} (hlo : ∀ u, lo = some u → ∃ u', lo' = some u' ∧ VR m u u') (hlo0 : lo = none → lo' = none)
    (hhi : ∀ u, hi = some u → ∃ u', hi' = some u' ∧ VR m u u') (hhi0 : hi = none → hi' = none) {v : Value} {h1 : Heap}
    (hc : cop (.sliceStr x lo hi) h = some (v, h1)) : Did P S m h w (do pure (.value (← Instr.sliceAt t x' lo' hi' none))) v h1 := by
  simp only [cop] at hc
  split at hc
  · rename_i s
    simp only [Option.bind_eq_some_iff, Option.map_eq_some_iff, Prod.mk.injEq] at hc
    obtain ⟨b, hb, l, hl, rfl, rfl⟩ := hc
    obtain rfl := hx.string_inv
    obtain ⟨_, _, _, hrun⟩ := bounds_sim (P := P) (w := w) hlo hlo0 hhi hhi0 false (Nat.le_refl s.size) hb hl
    refine Did.same e ?_ (.string _)
    simp only [Instr.sliceAt, Sem.run_bind, run_underlying' w ht, Result.andThen_ok, Instr.slice, Option.isSome_none, Bool.false_eq_true, if_false, Sem.run_pure, hrun]
  · simp at hc

theorem sim_slice (e : Emb P S m h w) {t t' : TypeId} (ht : P.underlying t = some (.slice t')) (hft : hasT P t' = true) {x x' : Value} (hx : VR m x x') {lo hi lo' hi' : Option Value} (hlo : ∀ u, lo = some u → ∃ u', lo' = some u' ∧ VR m u u') (hlo0 : lo = none → lo' = none)
    (hhi : ∀ u, hi = some u → ∃ u', hi' = some u' ∧ VR m u u') (hhi0 : hi = none → hi' = none) {v : Value} {h1 : Heap}
    (hc : cop (.slice t' (P.cellsOf t') x lo hi) h = some (v, h1)) : Did P S m h w (do pure (.value (← Instr.sliceAt t x' lo' hi' none))) v h1 := by
  obtain ⟨d, i, hu, hi2⟩ := hasT_info hft
  simp only [cop] at hc
  split at hc
  · rename_i n c
    simp only [Option.bind_eq_some_iff, Option.map_eq_some_iff, Prod.mk.injEq] at hc
    obtain ⟨b, hb, l, hl, rfl, rfl⟩ := hc
    obtain rfl := hx.nilSlice_inv
    obtain ⟨_, _, _, hrun⟩ := bounds_sim (P := P) (w := w) hlo hlo0 hhi hhi0 true (Nat.le_refl c) hb hl
    refine Did.same e (v' := .slice none (b - l) (c - l)) ?_ (.nilSlice _ _)
    simp only [Instr.sliceAt, Sem.run_bind, run_underlying' w ht, Result.andThen_ok, Instr.slice, Sem.run_pure, hrun, run_sizeOf' w hi2, Option.map_none, ite_self]
  · rename_i a n c
    split at hc
    · rename_i hok
      simp only [Option.bind_eq_some_iff, Option.map_eq_some_iff, Prod.mk.injEq] at hc
      obtain ⟨b, hb, l, hl, rfl, rfl⟩ := hc
      rcases hx.slice_inv with ⟨bb, o, c', L, rfl, hbb, hn, hcc, hg, rfl⟩ | ⟨rfl, rfl, hsp, a', rfl, L0, hL0⟩
      · obtain ⟨q1, q2, q3, hrun⟩ := bounds_sim (P := P) (w := w) hlo hlo0 hhi hhi0 true hcc hb hl
        have e1 : ∀ (b o n : Nat), (⟨b, o, none⟩ : Addr).add n = ⟨b, o + n, none⟩ := fun b o n => by
          unfold Addr.add; split
          · rename_i h; subst h; rfl
          · rfl
        have hbc : b ≤ c := by
          by_cases hz : hi = none
          · rw [q2 hz]; exact hn
          · exact q3 hz
        by_cases hcl : c' = l
        · subst hcl
          have hbl : b - c' = 0 ∧ c - c' = 0 := by omega
          refine Did.same e (v' := .slice (some ⟨L.blk, L.sh + o, none⟩) 0 0) ?_ ?_
          · simp only [Instr.sliceAt, Sem.run_bind, run_underlying' w ht, Result.andThen_ok, Instr.slice, Sem.run_pure, hrun, run_sizeOf' w hi2, if_true, hbl.1, Nat.sub_self]
          · rw [hbl.1, hbl.2, e1]; exact .slice0 _ _ L _ hbb
        · refine Did.same e (v' := .slice (some ((⟨L.blk, L.sh + o, none⟩ : Addr).add (l * P.cellsOf t'))) (b - l) (c' - l)) ?_ ?_
          · simp only [Instr.sliceAt, Sem.run_bind, run_underlying' w ht, Result.andThen_ok, Instr.slice, Sem.run_pure, hrun, run_sizeOf' w hi2]
            rw [if_neg hcl]; rfl
          · rw [e1, e1, Nat.add_assoc]
            refine .slice bb (o + l * P.cellsOf t') (b - l) (c - l) (c' - l) L hbb (by omega) (by omega) fun hgr => ?_
            have hunit : L.unit = P.cellsOf t' := by
              cases ho : h.obj bb with
              | cells cs t2 g =>
                have k7 := obj_grow e hbb ho
                have : g = .grow := by
                  rw [hgr] at k7
                  cases g with
                  | grow => rfl
                  | ro => exact absurd k7 (by decide)
                  | fix => exact absurd k7 (by decide)
                subst this
                obtain ⟨_, _, _, _, _, _, _, k6, _⟩ := obj_cells e hbb ho (.inl (by simp))
                have hh : (h.obj bb).elemOk t' = true := hok
                rw [ho] at hh
                have : t2 = t' := by simpa [Obj.elemOk] using hh
                rw [k6, this]
              | _ => have hh : (h.obj bb).elemOk t' = true := hok; rw [ho] at hh; simp [Obj.elemOk] at hh
            have h0 := hg hgr
            rw [hunit] at h0 ⊢
            have h2 : (c' - l) * P.cellsOf t' + l * P.cellsOf t' ≤ c' * P.cellsOf t' := by
              rw [← Nat.add_mul]; exact Nat.mul_le_mul_right _ (by omega)
            omega
      · obtain ⟨q1, q2, q3, hrun⟩ := bounds_sim (P := P) (w := w) hlo hlo0 hhi hhi0 true (Nat.le_refl 0) hb hl
        have hb0 : b = 0 := by
          by_cases hn : hi = none
          · exact q2 hn
          · have := q3 hn; omega
        have hl0 : l = 0 := by omega
        subst hb0; subst hl0
        refine Did.same e (v' := .slice (some a') 0 0) ?_ ?_
        · simp only [Instr.sliceAt, Sem.run_bind, run_underlying' w ht, Result.andThen_ok, Instr.slice, Sem.run_pure, hrun, run_sizeOf' w hi2, if_true, Nat.sub_self]
        · obtain ⟨b, o, s⟩ := a
          simp only at hsp
          subst hsp
          simp only [Nat.zero_mul]
          exact .slice0 b o L0 a' hL0
    · simp at hc
  · simp at hc
end
end Go.Proofs.Ytekojjilbchkgaa.Can
