/- One operation: what the canonical machine does the program's does. No condition. -/
import Derived.Test.YtekojjilbchkgaaCanSim7
import Derived.Test.YtekojjilbchkgaaCanSim8
namespace Go.Proofs.Ytekojjilbchkgaa.Can
open Go
set_option linter.unusedSimpArgs false
set_option linter.unusedVariables false

section
variable {P : Program} {S : Stay} {m : Map} {h : Heap} {w : World}

theorem opt_rel {ρ ρ' : Rho} (hρ : ∀ x, VR m (ρ x) (ρ' x)) (o : Option Operand) : (∀ u, o.map ρ = some u → ∃ u', o.map ρ' = some u' ∧ VR m u u') ∧ (o.map ρ = none → o.map ρ' = none) := by
  cases o with
  | none => exact ⟨fun u hu => by simp at hu, fun _ => rfl⟩
  | some x => exact ⟨fun u hu => ⟨ρ' x, rfl, by simp at hu; subst hu; exact hρ x⟩, fun hn => by simp at hn⟩
theorem list_rel {ρ ρ' : Rho} (hρ : ∀ x, VR m (ρ x) (ρ' x)) : ∀ (l : List Operand), VL m (l.map ρ) (l.map ρ')
  | [] => VL.nil m
  | x :: l => VL.cons (hρ x) (list_rel hρ l)
theorem parts_arr {ρ ρ' : Rho} (hρ : ∀ x, VR m (ρ x) (ρ' x)) (k : Nat) : ∀ (l : List (Nat × Operand)), PR m (fun i => some (i * k, k)) ((l.map fun (i, x) => (i, ρ x)).map fun x => (x.1 * k, k, x.2)) (l.map fun (i, x) => (i, ρ' x))
  | [] => .nil
  | (i, x) :: l => .cons i (i * k) k (ρ x) (ρ' x) _ _ rfl (hρ x) (parts_arr hρ k l)
theorem parts_struct {ρ ρ' : Rho} (hρ : ∀ x, VR m (ρ x) (ρ' x)) (fs : Array Field) : ∀ (l : List (Nat × Operand)) (ps : List (Nat × Nat × Value)), structPlaces P fs (l.map fun (i, x) => (i, ρ x)) = some ps →
    PR m (fun i => (fs[i]?).map fun f => (f.offset, P.cellsOf f.type)) ps (l.map fun (i, x) => (i, ρ' x))
  | [], ps, h => by obtain rfl := Option.some.inj h; exact .nil
  | (i, x) :: l, ps, h => by
    simp only [List.map_cons, structPlaces] at h
    split at h
    · rename_i f hf
      simp only [Option.map_eq_some_iff] at h
      obtain ⟨ps', h1, rfl⟩ := h
      exact .cons i f.offset (P.cellsOf f.type) (ρ x) (ρ' x) _ _ (by simp [hf]) (hρ x) (parts_struct hρ fs l ps' h1)
    · simp at h

theorem bad_none {v : Value} {h1 : Heap} (hc : cop .bad h = some (v, h1)) : False := by simp [cop] at hc

theorem cop_sim (e : Emb P S m h w) (o : Oper) {ρ ρ' : Rho} (hρ : ∀ x, VR m (ρ x) (ρ' x)) (hcst : ∀ v, ρ' (.const v) = v) {v : Value} {h1 : Heap} (hc : cop (resP P o ρ) h = some (v, h1)) (hf : Free m h.next h1.next) :
    Did P S m h w (execOp ρ' o) v h1 := by
  obtain ⟨dst, op, type, pos, after, guard⟩ := o
  have hfn : h1.next = h.next + 1 → m h.next = none := fun hn => hf _ (Nat.le_refl _) (by omega)
  cases op with
  | move x =>
    simp only [resP, cop, Option.some.injEq, Prod.mk.injEq] at hc
    obtain ⟨rfl, rfl⟩ := hc
    exact Did.here e (hρ x)
  | assign x =>
    simp only [resP, cop, Option.some.injEq, Prod.mk.injEq] at hc
    obtain ⟨rfl, rfl⟩ := hc
    exact Did.here e (hρ x)
  | pick c a b =>
    simp only [resP, cop] at hc
    split at hc
    · rename_i t hct
      simp only [Option.some.injEq, Prod.mk.injEq] at hc
      obtain ⟨rfl, rfl⟩ := hc
      have hcv := hρ c
      rw [hct] at hcv
      have hcv' := hcv.bool_inv
      refine ⟨.value (if t then ρ' a else ρ' b), _, w, m, ?_, .inl rfl, ?_, Out.refl e⟩
      · simp only [execOp, Sem.run_bind, hcv', asBool, Sem.run_pure, Result.andThen_ok]
      · cases t <;> simp [hρ]
    · simp at hc
  | alloc t =>
    simp only [resP] at hc
    split at hc
    · rename_i z hz
      simp only [cop, Option.some.injEq, Prod.mk.injEq] at hc
      obtain ⟨rfl, rfl⟩ := hc
      exact sim_alloc e (hfn rfl) hz
    · exact (bad_none hc).elim
  | box t x =>
    simp only [resP, cop] at hc
    split at hc
    · rename_i cs hcs
      simp only [Option.some.injEq, Prod.mk.injEq] at hc
      obtain ⟨rfl, rfl⟩ := hc
      exact sim_box e (hfn rfl) (hρ x) hcs
    · simp at hc
  | build t ps =>
    simp only [resP] at hc
    split at hc
    · rename_i z fs hz ht
      split at hc
      · rename_i hall
        split at hc
        · rename_i l hl
          refine sim_buildStruct e ht (fun f hf => List.all_eq_true.1 hall f hf) hz ?_ hc
          have := parts_struct hρ fs ps.toList l hl
          simpa using this
        · exact (bad_none hc).elim
      · exact (bad_none hc).elim
    · rename_i z n t' hz ht
      split at hc
      · rename_i hft
        have hp := parts_arr hρ (P.cellsOf t') ps.toList
        refine sim_buildArr e ht hft hz (ps := ps.toList.map fun (i, x) => (i, ρ x)) ?_ (by rw [List.map_map]; exact hc)
        simpa using hp
      · exact (bad_none hc).elim
    · exact (bad_none hc).elim
  | buildSlice t n ps =>
    simp only [resP] at hc
    split at hc
    · rename_i t' ht
      split at hc
      · rename_i z hz
        split at hc
        · rename_i hn
          have hp := parts_arr hρ (P.cellsOf t') ps.toList
          have hc2 := hc
          simp only [cop, Option.map_eq_some_iff, Prod.mk.injEq] at hc2
          obtain ⟨_, _, _, hh⟩ := hc2
          refine sim_buildSlice e (hfn (by rw [← hh]; rfl)) ht hz hn.1 (ps := ps.toList.map fun (i, x) => (i, ρ x)) ?_ (by rw [List.map_map]; exact hc)
          simpa using hp
        · exact (bad_none hc).elim
      · exact (bad_none hc).elim
    · exact (bad_none hc).elim
  | insert t a b c => exact (bad_none hc).elim
  | load t a =>
    simp only [resP] at hc
    split at hc
    · rename_i ht; exact sim_load e ht (hρ a) hc
    · exact (bad_none hc).elim
  | store t a x =>
    simp only [resP] at hc
    split at hc
    · rename_i ht; exact sim_store e ht (hρ a) (hρ x) hc
    · exact (bad_none hc).elim
  | ready g => exact (bad_none hc).elim
  | waits g => exact (bad_none hc).elim
  | nilCheck x =>
    simp only [resP, cop] at hc
    split at hc
    · rename_i a ha
      simp only [Option.some.injEq, Prod.mk.injEq] at hc
      obtain ⟨rfl, rfl⟩ := hc
      have hx := hρ x
      rw [ha] at hx
      refine sim_nilCheck (x' := ρ' x) e hx rfl fun a' ha' => ?_
      simp only [execOp, ha']
    · simp at hc
  | binOp op t x y yt =>
    simp only [resP] at hc
    split at hc
    · exact sim_bin e op t x y (hρ x) (hρ y) hc
    · exact sim_bin e op t x y (hρ x) (hρ y) hc
    · rename_i hu
      split at hc
      · exact sim_eqK e _ t x y hu .bool trivial false rfl (hρ x) (hρ y) hc
      · exact sim_eqK e _ t x y hu .bool trivial true rfl (hρ x) (hρ y) hc
      · exact (bad_none hc).elim
    · rename_i hu
      split at hc
      · rename_i hi
        split at hc
        · exact sim_eqK e _ t x y hu .ptr hi false rfl (hρ x) (hρ y) hc
        · exact sim_eqK e _ t x y hu .ptr hi true rfl (hρ x) (hρ y) hc
        · exact (bad_none hc).elim
      · exact (bad_none hc).elim
    · rename_i hu
      split at hc
      · exact sim_eqK e _ t x y hu .slice trivial false rfl (hρ x) (hρ y) hc
      · exact sim_eqK e _ t x y hu .slice trivial true rfl (hρ x) (hρ y) hc
      · exact (bad_none hc).elim
    · rename_i hu
      split at hc
      · exact sim_eqK e _ t x y hu .map trivial false rfl (hρ x) (hρ y) hc
      · exact sim_eqK e _ t x y hu .map trivial true rfl (hρ x) (hρ y) hc
      · exact (bad_none hc).elim
    · rename_i hu
      split at hc
      · exact sim_eqK e _ t x y hu .func trivial false rfl (hρ x) (hρ y) hc
      · exact sim_eqK e _ t x y hu .func trivial true rfl (hρ x) (hρ y) hc
      · exact (bad_none hc).elim
    · split at hc
      · rename_i ks hks
        split at hc
        · exact sim_eqAgg e _ t x y hks false rfl (hρ x) (hρ y) hc
        · exact sim_eqAgg e _ t x y hks true rfl (hρ x) (hρ y) hc
        · exact (bad_none hc).elim
      · exact (bad_none hc).elim
    · exact (bad_none hc).elim
  | unOp op t x => exact sim_un e op (hρ x) hc
  | convert s d x =>
    simp only [resP] at hc
    split at hc
    · rename_i hs hd; exact sim_conv e hs hd (hρ x) hc
    · rename_i hs hd; exact sim_convSame e hs hd (hρ x) hc
    · rename_i t' hs hd
      split at hc
      · rename_i h8
        split at hc
        · rename_i h1c
          have hn : h1.next = h.next + 1 := by
            have hc2 := hc
            simp only [cop] at hc2
            split at hc2
            · simp only [Option.some.injEq, Prod.mk.injEq] at hc2; rw [← hc2.2]; rfl
            · simp at hc2
          exact sim_toBytes e (hfn hn) hs hd h8 h1c (hρ x) hc
        · exact (bad_none hc).elim
      · exact (bad_none hc).elim
    · rename_i t' hs hd
      split at hc
      · rename_i h8; exact sim_toStr e hs hd h8 (hρ x) hc
      · exact (bad_none hc).elim
    · rename_i t' hs hd
      split at hc
      · rename_i hk; exact sim_toUnsafe e hs hd hk (hρ x) hc
      · exact (bad_none hc).elim
    · rename_i t' hs hd
      split at hc
      · rename_i hk; exact sim_fromUnsafe e hs hd hk (hρ x) hc
      · exact (bad_none hc).elim
    · exact (bad_none hc).elim
  | sliceToArrayPointer t x => exact (bad_none hc).elim
  | makeInterface t x => exact (bad_none hc).elim
  | makeFunc fn first captured =>
    cases fn with
    | func f =>
      simp only [resP, cop, Option.some.injEq, Prod.mk.injEq] at hc
      obtain ⟨rfl, rfl⟩ := hc
      refine Did.same (s := Instr.makeFunc (.func f) (first.map ρ') (captured.map ρ')) e rfl (VR.func_of ?_ ?_)
      · simpa using list_rel hρ first.toList
      · simpa using list_rel hρ captured.toList
    | _ => exact (bad_none hc).elim
  | makeMap t r =>
    cases r with
    | none =>
      simp only [resP, cop, Option.some.injEq, Prod.mk.injEq] at hc
      obtain ⟨rfl, rfl⟩ := hc
      exact sim_makeMap e (hfn rfl) (by simp [Instr.makeMap])
    | some x =>
      cases x with
      | const y =>
        cases y with
        | int k n =>
          simp only [resP] at hc
          split at hc
          · rename_i q t' ht
            simp only [cop, Option.some.injEq, Prod.mk.injEq] at hc
            obtain ⟨rfl, rfl⟩ := hc
            refine sim_makeMap e (hfn rfl) ?_
            simp [Instr.makeMap, run_underlying' w ht, hcst, asInt, asIntOf]
          · exact (bad_none hc).elim
        | _ => exact (bad_none hc).elim
      | _ => exact (bad_none hc).elim
  | makeChan t x => exact (bad_none hc).elim
  | makeSlice t l c =>
    simp only [resP] at hc
    split at hc
    · rename_i t' ht
      split at hc
      · rename_i z hz
        have hc2 := hc
        simp only [cop] at hc2
        have hn : h1.next = h.next + 1 := by
          split at hc2
          · split at hc2
            · simp only [Option.some.injEq, Prod.mk.injEq] at hc2; rw [← hc2.2]; rfl
            · simp at hc2
          · simp at hc2
        exact sim_makeSlice e (hfn hn) ht hz (hρ l) (hρ c) hc
      · exact (bad_none hc).elim
    · exact (bad_none hc).elim
  | slice t x lo hi mx =>
    cases mx with
    | some y => exact (bad_none hc).elim
    | none =>
      simp only [resP] at hc
      obtain ⟨l1, l2⟩ := opt_rel hρ lo
      obtain ⟨k1, k2⟩ := opt_rel hρ hi
      split at hc
      · rename_i ht; exact sim_sliceStr e ht (hρ x) l1 l2 k1 k2 hc
      · rename_i t' ht
        split at hc
        · rename_i hft; exact sim_slice e ht hft (hρ x) l1 l2 k1 k2 hc
        · exact (bad_none hc).elim
      · rename_i n t' ht
        split at hc
        · rename_i hft; exact sim_sliceArr e ht hft (hρ x) l1 l2 k1 k2 hc
        · exact (bad_none hc).elim
      · exact (bad_none hc).elim
  | fieldAddr t x i =>
    simp only [resP] at hc
    split at hc
    · rename_i fs ht
      split at hc
      · rename_i f hff
        split at hc
        · exact (bad_none hc).elim
        · rename_i hz; exact sim_fieldAddr e ht hff hz (hρ x) hc
      · exact (bad_none hc).elim
    · exact (bad_none hc).elim
  | field t x i =>
    simp only [resP] at hc
    split at hc
    · rename_i fs ht
      split at hc
      · rename_i f hff
        split at hc
        · rename_i hft; exact sim_field e ht hff hft (hρ x) hc
        · exact (bad_none hc).elim
      · exact (bad_none hc).elim
    · exact (bad_none hc).elim
  | indexAddr t x i =>
    simp only [resP] at hc
    split at hc
    · rename_i t' ht
      split at hc
      · rename_i hft; exact sim_indexSl e ht hft (hρ x) (hρ i) hc
      · exact (bad_none hc).elim
    · rename_i n t' ht
      split at hc
      · rename_i hft; exact sim_indexArr e ht hft (hρ x) (hρ i) hc
      · exact (bad_none hc).elim
    · exact (bad_none hc).elim
  | index t x i =>
    simp only [resP] at hc
    split at hc
    · rename_i ht; exact sim_indexStr e ht (hρ x) (hρ i) hc
    · rename_i n t' ht
      split at hc
      · rename_i hft; exact sim_indexAgg e ht hft (hρ x) (hρ i) hc
      · exact (bad_none hc).elim
    · exact (bad_none hc).elim
  | lookup t mm k ok =>
    simp only [resP] at hc
    split at hc
    · rename_i q t' ht
      split at hc
      · rename_i z kk hz hk; exact sim_lookup e ht hz hk ok (hρ mm) (hρ k) hc
      · exact (bad_none hc).elim
    · exact (bad_none hc).elim
  | mapUpdate t mm k x =>
    simp only [resP] at hc
    split at hc
    · rename_i q t' ht
      split at hc
      · rename_i kk hk; exact sim_mapUpdate e ht hk (hρ mm) (hρ k) (hρ x) hc
      · exact (bad_none hc).elim
    · exact (bad_none hc).elim
  | mapEntry t mm k =>
    simp only [resP] at hc
    split at hc
    · rename_i q t' ht
      split at hc
      · rename_i z kk hz hk; exact sim_mapEntry e ht hz hk (hρ mm) (hρ k) hc
      · exact (bad_none hc).elim
    · exact (bad_none hc).elim
  | entryStore t mm s x => exact sim_entryStore e t (hρ mm) (hρ s) (hρ x) hc
  | range t x =>
    simp only [resP] at hc
    split at hc
    · rename_i ht
      have hn : h1.next = h.next + 1 := by
        have hc2 := hc
        simp only [cop] at hc2
        split at hc2
        · simp only [Option.some.injEq, Prod.mk.injEq] at hc2; rw [← hc2.2]; rfl
        · simp at hc2
      exact sim_range e (hfn hn) ht (hρ x) hc
    · rename_i q t' ht
      have hn : h1.next = h.next + 1 := by
        have hc2 := hc
        simp only [cop] at hc2
        split at hc2
        · simp only [Option.some.injEq, Prod.mk.injEq] at hc2; rw [← hc2.2]; rfl
        · split at hc2
          · simp only [Option.some.injEq, Prod.mk.injEq] at hc2; rw [← hc2.2]; rfl
          · simp at hc2
        · simp at hc2
      exact sim_rangeMap e (hfn hn) ht (hρ x) hc
    · exact (bad_none hc).elim
  | next x isS =>
    cases isS with
    | true => exact sim_nextStr e type (hρ x) hc
    | false => exact (bad_none hc).elim
  | entry x => exact (bad_none hc).elim
  | typeAssert x a b ok => exact (bad_none hc).elim
  | extract x i => exact sim_extract e (hρ x) hc
  | call c =>
    obtain ⟨callee, args, ts⟩ := c
    cases callee with
    | value f => exact (bad_none hc).elim
    | invoke r mth => exact (bad_none hc).elim
    | builtin b =>
      have hrun : ∀ (s : Sem Value), builtin b ts type (args.map fun | .const _ => true | _ => false) (args.map ρ') = valOf s → Did P S m h w (valOf s) v h1 → Did P S m h w (execOp ρ' ⟨dst, .call ⟨.builtin b, args, ts⟩, type, pos, after, guard⟩) v h1 := by
        intro s hs hd
        have : execOp ρ' ⟨dst, .call ⟨.builtin b, args, ts⟩, type, pos, after, guard⟩ = valOf s := by
          rw [← hs]; rfl
        rw [this]; exact hd
      have ha2 : ∀ l, args.toList = l → args.map ρ' = (l.map ρ').toArray := by
        intro l hl; apply Array.ext'; simp [hl]
      simp only [resP] at hc
      split at hc
      · rename_i x t rest hargs hts
        have ha := ha2 _ hargs
        have hat : ts[0]? = some t := by rw [← Array.getElem?_toList, hts]; rfl
        split at hc
        · rename_i ht
          simp only [cop] at hc
          have hx := hρ x
          split at hc
          · rename_i s hs
            simp only [Option.some.injEq, Prod.mk.injEq] at hc
            obtain ⟨rfl, rfl⟩ := hc
            rw [hs] at hx
            have hx' := hx.string_inv
            refine hrun _ rfl (Did.same e (v' := goInt s.size) ?_ (.int _ _))
            simp [Builtin.len_, hat, ha, hx', run_underlying' w ht, goInt, Go.goInt]
          · simp at hc
        · rename_i ht
          simp only [cop] at hc
          have hx := hρ x
          split at hc
          · rename_i a n c hs
            simp only [Option.some.injEq, Prod.mk.injEq] at hc
            obtain ⟨rfl, rfl⟩ := hc
            rw [hs] at hx
            have hx' : ∃ a' c', ρ' x = .slice a' n c' := by
              cases a with
              | none => exact ⟨none, c, hx.nilSlice_inv⟩
              | some a =>
                rcases hx.slice_inv with ⟨b, o, c', L, rfl, hb, hn, hcc, hg, h5⟩ | ⟨rfl, rfl, _, a', h5, L0, hL0⟩
                · exact ⟨_, _, h5⟩
                · exact ⟨_, _, h5⟩
            obtain ⟨a', c', hx'⟩ := hx'
            refine hrun _ rfl (Did.same e (v' := goInt n) ?_ (.int _ _))
            simp [Builtin.len_, hat, ha, hx', run_underlying' w ht, goInt, Go.goInt]
          · simp at hc
        · rename_i ht
          simp only [cop] at hc
          have hx := hρ x
          split at hc
          · rename_i hs
            simp only [Option.some.injEq, Prod.mk.injEq] at hc
            obtain ⟨rfl, rfl⟩ := hc
            rw [hs] at hx
            have hx' := hx.nilMap_inv
            refine hrun _ rfl (Did.same e (v' := goInt 0) ?_ (.int _ _))
            simp [Builtin.len_, hat, ha, hx', run_underlying' w ht, goInt, Go.goInt]
          · rename_i r hs
            rw [hs] at hx
            obtain ⟨L, hr, hx'⟩ := hx.map_inv
            split at hc
            · rename_i es clock ho
              simp only [Option.some.injEq, Prod.mk.injEq] at hc
              obtain ⟨rfl, rfl⟩ := hc
              obtain ⟨es', hblk, he⟩ := obj_map e hr ho
              have hgo := run_getObj' (P := P) hblk (by simp)
              have hl := he.1
              refine hrun _ rfl (Did.same e (v' := goInt es.length) ?_ (.int _ _))
              simp at hl
              simp [Builtin.len_, hat, ha, hx', run_underlying' w ht, hgo, goInt, Go.goInt, hl]
            · simp at hc
          · simp at hc
        · rename_i n t' ht
          simp only [cop, Option.some.injEq, Prod.mk.injEq] at hc
          obtain ⟨rfl, rfl⟩ := hc
          refine hrun _ rfl (Did.same e (v' := .int .i64 n) ?_ (.int _ _))
          simp [Builtin.len_, hat, ha, run_underlying' w ht, Go.goInt]
        · exact (bad_none hc).elim
      · rename_i x y t u hargs hts
        have ha := ha2 _ hargs
        have hts2 : ts = #[t, u] := by apply Array.ext'; simp [hts]
        split at hc
        · exact (bad_none hc).elim
        · rename_i t' d hnot ht hu
          split at hc
          · rename_i z hz
            refine hrun _ rfl ?_
            rw [hts2, ha]
            exact sim_append e ht hu (fun k hk => by subst hk; exact hnot k rfl) hz type (hρ x) (hρ y) hc hf
          · exact (bad_none hc).elim
        · exact (bad_none hc).elim
      · rename_i x y t rest hargs hts
        have ha := ha2 _ hargs
        have hat : ts[0]? = some t := by rw [← Array.getElem?_toList, hts]; rfl
        split at hc
        · rename_i t' ht
          split at hc
          · rename_i hft
            refine hrun _ rfl ?_
            rw [ha]
            exact sim_copy e ht hft ts hat type (hρ x) (hρ y) hc
          · exact (bad_none hc).elim
        · exact (bad_none hc).elim
      · rename_i x t rest hargs hts
        have ha := ha2 _ hargs
        have hat : ts[0]? = some t := by rw [← Array.getElem?_toList, hts]; rfl
        split at hc
        · rename_i t' ht
          split at hc
          · rename_i z hz
            refine hrun _ rfl ?_
            rw [ha]
            exact sim_clearSl e ht hz ts hat type (hρ x) hc
          · exact (bad_none hc).elim
        · exact (bad_none hc).elim
      · rename_i x t rest hargs hts
        have ha := ha2 _ hargs
        split at hc
        · refine hrun _ rfl ?_
          rw [ha]
          exact sim_sliceData e ts type (hρ x) hc
        · exact (bad_none hc).elim
      · rename_i x y t t2 hargs hts
        have ha := ha2 _ hargs
        have hts2 : ts = #[t, t2] := by apply Array.ext'; simpa using hts
        split at hc
        · rename_i e' hpt
          split at hc
          · split at hc
            · rename_i hcz
              refine hrun _ rfl ?_
              rw [hts2, ha]
              exact sim_unsafeStr e hpt hcz (hρ x) (hρ y) hc
            · exact (bad_none hc).elim
          · exact (bad_none hc).elim
        · exact (bad_none hc).elim
      · refine hrun _ rfl ?_
        exact sim_minmax e false ts type (xs' := args.map ρ') (by simpa using list_rel hρ args.toList) hc
      · refine hrun _ rfl ?_
        exact sim_minmax e true ts type (xs' := args.map ρ') (by simpa using list_rel hρ args.toList) hc
      · exact (bad_none hc).elim
  | go c => exact (bad_none hc).elim
  | defer c => exact (bad_none hc).elim
  | panic x => exact (bad_none hc).elim
  | send c x => exact (bad_none hc).elim
  | recv t c ok => exact (bad_none hc).elim
  | select cs b => exact (bad_none hc).elim
end
end Go.Proofs.Ytekojjilbchkgaa.Can
