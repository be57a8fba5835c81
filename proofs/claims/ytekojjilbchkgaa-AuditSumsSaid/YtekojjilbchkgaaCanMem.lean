/- Reading and writing of memory, in the canonical machine and in the program's. No condition. -/
import Derived.Test.YtekojjilbchkgaaCanRel
import Derived.ChangeKeysEq
import Derived.Laws.Entries
namespace Go.Proofs.Ytekojjilbchkgaa.Can
open Go

theorem getElem?_drop_take {α : Type} (l : List α) (a n i : Nat) (h : i < n) : ((l.drop a).take n)[i]? = l[a + i]? := by
  rw [List.getElem?_take, if_pos h, List.getElem?_drop]

theorem obj_cells0 {P : Program} {S : Stay} {m : Map} {h : Heap} {w : World} (e : Emb P S m h w) {b : Nat} {L : Loc} (hb : m b = some L) {c : List Value} {t : TypeId} {g : How} (ho : h.obj b = .cells c t g) :
    (c = [] ∧ g = .ro ∧ L.grow = false) ∨ ∃ (c' : Array Value) (fr : Nat × Nat), w.heap[L.blk]? = some (.cells c' t fr) ∧ c'.size = L.tot ∧ L.sh + c.length ≤ L.tot ∧
      VL m c ((c'.toList.drop L.sh).take c.length) ∧ (g ≠ .ro → ∀ i, i < L.tot → ¬ (fr.1 ≤ i ∧ i < fr.2)) ∧ L.unit = P.cellsOf t ∧ L.grow = (g == .grow) ∧ (g ≠ .ro → c.all scalar = true) ∧ (g = .fix → L.sh = 0 ∧ L.tot = c.length) := by
  have := e.obj b L hb
  rw [ho] at this
  exact this
theorem obj_cells {P : Program} {S : Stay} {m : Map} {h : Heap} {w : World} (e : Emb P S m h w) {b : Nat} {L : Loc} (hb : m b = some L) {c : List Value} {t : TypeId} {g : How} (ho : h.obj b = .cells c t g) (hne : g ≠ .ro ∨ c ≠ []) :
    ∃ (c' : Array Value) (fr : Nat × Nat), w.heap[L.blk]? = some (.cells c' t fr) ∧ c'.size = L.tot ∧ L.sh + c.length ≤ L.tot ∧
      VL m c ((c'.toList.drop L.sh).take c.length) ∧ (g ≠ .ro → ∀ i, i < L.tot → ¬ (fr.1 ≤ i ∧ i < fr.2)) ∧ L.unit = P.cellsOf t ∧ L.grow = (g == .grow) ∧ (g ≠ .ro → c.all scalar = true) ∧ (g = .fix → L.sh = 0 ∧ L.tot = c.length) := by
  rcases obj_cells0 e hb ho with ⟨h1, h2, _⟩ | h
  · exact absurd h2 (hne.resolve_right (fun h => h h1))
  · exact h
theorem obj_grow {P : Program} {S : Stay} {m : Map} {h : Heap} {w : World} (e : Emb P S m h w) {b : Nat} {L : Loc} (hb : m b = some L) {c : List Value} {t : TypeId} {g : How} (ho : h.obj b = .cells c t g) : L.grow = (g == .grow) := by
  rcases obj_cells0 e hb ho with ⟨_, h2, h3⟩ | ⟨_, _, _, _, _, _, _, _, h, _⟩
  · rw [h3, h2]; rfl
  · exact h

theorem get_sim {P : Program} {S : Stay} {m : Map} {h : Heap} {w : World} (e : Emb P S m h w) {b : Nat} {L : Loc} (hb : m b = some L) {o : Nat} {v : Value} (hg : (h.obj b).get o = some v) :
    ∃ v', w.cell? ⟨L.blk, L.sh + o, none⟩ = some v' ∧ VR m v v' := by
  cases ho : h.obj b with
  | cells c t g =>
    rw [ho] at hg
    obtain ⟨c', fr, h1, h2, h3, h4, h5⟩ := obj_cells e hb ho (.inr (by rintro rfl; simp [Obj.get] at hg))
    obtain ⟨v', hv', hr⟩ := h4.get hg
    refine ⟨v', ?_, hr⟩
    have hlt : o < c.length := by
      rcases Nat.lt_or_ge o c.length with h | h
      · exact h
      · simp only [Obj.get] at hg; rw [List.getElem?_eq_none h] at hg; simp at hg
    rw [getElem?_drop_take _ _ _ _ hlt] at hv'
    simp only [World.cell?, h1]
    simpa using hv'
  | _ => rw [ho] at hg; simp [Obj.get] at hg

theorem read_sim {P : Program} {S : Stay} {m : Map} {h : Heap} {w : World} (e : Emb P S m h w) {b : Nat} {L : Loc} (hb : m b = some L) {o n : Nat} {cs : List Value} (hg : (h.obj b).read o n = some cs) :
    cs.length = n ∧ ∃ cs', VL m cs cs' ∧ ∀ (j : Nat) (v : Value), cs'[j]? = some v → w.cell? ⟨L.blk, L.sh + o + j, none⟩ = some v := by
  cases ho : h.obj b with
  | cells c t g =>
    rw [ho] at hg
    simp only [Obj.read] at hg
    split at hg
    · rename_i hle
      obtain rfl := Option.some.inj hg
      rcases obj_cells0 e hb ho with ⟨rfl, _⟩ | ⟨c', fr, h1, h2, h3, h4, h5⟩
      · have hle' : o + n ≤ 0 := hle
        exact ⟨by simp; omega, [], by simpa using VL.nil m, fun j v hj => by simp at hj⟩
      refine ⟨by simp; omega, ((((c'.toList.drop L.sh).take c.length).drop o).take n), (h4.drop o).take n, fun j v hj => ?_⟩
      rw [List.getElem?_take] at hj
      split at hj
      · rename_i hjn
        rw [List.getElem?_drop, getElem?_drop_take _ _ _ _ (by omega)] at hj
        simp only [World.cell?, h1]
        rw [Nat.add_assoc]
        simpa using hj
      · simp at hj
    · simp at hg
  | _ => rw [ho] at hg; simp [Obj.read] at hg

theorem run_loadCells_sim {P : Program} {w : World} {blk o : Nat} {cs : List Value} (h : ∀ (j : Nat) (v : Value), cs[j]? = some v → w.cell? ⟨blk, o + j, none⟩ = some v) :
    (loadCells ⟨blk, o, none⟩ cs.length).run P w = .ok cs.toArray w := by
  refine run_loadCells_list w _ cs fun j v hj => ?_
  have hadd : (⟨blk, o, none⟩ : Addr).add j = ⟨blk, o + j, none⟩ := by unfold Addr.add; split <;> simp_all
  rw [hadd]; exact h j v hj

/-- Cells stored one behind the other. -/
theorem run_storeCells_sim (P : Program) (g o : Nat) (t : TypeId) (fr : Nat × Nat) : ∀ (vs : List Value) (i : Nat) (cur : Array Value) (w : World), w.heap[g]? = some (.cells cur t fr) → o + i + vs.length ≤ cur.size →
    (∀ j, j < cur.size → ¬ (fr.1 ≤ j ∧ j < fr.2)) → (∀ v ∈ vs, v.oneCell' = true) →
    ∃ cur', (storeCells ⟨g, o, none⟩ vs i).run P w = .ok () (w.setRow g cur') ∧ cur'.toList = setAt cur.toList (o + i) vs
  | [], i, cur, w, hg, _, _, _ => by
    refine ⟨cur, ?_, rfl⟩
    simp only [storeCells]
    have : w.setRow g cur = w := by
      simp only [World.setRow]
      have hlt : g < w.heap.size := by
        rcases Nat.lt_or_ge g w.heap.size with h | h
        · exact h
        · rw [Array.getElem?_eq_none h] at hg; simp at hg
      congr 1
      apply Array.ext'
      apply List.ext_getElem?
      intro k
      simp only [Array.getElem?_toList, Array.getElem?_modify]
      split
      · rename_i hk; subst hk; rw [hg]; rfl
      · rfl
    rw [this]; rfl
  | v :: rest, i, cur, w, hg, hl, hfr, h1 => by
    have hi : o + i < cur.size := by simp at hl; omega
    have hadd : (⟨g, o, none⟩ : Addr).add i = ⟨g, o + i, none⟩ := by unfold Addr.add; split <;> simp_all
    have hcell : w.cell? ⟨g, o + i, none⟩ = some cur[o + i] := by simp [World.cell?, hg, hi]
    have hfro : w.frozen? ⟨g, o + i, none⟩ = false := by
      have := hfr (o + i) hi
      simp only [World.frozen?, hg]
      simpa using this
    have hst : (store ((⟨g, o, none⟩ : Addr).add i) v).run P w = .ok () (w.setRow g (cur.setIfInBounds (o + i) v)) := by
      rw [hadd, run_store P w _ v _ (h1 v (by simp)), hcell]
      simp [hfro, setCell_eq_setRow w g (o + i) cur t fr v hg]
    obtain ⟨cur', hrun, hcur⟩ := run_storeCells_sim P g o t fr rest (i + 1) (cur.setIfInBounds (o + i) v) (w.setRow g (cur.setIfInBounds (o + i) v))
      (setRow_heap w g cur _ t _ hg) (by simp at hl ⊢; omega) (by simpa using hfr) (fun x hx => h1 x (by simp [hx]))
    refine ⟨cur', ?_, ?_⟩
    · simp only [storeCells, Sem.run_bind, hst, Result.andThen_ok, hrun, setRow_setRow]
    · rw [hcur]; simp [setAt, Nat.add_assoc]

theorem setAt_length : ∀ (vs c : List Value) (o : Nat), (setAt c o vs).length = c.length
  | [], _, _ => rfl
  | v :: vs, c, o => by rw [setAt, setAt_length vs]; simp

theorem setAt_drop_take : ∀ (vs l : List Value) (s o n : Nat), o + vs.length ≤ n → s + n ≤ l.length →
    ((setAt l (s + o) vs).drop s).take n = setAt ((l.drop s).take n) o vs
  | [], _, _, _, _, _, _ => rfl
  | v :: vs, l, s, o, n, h1, h2 => by
    simp only [List.length_cons] at h1
    simp only [setAt]
    rw [show s + o + 1 = s + (o + 1) from by omega, setAt_drop_take vs (l.set (s + o) v) s (o + 1) n (by omega) (by simpa using h2)]
    congr 1
    apply List.ext_getElem?
    intro k
    by_cases hk : k < n
    · rw [getElem?_drop_take _ _ _ _ hk, List.getElem?_set, List.getElem?_set, getElem?_drop_take _ _ _ _ hk]
      by_cases hko : o = k
      · subst hko; rw [if_pos rfl, if_pos rfl, if_pos (by omega), if_pos (by simp; omega)]
      · rw [if_neg (by omega), if_neg hko]
    · rw [List.getElem?_eq_none (by simp; omega), List.getElem?_eq_none (by simp; omega)]

theorem setAt_all : ∀ (vs c : List Value) (o : Nat), c.all scalar = true → vs.all scalar = true → (setAt c o vs).all scalar = true
  | [], _, _, h, _ => h
  | v :: vs, c, o, h, k => by
    simp only [List.all_cons, Bool.and_eq_true] at k
    refine setAt_all vs _ _ ?_ k.2
    rw [List.all_eq_true] at h ⊢
    intro x hx
    rcases List.mem_or_eq_of_mem_set hx with h1 | h1
    · exact h x h1
    · rw [h1]; exact k.1

theorem write_sim {P : Program} {S : Stay} {m : Map} {h : Heap} {w : World} (e : Emb P S m h w) {b : Nat} {L : Loc} (hb : m b = some L) {o : Nat} {vs vs' : List Value} {ob : Obj}
    (hg : (h.obj b).write o vs = some ob) (hv : VL m vs vs') (h1 : ∀ v ∈ vs', v.oneCell' = true) (hs : vs.all scalar = true) :
    ∃ w1, (storeCells ⟨L.blk, L.sh + o, none⟩ vs').run P w = .ok () w1 ∧ Out P S m h w m (h.upd b ob) w1 := by
  cases ho : h.obj b with
  | cells c t g =>
    rw [ho] at hg
    obtain ⟨c', fr, k1, k2, k3, k4, k5, k6, k7, k8, k9⟩ := obj_cells e hb ho (.inl (by rintro rfl; simp [Obj.write] at hg))
    simp only [Obj.write] at hg
    split at hg
    · simp at hg
    · rename_i hro
      split at hg
      · rename_i hle
        obtain rfl := Option.some.inj hg
        have hlen := hv.1
        obtain ⟨cur', hrun, hcur⟩ := run_storeCells_sim P L.blk (L.sh + o) t fr vs' 0 c' w k1 (by omega) (by rw [k2]; exact k5 hro) h1
        refine ⟨_, hrun, Out.upd e b L _ hb (by rw [ho]; cases g <;> simp_all [Obj.wr]) (fun k hk => setRow_other w _ k _ hk) (by simp) rfl rfl rfl ?_⟩
        have hsz : cur'.size = c'.size := by
          have := congrArg List.length hcur
          rw [setAt_length] at this; simpa using this
        refine .inr ⟨cur', fr, setRow_heap w _ c' _ t fr k1, by omega, by rw [setAt_length]; exact k3, ?_, k5, k6, k7, fun hg' => setAt_all _ _ _ (k8 hg') hs, fun hg' => ⟨(k9 hg').1, by rw [setAt_length]; exact (k9 hg').2⟩⟩
        rw [hcur, setAt_length, Nat.add_zero]
        rw [setAt_drop_take vs' c'.toList L.sh o c.length (by omega) (by simp; omega)]
        exact VL.setAt o k4 hv
      · simp at hg
  | _ => rw [ho] at hg; simp [Obj.write] at hg

theorem oneCell_of_scalar {m : Map} {v v' : Value} (h : VR m v v') (hs : scalar v = true) : v'.oneCell' = true := by
  cases h <;> first | rfl | (exact absurd hs Bool.false_ne_true)

theorem oneCell_all {m : Map} : ∀ {a b : List Value}, VL m a b → a.all scalar = true → ∀ v ∈ b, v.oneCell' = true
  | [], b, h, _, v, hv => by rw [h.of_nil] at hv; simp at hv
  | a :: as, l, h, hs, v, hv => by
    obtain ⟨b, bs, rfl, h1, h2⟩ := h.of_cons
    simp only [List.all_cons, Bool.and_eq_true] at hs
    rcases List.mem_cons.1 hv with rfl | hv
    · exact oneCell_of_scalar h1 hs.1
    · exact oneCell_all h2 hs.2 v hv

/-- A value's cells, on both sides. -/
theorem flat_sim {m : Map} {v v' : Value} (h : VR m v v') {cs : List Value} (hf : flat v = some cs) :
    VL m cs v'.cells.toList ∧ (∀ x ∈ v'.cells.toList, x.oneCell' = true) ∧ v'.cells.size = cs.length ∧ cs.all scalar = true := by
  have key : VL m cs v'.cells.toList ∧ cs.all scalar = true := by
    cases h with
    | agg a a' ha hav =>
      simp only [flat] at hf
      split at hf
      · rename_i hs
        obtain rfl := Option.some.inj hf
        exact ⟨⟨by simpa [Value.cells] using ha, fun i x y hx hy => hav i x y (by simpa using hx) (by simpa [Value.cells] using hy)⟩, hs⟩
      · simp at hf
    | tuple a a' ha hav => simp [flat] at hf
    | unk v => simp [flat, unk] at hf
    | bool b => obtain rfl := Option.some.inj hf; exact ⟨VL.cons (.bool b) (VL.nil m), rfl⟩
    | int k n => obtain rfl := Option.some.inj hf; exact ⟨VL.cons (.int k n) (VL.nil m), rfl⟩
    | float k n => obtain rfl := Option.some.inj hf; exact ⟨VL.cons (.float k n) (VL.nil m), rfl⟩
    | complex k a b => obtain rfl := Option.some.inj hf; exact ⟨VL.cons (.complex k a b) (VL.nil m), rfl⟩
    | string s => obtain rfl := Option.some.inj hf; exact ⟨VL.cons (.string s) (VL.nil m), rfl⟩
    | nilPtr => obtain rfl := Option.some.inj hf; exact ⟨VL.cons .nilPtr (VL.nil m), rfl⟩
    | ptr b o L hb => obtain rfl := Option.some.inj hf; exact ⟨VL.cons (.ptr b o L hb) (VL.nil m), rfl⟩
    | nilSlice n c => obtain rfl := Option.some.inj hf; exact ⟨VL.cons (.nilSlice n c) (VL.nil m), rfl⟩
    | slice b o n c c' L hb hn hc hg => obtain rfl := Option.some.inj hf; exact ⟨VL.cons (.slice b o n c c' L hb hn hc hg) (VL.nil m), rfl⟩
    | slice0 b o L a' hb => obtain rfl := Option.some.inj hf; exact ⟨VL.cons (.slice0 b o L a' hb) (VL.nil m), rfl⟩
    | nilMap => obtain rfl := Option.some.inj hf; exact ⟨VL.cons .nilMap (VL.nil m), rfl⟩
    | map r L hr => obtain rfl := Option.some.inj hf; exact ⟨VL.cons (.map r L hr) (VL.nil m), rfl⟩
    | nilFunc => obtain rfl := Option.some.inj hf; exact ⟨VL.cons .nilFunc (VL.nil m), rfl⟩
    | func f a a' c c' h1 h2 h3 h4 => obtain rfl := Option.some.inj hf; exact ⟨VL.cons (.func f a a' c c' h1 h2 h3 h4) (VL.nil m), rfl⟩
    | nilIface => obtain rfl := Option.some.inj hf; exact ⟨VL.cons .nilIface (VL.nil m), rfl⟩
    | iface t a a' ha => obtain rfl := Option.some.inj hf; exact ⟨VL.cons (.iface t a a' ha) (VL.nil m), rfl⟩
  refine ⟨key.1, oneCell_all key.1 key.2, ?_, key.2⟩
  have := key.1.1
  simpa using this.symm

theorem scalar_of_self {v : Value} (h : selfS v = true) : scalar v = true := by
  cases v <;> first | rfl | (exact absurd h Bool.false_ne_true)
theorem scalars_of_self {l : List Value} (h : l.all selfS = true) : l.all scalar = true := by
  rw [List.all_eq_true] at h ⊢
  exact fun x hx => scalar_of_self (h x hx)
theorem all_drop_take {l : List Value} (h : l.all scalar = true) (a n : Nat) : ((l.drop a).take n).all scalar = true := by
  rw [List.all_eq_true] at h ⊢
  exact fun x hx => h x (List.mem_of_mem_drop (List.mem_of_mem_take hx))
theorem src_read {ob : Obj} {o n : Nat} {cs : List Value} (h : ob.src o n = some cs) : ob.read o n = some cs := by
  cases ob with
  | cells c t g =>
    cases g with
    | ro =>
      simp only [Obj.src] at h
      split at h
      · rename_i hc; rw [Obj.read, if_pos hc.1]; exact h
      · simp at h
    | fix => exact h
    | grow => exact h
  | _ => simp [Obj.src] at h
/-- The cells that are read to be copied are cells. -/
theorem src_all {P : Program} {S : Stay} {m : Map} {h : Heap} {w : World} (e : Emb P S m h w) {b : Nat} {L : Loc} (hb : m b = some L) {o n : Nat} {cs : List Value} (hg : (h.obj b).src o n = some cs) : cs.all scalar = true := by
  cases ho : h.obj b with
  | cells c t g =>
    rw [ho] at hg
    cases g with
    | ro =>
      simp only [Obj.src] at hg
      split at hg
      · rename_i hc
        obtain rfl := Option.some.inj hg
        exact hc.2
      · simp at hg
    | fix =>
      obtain ⟨c', fr, h1, h2, h3, h4, h5, h6, h7, h8, _⟩ := obj_cells e hb ho (.inl (by simp))
      simp only [Obj.src] at hg
      split at hg
      · obtain rfl := Option.some.inj hg
        exact all_drop_take (h8 (by simp)) _ _
      · simp at hg
    | grow =>
      obtain ⟨c', fr, h1, h2, h3, h4, h5, h6, h7, h8, _⟩ := obj_cells e hb ho (.inl (by simp))
      simp only [Obj.src] at hg
      split at hg
      · obtain rfl := Option.some.inj hg
        exact all_drop_take (h8 (by simp)) _ _
      · simp at hg
  | _ => rw [ho] at hg; simp [Obj.src] at hg

/-! ### what the types say -/
section
variable {P : Program} (w : World)
theorem info_of {t : TypeId} {d : TypeDesc} (h : P.underlying t = some d) : ∃ i, P.info? t = some i := by
  unfold Program.underlying at h
  cases hi : P.info? t with
  | none => rw [hi] at h; simp at h
  | some i => exact ⟨i, rfl⟩
theorem hasT_info {t : TypeId} (h : hasT P t = true) : ∃ d i, P.underlying t = some d ∧ P.info? t = some i := by
  unfold hasT at h
  cases hu : P.underlying t with
  | none => rw [hu] at h; simp at h
  | some d => obtain ⟨i, hi⟩ := info_of hu; exact ⟨d, i, rfl, hi⟩
theorem run_sizeOf' {t : TypeId} {i : TypeInfo} (h : P.info? t = some i) : (sizeOf t).run P w = .ok (P.cellsOf t) w := by
  simp [sizeOf, typeInfo, h, Program.cellsOf]
theorem run_typeInfo' {t : TypeId} {i : TypeInfo} (h : P.info? t = some i) : (typeInfo t).run P w = .ok i w := by
  simp [typeInfo, h]
theorem run_underlying' {t : TypeId} {d : TypeDesc} (h : P.underlying t = some d) : (underlying t).run P w = .ok d w := by
  simp [underlying, h]
theorem run_isAgg' {t : TypeId} {d : TypeDesc} (h : P.underlying t = some d) : (isAgg t).run P w = .ok (isAggT P t) w := by
  simp only [isAgg, Sem.run_bind, run_underlying' w h, Result.andThen_ok, isAggT, h]
  split <;> simp_all
theorem run_zeroValue' {t : TypeId} {v : Value} (h : zeroV P t = some v) : (zeroValue t).run P w = .ok v w := by
  unfold zeroV at h
  cases hi : P.info? t with
  | none => rw [hi] at h; simp at h
  | some i =>
    rw [hi] at h
    have hz : i.zero = some v := h
    simp [zeroValue, typeInfo, hi, hz]
theorem zeroC_some {t : TypeId} {z : List Value} (h : zeroC P t = some z) : ∃ v i, zeroV P t = some v ∧ v.cells.toList = z ∧ z.all selfS = true ∧ z.length = P.cellsOf t ∧ selfV v = true ∧ P.info? t = some i := by
  unfold zeroC at h
  split at h
  · rename_i v hv
    split at h
    · rename_i hc
      simp only [Bool.and_eq_true, beq_iff_eq] at hc
      obtain rfl := Option.some.inj h
      have : ∃ i, P.info? t = some i := by
        unfold zeroV at hv
        cases hi : P.info? t with
        | none => rw [hi] at hv; simp at hv
        | some i => exact ⟨i, rfl⟩
      obtain ⟨i, hi⟩ := this
      exact ⟨v, i, hv, rfl, hc.1.2, by simpa using hc.2, hc.1.1, hi⟩
    · simp at h
  · simp at h
theorem zeroS_some {t : TypeId} {v : Value} (h : zeroS P t = some v) : zeroV P t = some v ∧ selfV v = true := by
  unfold zeroS at h
  split at h
  · rename_i u hu
    split at h
    · rename_i hc; obtain rfl := Option.some.inj h; exact ⟨hu, hc⟩
    · simp at h
  · simp at h
end
end Go.Proofs.Ytekojjilbchkgaa.Can
