/- One operation: what the canonical machine does the program's does (the small ones). No condition. -/
import Derived.Test.YtekojjilbchkgaaCanMem
import Derived.Laws.NewFold
namespace Go.Proofs.Ytekojjilbchkgaa.Can
open Go
set_option linter.unusedSimpArgs false
set_option linter.unusedVariables false

abbrev Rho := Operand → Value

/-- The operation runs, and what it leaves stands to what the canonical machine leaves. -/
def Did (P : Program) (S : Stay) (m : Map) (h : Heap) (w : World) (s : Sem Next) (v : Value) (h1 : Heap) : Prop :=
  ∃ n v' w1 m1, s.run P w = .ok n w1 ∧ (n = .value v' ∨ (n = .skip ∧ v' = undef)) ∧ VR m1 v v' ∧ Out P S m h w m1 h1 w1

abbrev valOf (s : Sem Value) : Sem Next := do pure (.value (← s))
section
variable {P : Program} {S : Stay} {m : Map} {h : Heap} {w : World}

theorem Did.val {s : Sem Value} {v v' : Value} {h1 : Heap} {w1 : World} {m1 : Map} (hs : s.run P w = .ok v' w1) (hv : VR m1 v v') (o : Out P S m h w m1 h1 w1) :
    Did P S m h w (do pure (.value (← s))) v h1 :=
  ⟨.value v', v', w1, m1, by simp [hs], .inl rfl, hv, o⟩
theorem Did.here {v v' : Value} (e : Emb P S m h w) (hv : VR m v v') : Did P S m h w (pure (.value v')) v h :=
  ⟨.value v', v', w, m, rfl, .inl rfl, hv, Out.refl e⟩
theorem Did.same {s : Sem Value} {v v' : Value} (e : Emb P S m h w) (hs : s.run P w = .ok v' w) (hv : VR m v v') : Did P S m h w (do pure (.value (← s))) v h :=
  Did.val hs hv (Out.refl e)
theorem Did.unit {s : Sem Unit} {h1 : Heap} {w1 : World} (hs : s.run P w = .ok () w1) (o : Out P S m h w m h1 w1) :
    Did P S m h w (do s; pure .skip) (.tuple #[]) h1 :=
  ⟨.skip, undef, w1, m, by simp [hs], .inr ⟨rfl, rfl⟩, .tuple _ _ rfl (fun i x y hx => by simp at hx), o⟩

/-! ### values of one kind -/
theorem VR.int_inv {k : IntKind} {n : Int} {v : Value} (h : VR m (.int k n) v) : v = .int k n := by cases h; rfl
theorem VR.bool_inv {b : Bool} {v : Value} (h : VR m (.bool b) v) : v = .bool b := by cases h; rfl
theorem VR.string_inv {s : ByteArray} {v : Value} (h : VR m (.string s) v) : v = .string s := by cases h; rfl
theorem VR.nilPtr_inv {v : Value} (h : VR m (.pointer none) v) : v = .pointer none := by cases h; rfl
theorem VR.ptr_inv {a : Addr} {v : Value} (h : VR m (.pointer (some a)) v) : ∃ b o L, a = ⟨b, o, none⟩ ∧ m b = some L ∧ v = .pointer (some ⟨L.blk, L.sh + o, none⟩) := by
  cases h with
  | ptr b o L hb => exact ⟨b, o, L, rfl, hb, rfl⟩
theorem VR.slice_inv {a : Addr} {n c : Nat} {v : Value} (h : VR m (.slice (some a) n c) v) :
    (∃ b o c' L, a = ⟨b, o, none⟩ ∧ m b = some L ∧ n ≤ c ∧ c ≤ c' ∧ (L.grow = true → L.sh + o + c' * L.unit ≤ L.tot) ∧ v = .slice (some ⟨L.blk, L.sh + o, none⟩) n c') ∨
    (n = 0 ∧ c = 0 ∧ a.spot = none ∧ ∃ a', v = .slice (some a') 0 0 ∧ ∃ L, m a.block = some L) := by
  cases h with
  | slice b o n c c' L hb hn hc hg => exact .inl ⟨b, o, c', L, rfl, hb, hn, hc, hg, rfl⟩
  | slice0 b o L a' hb => exact .inr ⟨rfl, rfl, rfl, a', rfl, L, hb⟩
theorem VR.nilSlice_inv {n c : Nat} {v : Value} (h : VR m (.slice none n c) v) : v = .slice none n c := by cases h; rfl
theorem VR.nilMap_inv {v : Value} (h : VR m (.map none) v) : v = .map none := by cases h; rfl
theorem VR.map_inv {r : Nat} {v : Value} (h : VR m (.map (some r)) v) : ∃ L, m r = some L ∧ v = .map (some L.blk) := by
  cases h with
  | map r L hb => exact ⟨L, hb, rfl⟩
theorem VR.agg_inv {a : Array Value} {v : Value} (h : VR m (.agg a) v) : ∃ a', v = .agg a' ∧ VL m a.toList a'.toList := by
  cases h with
  | agg a a' ha hav => exact ⟨a', rfl, by simpa using ha, fun i x y hx hy => hav i x y (by simpa using hx) (by simpa using hy)⟩
theorem VR.agg_of {a a' : Array Value} (h : VL m a.toList a'.toList) : VR m (.agg a) (.agg a') :=
  .agg a a' (by simpa using h.1) fun i x y hx hy => h.2 i x y (by simpa using hx) (by simpa using hy)
theorem VR.tuple_of {a a' : Array Value} (h : VL m a.toList a'.toList) : VR m (.tuple a) (.tuple a') :=
  .tuple a a' (by simpa using h.1) fun i x y hx hy => h.2 i x y (by simpa using hx) (by simpa using hy)
theorem VR.func_inv {f : Fn} {a c : Array Value} {v : Value} (h : VR m (.func f a c) v) : ∃ a' c', v = .func f a' c' ∧ VL m a.toList a'.toList ∧ VL m c.toList c'.toList := by
  cases h with
  | func f a a' c c' ha hav hc hcv =>
    exact ⟨a', c', rfl, ⟨by simpa using ha, fun i x y hx hy => hav i x y (by simpa using hx) (by simpa using hy)⟩, by simpa using hc, fun i x y hx hy => hcv i x y (by simpa using hx) (by simpa using hy)⟩
theorem VR.func_of {f : Fn} {a a' c c' : Array Value} (h : VL m a.toList a'.toList) (k : VL m c.toList c'.toList) : VR m (.func f a c) (.func f a' c') :=
  .func f a a' c c' (by simpa using h.1) (fun i x y hx hy => h.2 i x y (by simpa using hx) (by simpa using hy)) (by simpa using k.1) (fun i x y hx hy => k.2 i x y (by simpa using hx) (by simpa using hy))
theorem VR.nilFunc_inv {v : Value} (h : VR m .nilFunc v) : v = .nilFunc := by cases h; rfl
/-- A tuple that is no unknown one. -/
theorem VR.tuple_inv {a : Array Value} {v : Value} (h : VR m (.tuple a) v) : (∃ a', v = .tuple a' ∧ VL m a.toList a'.toList) ∨ a = #[.tuple #[.tuple #[]]] := by
  cases h with
  | tuple a a' ha hav => exact .inl ⟨a', rfl, by simpa using ha, fun i x y hx hy => hav i x y (by simpa using hx) (by simpa using hy)⟩
  | unk v => exact .inr rfl

/-! ### new objects -/
theorem newCells (e : Emb P S m h w) (hf : m h.next = none) {c : List Value} {c' : Array Value} (t : TypeId) (g : How) (hl : c.length ≤ c'.size) (hv : VL m c (c'.toList.take c.length)) (fr : Nat × Nat)
    (hfr : ∀ i, i < c'.size → ¬ (fr.1 ≤ i ∧ i < fr.2)) (hs : c.all scalar = true) (hfx : g = .fix → c'.size = c.length := by intro hg; exact absurd hg (by simp)) :
    Out P S m h w (m.put h.next ⟨w.heap.size, 0, c'.size, P.cellsOf t, g == .grow⟩) (h.new (.cells c t g)) (w.alloc (.cells c' t fr)) := by
  refine Out.new e _ (.cells c' t fr) _ hf rfl rfl rfl rfl rfl fun w' hw' => ?_
  exact .inr ⟨c', fr, hw', rfl, by simpa using hl, by simpa using hv.ext (Map.put_ext hf), fun _ => hfr, rfl, rfl, fun _ => hs, fun hg => ⟨rfl, hfx hg⟩⟩
theorem newCells0 (e : Emb P S m h w) (hf : m h.next = none) {c : List Value} {c' : Array Value} (t : TypeId) (g : How) (hv : VL m c c'.toList) (hs : c.all scalar = true) :
    Out P S m h w (m.put h.next ⟨w.heap.size, 0, c'.size, P.cellsOf t, g == .grow⟩) (h.new (.cells c t g)) (w.alloc (.cells c' t)) := by
  have hl := hv.1
  exact newCells e hf t g (by simp at hl; omega) (by rw [hl, List.take_of_length_le (by simp)]; exact hv) (0, 0) (fun i _ => by omega) hs (fun _ => by simp at hl; omega)
theorem newPtr {b : Nat} {L : Loc} (h0 : L.sh = 0) (m : Map) : VR (m.put b L) (.pointer (some ⟨b, 0, none⟩)) (.pointer (some ⟨L.blk, 0, none⟩)) := by
  have := VR.ptr (m := m.put b L) b 0 L (by simp [Map.put])
  rw [h0] at this; exact this
theorem run_newVar (t : TypeId) (v : Value) : (newVar t v).run P w = .ok ⟨w.heap.size, 0, none⟩ (w.alloc (.cells v.cells t)) := by
  simp [newVar, newRow]

theorem sim_alloc (e : Emb P S m h w) (hf : m h.next = none) {t : TypeId} {z : List Value} (hz : zeroC P t = some z) :
    Did P S m h w (do pure (.value (← Instr.alloc t true (.tuple #[])))) (.pointer (some ⟨h.next, 0, none⟩)) (h.new (.cells z t .fix)) := by
  obtain ⟨v, i, h1, h2, h3, h4, h5, h6⟩ := zeroC_some hz
  refine Did.val (s := Instr.alloc t true (.tuple #[])) (v' := .pointer (some ⟨w.heap.size, 0, none⟩)) (w1 := w.alloc (.cells v.cells t)) ?_ (newPtr rfl m) (newCells0 e hf t .fix (by rw [h2]; exact VL.selfS h3) (scalars_of_self h3))
  simp only [Instr.alloc, Sem.run_bind, run_zeroValue' w h1, Result.andThen_ok, run_newVar, Sem.run_pure]

theorem sim_box (e : Emb P S m h w) (hf : m h.next = none) {t : TypeId} {x x' : Value} (hx : VR m x x') {cs : List Value} (hc : flat x = some cs) :
    Did P S m h w (do pure (.value (← Instr.box t x'))) (.pointer (some ⟨h.next, 0, none⟩)) (h.new (.cells cs t .fix)) := by
  obtain ⟨h1, h2, h3, h4⟩ := flat_sim hx hc
  refine Did.val (s := Instr.box t x') (v' := .pointer (some ⟨w.heap.size, 0, none⟩)) (w1 := w.alloc (.cells x'.cells t)) ?_ (newPtr rfl m) (newCells0 e hf t .fix h1 h4)
  simp only [Instr.box, Sem.run_bind, run_newVar, Result.andThen_ok, Sem.run_pure]

theorem sim_load (e : Emb P S m h w) {t : TypeId} (ht : hasT P t = true) {x x' : Value} (hx : VR m x x') {v : Value} {h1 : Heap} (hc : cop (.load (aggT P t) x) h = some (v, h1)) :
    Did P S m h w (do pure (.value (← Instr.loadAt t x'))) v h1 := by
  obtain ⟨d, i, hu, hi⟩ := hasT_info ht
  simp only [cop] at hc
  split at hc
  · rename_i b o
    obtain ⟨b', o', L, heq, hb, rfl⟩ := hx.ptr_inv
    obtain ⟨rfl, rfl, -⟩ := Addr.mk.inj heq
    unfold aggT at hc
    by_cases hagg : isAggT P t = true
    · rw [if_pos hagg] at hc
      simp only [Option.map_eq_some_iff, Prod.mk.injEq] at hc
      obtain ⟨cs, hcs, rfl, rfl⟩ := hc
      obtain ⟨hl, cs', hv, hcell⟩ := read_sim e hb hcs
      have hl' : cs'.length = P.cellsOf t := by rw [← hv.1]; exact hl
      refine Did.same e ?_ (VR.agg_of (a := cs.toArray) (a' := cs'.toArray) (by simpa using hv))
      have := run_loadCells_sim (P := P) hcell
      rw [hl'] at this
      simp only [Instr.loadAt, Instr.sureAddr, loadVar, Sem.run_bind, Sem.run_pure, Result.andThen_ok, run_isAgg' w hu, hagg, if_true, run_sizeOf' w hi, this]
    · simp only [hagg, Bool.false_eq_true, if_false, Option.map_eq_some_iff, Prod.mk.injEq] at hc
      obtain ⟨cv, hcv, rfl, rfl⟩ := hc
      obtain ⟨v', hcell, hv⟩ := get_sim e hb hcv
      refine Did.same e ?_ hv
      simp only [Instr.loadAt, Instr.sureAddr, loadVar, Sem.run_bind, Sem.run_pure, Result.andThen_ok, run_isAgg' w hu, hagg, Bool.false_eq_true, if_false, run_load, hcell]
  · simp at hc

theorem sim_store (e : Emb P S m h w) {t : TypeId} (ht : hasT P t = true) {x x' y y' : Value} (hx : VR m x x') (hy : VR m y y') {v : Value} {h1 : Heap}
    (hc : cop (.store (P.cellsOf t) x y) h = some (v, h1)) : Did P S m h w (do Instr.storeAt t x' y'; pure .skip) v h1 := by
  obtain ⟨d, i, hu, hi⟩ := hasT_info ht
  simp only [cop] at hc
  split at hc
  · rename_i b o cs hf
    split at hc
    · rename_i hsz
      simp only [Option.map_eq_some_iff, Prod.mk.injEq] at hc
      obtain ⟨ob, hob, rfl, rfl⟩ := hc
      obtain ⟨b', o', L, heq, hb, rfl⟩ := hx.ptr_inv
      obtain ⟨rfl, rfl, -⟩ := Addr.mk.inj heq
      obtain ⟨k1, k2, k3, k4⟩ := flat_sim hy hf
      obtain ⟨w1, hrun, hout⟩ := write_sim e hb hob k1 k2 k4
      refine Did.unit ?_ hout
      have hne : ¬ (y'.cells.size ≠ P.cellsOf t) := by omega
      simp only [Instr.storeAt, Instr.sureAddr, storeVar, Sem.run_bind, Sem.run_pure, Result.andThen_ok, run_sizeOf' w hi, Sem.run_ite, hne, if_false, hrun]
    · simp at hc
  · simp at hc

theorem sim_nilCheck (e : Emb P S m h w) {x x' : Value} (hx : VR m x x') {a : Addr} (hp : x = .pointer (some a)) {s : Sem Next} (hs : ∀ a', x' = .pointer (some a') → s = pure (.value x')) :
    Did P S m h w s x h := by
  subst hp
  obtain ⟨b, o, L, rfl, hb, rfl⟩ := hx.ptr_inv
  rw [hs _ rfl]
  exact Did.here e hx

theorem sim_conv (e : Emb P S m h w) {a b : TypeId} {k0 k : IntKind} (ha : P.underlying a = some (.int k0)) (hb : P.underlying b = some (.int k)) {x x' : Value} (hx : VR m x x') {v : Value} {h1 : Heap}
    (hc : cop (.conv k x) h = some (v, h1)) : Did P S m h w (do pure (.value (← convert a b x'))) v h1 := by
  simp only [cop] at hc
  split at hc
  · rename_i k1 n
    simp only [Option.some.injEq, Prod.mk.injEq] at hc
    obtain ⟨rfl, rfl⟩ := hc
    obtain rfl := hx.int_inv
    refine Did.same e ?_ (.int k _)
    simp [convert, run_underlying' w ha, run_underlying' w hb, Conv.intToInt]
  · simp at hc
theorem sim_convSame (e : Emb P S m h w) {a b : TypeId} (ha : P.underlying a = some .string) (hb : P.underlying b = some .string) {x x' : Value} (hx : VR m x x') {v : Value} {h1 : Heap}
    (hc : cop (.convSame x) h = some (v, h1)) : Did P S m h w (do pure (.value (← convert a b x'))) v h1 := by
  simp only [cop] at hc
  split at hc
  · simp only [Option.some.injEq, Prod.mk.injEq] at hc
    obtain ⟨rfl, rfl⟩ := hc
    obtain rfl := hx.string_inv
    refine Did.same e ?_ (.string _)
    simp [convert, run_underlying' w ha, run_underlying' w hb]
  · simp at hc

theorem ptr_add {b o : Nat} {L : Loc} (hb : m b = some L) (n : Nat) : VR m (.pointer (some ((⟨b, o, none⟩ : Addr).add n))) (.pointer (some ((⟨L.blk, L.sh + o, none⟩ : Addr).add n))) := by
  have e1 : ∀ b o : Nat, (⟨b, o, none⟩ : Addr).add n = ⟨b, o + n, none⟩ := fun b o => by
    unfold Addr.add; split
    · rename_i h; subst h; rfl
    · rfl
  rw [e1, e1, Nat.add_assoc]; exact .ptr b (o + n) L hb

theorem sim_fieldAddr (e : Emb P S m h w) {t : TypeId} {fs : Array Field} (ht : P.underlying t = some (.struct fs)) {i : Nat} {f : Field} (hf : fs[i]? = some f) (hz : P.cellsOf f.type ≠ 0) {x x' : Value} (hx : VR m x x') {v : Value} {h1 : Heap}
    (hc : cop (.fieldAddr f.offset x) h = some (v, h1)) : Did P S m h w (do pure (.value (← Instr.fieldAt t x' i))) v h1 := by
  simp only [cop] at hc
  split at hc
  · rename_i a
    simp only [Option.some.injEq, Prod.mk.injEq] at hc
    obtain ⟨rfl, rfl⟩ := hc
    obtain ⟨b, o, L, rfl, hb, rfl⟩ := hx.ptr_inv
    refine Did.same e ?_ (ptr_add hb f.offset)
    have hsz : ∃ j, P.info? f.type = some j := by
      cases hj : P.info? f.type with
      | none => exfalso; apply hz; simp [Program.cellsOf, hj]
      | some j => exact ⟨j, rfl⟩
    obtain ⟨j, hj⟩ := hsz
    simp only [Instr.fieldAt, Instr.sureAddr, fieldPlace, Sem.run_bind, run_underlying' w ht, Result.andThen_ok, hf, Sem.run_pure, run_sizeOf' w hj, Sem.run_ite, hz, if_false]
  · simp at hc

theorem run_part_agg {t : TypeId} (ht : hasT P t = true) (hagg : isAggT P t = true) (cs : Array Value) (off : Nat) : (part t cs off).run P w = .ok (.agg (cs.extract off (off + P.cellsOf t))) w := by
  obtain ⟨d, i, hu, hi⟩ := hasT_info ht
  simp only [part, Sem.run_bind, run_isAgg' w hu, Result.andThen_ok, hagg, if_true, run_sizeOf' w hi, Sem.run_pure]
theorem run_part_one {t : TypeId} (ht : hasT P t = true) (hagg : isAggT P t = false) {cs : Array Value} {off : Nat} {v : Value} (hv : cs[off]? = some v) : (part t cs off).run P w = .ok v w := by
  obtain ⟨d, i, hu, hi⟩ := hasT_info ht
  simp only [part, Sem.run_bind, run_isAgg' w hu, Result.andThen_ok, hagg, Bool.false_eq_true, if_false, hv, Sem.run_pure]

/-- A part of an aggregate, on both sides. -/
theorem part_sim {t : TypeId} (ht : hasT P t = true) {cs cs' : Array Value} (hv : VL m cs.toList cs'.toList) (off : Nat) {v : Value}
    (hc : (match aggT P t with
      | some n => if off + n ≤ cs.size then some (Value.agg (cs.extract off (off + n))) else none
      | none => cs[off]?) = some v) : ∃ v', (part t cs' off).run P w = .ok v' w ∧ VR m v v' := by
  unfold aggT at hc
  by_cases hagg : isAggT P t = true
  · rw [if_pos hagg] at hc
    simp only at hc
    split at hc
    · obtain rfl := Option.some.inj hc
      refine ⟨_, run_part_agg ht hagg cs' off, VR.agg_of ?_⟩
      simp only [Array.toList_extract, List.extract_eq_take_drop]
      exact (hv.drop _).take _
    · simp at hc
  · simp only [hagg, Bool.false_eq_true, if_false] at hc
    obtain ⟨v', hv', hr⟩ := hv.get (i := off) (x := v) (by simpa using hc)
    exact ⟨v', run_part_one ht (by simpa using hagg) (by simpa using hv'), hr⟩

theorem sim_field (e : Emb P S m h w) {t : TypeId} {fs : Array Field} (ht : P.underlying t = some (.struct fs)) {i : Nat} {f : Field} (hf : fs[i]? = some f) (hft : hasT P f.type = true) {x x' : Value} (hx : VR m x x') {v : Value} {h1 : Heap}
    (hc : cop (.field f.offset (aggT P f.type) x) h = some (v, h1)) : Did P S m h w (do pure (.value (← Instr.field t x' i))) v h1 := by
  simp only [cop] at hc
  split at hc
  · rename_i cs
    obtain ⟨cs', rfl, hv⟩ := hx.agg_inv
    have key : h1 = h ∧ (match aggT P f.type with
      | some n => if f.offset + n ≤ cs.size then some (Value.agg (cs.extract f.offset (f.offset + n))) else none
      | none => cs[f.offset]?) = some v := by
      split at hc
      · rename_i n hq
        split at hc
        · rename_i hle
          simp only [Option.some.injEq, Prod.mk.injEq] at hc
          refine ⟨hc.2.symm, ?_⟩
          simp only [hq]; rw [if_pos hle, hc.1]
        · simp at hc
      · rename_i hq
        simp only [Option.map_eq_some_iff, Prod.mk.injEq] at hc
        obtain ⟨u, hu, rfl, rfl⟩ := hc
        refine ⟨rfl, ?_⟩
        simp only [hq]; exact hu
    obtain ⟨rfl, key⟩ := key
    obtain ⟨v', hrun, hr⟩ := part_sim (w := w) hft hv f.offset key
    refine Did.same e ?_ hr
    simp only [Instr.field, Sem.run_bind, run_underlying' w ht, Result.andThen_ok, hf, asAgg, Sem.run_pure, hrun]
  · simp at hc

theorem sim_indexAgg (e : Emb P S m h w) {t : TypeId} {n : Nat} {t' : TypeId} (ht : P.underlying t = some (.array n t')) (hft : hasT P t' = true) {x x' y y' : Value} (hx : VR m x x') (hy : VR m y y') {v : Value} {h1 : Heap}
    (hc : cop (.indexAgg n (P.cellsOf t') (aggT P t') x y) h = some (v, h1)) : Did P S m h w (do pure (.value (← Instr.index t x' y'))) v h1 := by
  obtain ⟨d, i, hu, hi⟩ := hasT_info hft
  simp only [cop] at hc
  split at hc
  · rename_i cs k j
    obtain ⟨cs', rfl, hv⟩ := hx.agg_inv
    obtain rfl := hy.int_inv
    split at hc
    · rename_i hb
      have key : h1 = h ∧ (match aggT P t' with
        | some n => if j.toNat * P.cellsOf t' + n ≤ cs.size then some (Value.agg (cs.extract (j.toNat * P.cellsOf t') (j.toNat * P.cellsOf t' + n))) else none
        | none => cs[j.toNat * P.cellsOf t']?) = some v := by
        split at hc
        · rename_i n hq
          split at hc
          · rename_i hle
            simp only [Option.some.injEq, Prod.mk.injEq] at hc
            refine ⟨hc.2.symm, ?_⟩
            simp only [hq]; rw [if_pos hle, hc.1]
          · simp at hc
        · rename_i hq
          simp only [Option.map_eq_some_iff, Prod.mk.injEq] at hc
          obtain ⟨u, hu, rfl, rfl⟩ := hc
          refine ⟨rfl, ?_⟩
          simp only [hq]; exact hu
      obtain ⟨rfl, key⟩ := key
      obtain ⟨v', hrun, hr⟩ := part_sim (w := w) hft hv _ key
      refine Did.same e ?_ hr
      simp only [Instr.index, asIntOf, Sem.run_bind, Sem.run_pure, run_underlying' w ht, Result.andThen_ok, hb, and_self, if_true, run_sizeOf' w hi, hrun]
    · simp at hc
  · simp at hc

theorem sim_indexSl (e : Emb P S m h w) {t t' : TypeId} (ht : P.underlying t = some (.slice t')) (hft : hasT P t' = true) {x x' y y' : Value} (hx : VR m x x') (hy : VR m y y') {v : Value} {h1 : Heap}
    (hc : cop (.indexSl (P.cellsOf t') x y) h = some (v, h1)) : Did P S m h w (do pure (.value (← Instr.indexAt t x' y'))) v h1 := by
  obtain ⟨d, i, hu, hi⟩ := hasT_info hft
  simp only [cop] at hc
  split at hc
  · rename_i a n c k j
    obtain rfl := hy.int_inv
    split at hc
    · rename_i hj
      rcases hx.slice_inv with ⟨b, o, c', L, rfl, hb, hn, hcc, hg, rfl⟩ | ⟨rfl, _⟩
      case inr => exfalso; omega
      simp only [Option.some.injEq, Prod.mk.injEq] at hc
      obtain ⟨rfl, rfl⟩ := hc
      refine Did.same e ?_ (ptr_add hb _)
      simp only [Instr.indexAt, asIntOf, Sem.run_bind, Sem.run_pure, run_underlying' w ht, Result.andThen_ok, hj, and_self, if_true, run_sizeOf' w hi]
    · simp at hc
  · simp at hc

theorem sim_indexArr (e : Emb P S m h w) {t t' : TypeId} {n : Nat} (ht : P.underlying t = some (.array n t')) (hft : hasT P t' = true) {x x' y y' : Value} (hx : VR m x x') (hy : VR m y y') {v : Value} {h1 : Heap}
    (hc : cop (.indexArr n (P.cellsOf t') x y) h = some (v, h1)) : Did P S m h w (do pure (.value (← Instr.indexAt t x' y'))) v h1 := by
  obtain ⟨d, i, hu, hi⟩ := hasT_info hft
  simp only [cop] at hc
  split at hc
  · rename_i a k j
    obtain ⟨b, o, L, rfl, hb, rfl⟩ := hx.ptr_inv
    obtain rfl := hy.int_inv
    split at hc
    · rename_i hj
      simp only [Option.some.injEq, Prod.mk.injEq] at hc
      obtain ⟨rfl, rfl⟩ := hc
      refine Did.same e ?_ (ptr_add hb _)
      simp only [Instr.indexAt, Instr.sureAddr, asIntOf, Sem.run_bind, Sem.run_pure, run_underlying' w ht, Result.andThen_ok, hj, and_self, if_true, run_sizeOf' w hi]
    · simp at hc
  · simp at hc

theorem sim_indexStr (e : Emb P S m h w) {t : TypeId} (ht : P.underlying t = some .string) {x x' y y' : Value} (hx : VR m x x') (hy : VR m y y') {v : Value} {h1 : Heap}
    (hc : cop (.indexStr x y) h = some (v, h1)) : Did P S m h w (do pure (.value (← Instr.index t x' y'))) v h1 := by
  simp only [cop] at hc
  split at hc
  · rename_i s k j
    obtain rfl := hx.string_inv
    obtain rfl := hy.int_inv
    split at hc
    · rename_i hj
      simp only [Option.map_eq_some_iff, Prod.mk.injEq] at hc
      obtain ⟨b, hb, rfl, rfl⟩ := hc
      refine Did.same e ?_ (.int _ _)
      have hs : s[j.toNat]? = some b := by
        have hlt : j.toNat < s.data.size := by
          rcases Nat.lt_or_ge j.toNat s.data.size with h | h
          · exact h
          · rw [Array.getElem?_eq_none h] at hb; simp at hb
        rw [Array.getElem?_eq_getElem hlt] at hb
        obtain rfl := Option.some.inj hb
        show (if h : j.toNat < s.size then some s[j.toNat] else none) = _
        have hlt' : j.toNat < s.size := hlt
        rw [dif_pos hlt']; rfl
      simp only [Instr.index, asIntOf, Sem.run_bind, Sem.run_pure, run_underlying' w ht, Result.andThen_ok, hj, if_true, hs]
    · simp at hc
  · simp at hc

theorem sim_extract (e : Emb P S m h w) {x x' : Value} (hx : VR m x x') {i : Nat} {v : Value} {h1 : Heap}
    (hc : cop (.extract x i) h = some (v, h1)) : Did P S m h w (do pure (.value (← Instr.extract x' i))) v h1 := by
  simp only [cop] at hc
  split at hc
  · rename_i vs
    split at hc
    · split at hc
      · rename_i b hb
        split at hc
        · rename_i hi
          subst hi
          simp only [Option.some.injEq, Prod.mk.injEq] at hc
          obtain ⟨rfl, rfl⟩ := hc
          rcases hx.tuple_inv with ⟨vs', rfl, hv⟩ | h
          · obtain ⟨v', hv', hr⟩ := hv.get (i := 0) (x := .bool b) (by simpa using hb)
            refine Did.same e ?_ hr
            have : vs'[0]? = some v' := by simpa using hv'
            simp only [Instr.extract, this, Sem.run_pure]
          · subst h; simp at hb
        · simp at hc
      · simp at hc
    · rename_i hsz
      simp only [Option.map_eq_some_iff, Prod.mk.injEq] at hc
      obtain ⟨u, huv, rfl, rfl⟩ := hc
      rcases hx.tuple_inv with ⟨vs', rfl, hv⟩ | h
      · obtain ⟨v', hv', hr⟩ := hv.get (i := i) (x := u) (by simpa using huv)
        refine Did.same e ?_ hr
        have : vs'[i]? = some v' := by simpa using hv'
        simp only [Instr.extract, this, Sem.run_pure]
      · subst h; exact absurd (Nat.le_refl _) hsz
  · simp at hc

theorem sim_un (e : Emb P S m h w) (op : UnOp) {x x' : Value} (hx : VR m x x') {v : Value} {h1 : Heap}
    (hc : cop (.un op x) h = some (v, h1)) : Did P S m h w (do pure (.value (← Op.unary op x'))) v h1 := by
  simp only [cop, Option.map_eq_some_iff, Prod.mk.injEq] at hc
  obtain ⟨u, hu, rfl, rfl⟩ := hc
  unfold un at hu
  split at hu
  · rename_i k n
    obtain rfl := Option.some.inj hu
    obtain rfl := hx.int_inv
    exact Did.same e rfl (.int _ _)
  · rename_i k n
    obtain rfl := Option.some.inj hu
    obtain rfl := hx.int_inv
    exact Did.same e rfl (.int _ _)
  · rename_i b
    obtain rfl := Option.some.inj hu
    obtain rfl := hx.bool_inv
    exact Did.same e rfl (.bool _)
  · simp at hu
end
end Go.Proofs.Ytekojjilbchkgaa.Can
