/- One operation: what the canonical machine does the program's does (copy, clear, bytes and strings, lengths, functions). No condition. -/
import Derived.Test.YtekojjilbchkgaaCanSim2
import Derived.Test.YtekojjilbchkgaaCanSim4
namespace Go.Proofs.Ytekojjilbchkgaa.Can
open Go
set_option linter.unusedSimpArgs false
set_option linter.unusedVariables false

section
variable {P : Program} {S : Stay} {m : Map} {h : Heap} {w : World}

/-! ### copy, clear -/
theorem sim_copy (e : Emb P S m h w) {h1 : Heap} {t t' : TypeId} (ht : P.underlying t = some (.slice t')) (hft : hasT P t' = true) (ats : Array TypeId) (hat : ats[0]? = some t) (ty : TypeId)
    {x x' y y' : Value} (hx : VR m x x') (hy : VR m y y') {v : Value} (hc : cop (.copy (P.cellsOf t') x y) h = some (v, h1)) :
    Did P S m h w (do pure (.value (← Builtin.copy_ ats ty #[x', y']))) v h1 := by
  obtain ⟨d, i, hu, hi⟩ := hasT_info hft
  simp only [cop] at hc
  split at hc
  case h_2 => simp at hc
  rename_i base n c
  split at hc
  case h_2 => simp at hc
  rename_i new k hsrc
  -- the source's cells, as many as there is room for
  have key : ∃ (l : Nat) (new' : Array Value), (Builtin.lenOf y').run P w = .ok l w ∧ k = Nat.min l n ∧ (Builtin.firstCells (P.cellsOf t') k y').run P w = .ok new' w ∧ VL m new new'.toList ∧ new.all scalar = true ∧ new.length = k * P.cellsOf t' := by
    split at hsrc
    · rename_i b l c2
      cases b with
      | none =>
        obtain rfl := hy.nilSlice_inv
        obtain ⟨h1, h2, h3, new', h4, h5⟩ := src_sim e (VR.nilSlice (min l n) c2) hsrc
        have hk : k = min l n := by have := h1; simp [Builtin.lenOf] at this; exact this.symm
        exact ⟨l, new', rfl, hk, by rw [hk] at h5 ⊢; exact h5, h4, h2, h3⟩
      | some a =>
        rcases hy.slice_inv with ⟨b, o, c', L, rfl, hb, hn, hcc, hg, rfl⟩ | ⟨rfl, rfl, hsp, a', rfl, L0, hL0⟩
        · obtain ⟨h1, h2, h3, new', h4, h5⟩ := src_sim e (VR.slice b o (min l n) c2 c' L hb (by omega) hcc hg) hsrc
          have hk : k = min l n := by have := h1; simp [Builtin.lenOf] at this; exact this.symm
          exact ⟨l, new', rfl, hk, by rw [hk] at h5 ⊢; exact h5, h4, h2, h3⟩
        · obtain ⟨b, o, s⟩ := a
          simp only at hsp
          subst hsp
          have h0 : min 0 n = 0 := by omega
          rw [h0] at hsrc
          obtain ⟨h1, h2, h3, new', h4, h5⟩ := src_sim e (VR.slice0 b o L0 a' hL0) hsrc
          have hk : k = 0 := by have := h1; simp [Builtin.lenOf] at this; exact this.symm
          subst hk
          exact ⟨0, new', rfl, h0.symm, h5, h4, h2, h3⟩
    · rename_i s
      obtain rfl := hy.string_inv
      obtain ⟨h1, h2, h3, new', h4, h5⟩ := src_sim e (VR.string (s.extract 0 (min s.size n))) hsrc
      have hk : k = min s.size n := by
        have := h1
        simp [Builtin.lenOf] at this
        omega
      refine ⟨s.size, new', rfl, hk, ?_, h4, h2, h3⟩
      rw [← h5]
      simp only [Builtin.firstCells, Sem.run_pure]
      congr 3
      have e1 : (s.extract 0 (min s.size n)).extract 0 k = s.extract 0 k := by
        rw [hk]
        apply ByteArray.ext
        simp only [ByteArray.data_extract]
        apply Array.ext'
        simp only [Array.toList_extract, List.extract_eq_take_drop, List.drop_zero, Nat.sub_zero, List.take_take]
        congr 1; omega
      rw [e1]
    · simp at hsrc
  obtain ⟨l, new', hlen, hk, hnew, hv, hs, hnewl⟩ := key
  split at hc
  · rename_i a
    split at hc
    · rename_i hsp
      simp only [Option.map_eq_some_iff, Prod.mk.injEq] at hc
      obtain ⟨ob, hob, rfl, rfl⟩ := hc
      rcases hx.slice_inv with ⟨b, o, c', L, rfl, hb, hn, hcc, hg, rfl⟩ | ⟨rfl, rfl, _, a', rfl, L0, hL0⟩
      · obtain ⟨w1, hrun, hout⟩ := write_sim e hb hob hv (oneCell_all hv hs) hs
        refine Did.val (s := Builtin.copy_ ats ty #[.slice (some ⟨L.blk, L.sh + o, none⟩) n c', y']) (v' := goInt k) (w1 := w1) ?_ (.int _ _) hout
        simp [Builtin.copy_, hat, run_underlying' _ ht, hlen, ← hk, run_sizeOf' _ hi, hnew, hrun, goInt, Go.goInt]
      · have hk0 : k = 0 := by rw [hk]; exact Nat.min_zero l
        subst hk0
        have hnl : new = [] := by
          rw [Nat.zero_mul] at hnewl; exact List.length_eq_zero_iff.1 hnewl
        subst hnl
        rw [write_nil hob, upd_self]
        have hn2 : new' = #[] := by
          have := hv.1; apply Array.eq_empty_of_size_eq_zero; simp at this; omega
        subst hn2
        refine Did.same (s := Builtin.copy_ ats ty #[.slice (some a') 0 0, y']) (v' := goInt (0 : Nat)) e ?_ (.int _ _)
        have : Nat.min l 0 = 0 := hk.symm
        simp [Builtin.copy_, hat, run_underlying' _ ht, hlen, this, run_sizeOf' _ hi, hnew, goInt, Go.goInt, storeCells]
    · simp at hc
  · simp only [Option.some.injEq, Prod.mk.injEq] at hc
    obtain ⟨rfl, rfl⟩ := hc
    obtain rfl := hx.nilSlice_inv
    refine Did.same (s := Builtin.copy_ ats ty #[.slice none n c, y']) (v' := goInt k) e ?_ (.int _ _)
    simp [Builtin.copy_, hat, run_underlying' _ ht, hlen, ← hk, run_sizeOf' _ hi, hnew, goInt, Go.goInt]

theorem zeroCells_list (z : Array Value) (n : Nat) : (Builtin.zeroCells z n).toList = reps n z.toList := zeros_eq z n _ rfl

theorem sim_clearSl (e : Emb P S m h w) {h1 : Heap} {t t' : TypeId} (ht : P.underlying t = some (.slice t')) {z : List Value} (hz : zeroC P t' = some z) (ats : Array TypeId) (hat : ats[0]? = some t) (ty : TypeId)
    {x x' : Value} (hx : VR m x x') {v : Value} (hc : cop (.clearSl z x) h = some (v, h1)) :
    Did P S m h w (do pure (.value (← Builtin.clear_ ats ty #[x']))) v h1 := by
  obtain ⟨zv, iz, z1, z2, z3, z4, z5, z6⟩ := zeroC_some hz
  have hemp : VR m (.tuple #[]) (.tuple #[]) := .tuple _ _ rfl (fun i x y hx => by simp at hx)
  simp only [cop] at hc
  split at hc
  · simp only [Option.some.injEq, Prod.mk.injEq] at hc
    obtain ⟨rfl, rfl⟩ := hc
    obtain rfl := hx.nilSlice_inv
    refine Did.same e (v' := .tuple #[]) ?_ hemp
    simp [Builtin.clear_, hat, run_underlying' _ ht]
  · rename_i a n c
    split at hc
    · simp only [Option.map_eq_some_iff, Prod.mk.injEq] at hc
      obtain ⟨ob, hob, rfl, rfl⟩ := hc
      rcases hx.slice_inv with ⟨b, o, c', L, rfl, hb, hn, hcc, hg, rfl⟩ | ⟨rfl, rfl, _, a', rfl, L0, hL0⟩
      · by_cases hn0 : n = 0
        · subst hn0
          rw [show reps 0 z = [] from rfl] at hob
          rw [write_nil hob, upd_self]
          refine Did.same e (v' := .tuple #[]) ?_ hemp
          simp [Builtin.clear_, hat, run_underlying' _ ht]
        · have hself := reps_self z z3 n
          obtain ⟨w1, hrun, hout⟩ := write_sim e hb hob (VL.selfS hself) (oneCell_all (VL.selfS (m := m) hself) (scalars_of_self hself)) (scalars_of_self hself)
          refine Did.val (v' := .tuple #[]) (w1 := w1) ?_ hemp hout
          have hzl : (Builtin.zeroCells zv.cells n).toList = reps n z := by rw [zeroCells_list, z2]
          obtain ⟨n, rfl⟩ : ∃ q, n = q + 1 := ⟨n - 1, by omega⟩
          simp [Builtin.clear_, hat, run_underlying' _ ht, run_zeroValue' _ z1, hzl, hrun]
      · rw [show reps 0 z = [] from rfl] at hob
        rw [write_nil hob, upd_self]
        refine Did.same e (v' := .tuple #[]) ?_ hemp
        simp [Builtin.clear_, hat, run_underlying' _ ht]
    · simp at hc
  · simp at hc

/-! ### bytes and strings -/
theorem run_pushBytes : ∀ (cs : List Value) (l : List UInt8) (s : ByteArray), bytesOf cs = some l →
    (forIn cs s fun c r => match c with
      | .int .u8 n => pure (ForInStep.yield (r.push (UInt8.ofNat n.toNat)))
      | _ => do
        stuck "bytesToString: byte expected"
        pure (ForInStep.yield r) : Sem ByteArray).run P w = .ok ⟨(s.data.toList ++ l).toArray⟩ w
  | [], l, s, h => by
    obtain rfl := Option.some.inj h
    simp
  | c :: cs, l, s, h => by
    unfold bytesOf at h
    split at h
    · rename_i heq; simp at heq
    · rename_i n r heq
      simp only [List.cons.injEq] at heq
      obtain ⟨rfl, rfl⟩ := heq
      simp only [Option.map_eq_some_iff] at h
      obtain ⟨l', hl', rfl⟩ := h
      simp only [List.forIn_cons, Sem.run_bind, Sem.run_pure, Result.andThen_ok]
      rw [run_pushBytes cs l' _ hl']
      simp [ByteArray.push]
    · simp at h

theorem bytesOf_rel {cs cs' : List Value} (h : VL m cs cs') {l : List UInt8} (hl : bytesOf cs = some l) : cs' = cs := by
  induction cs generalizing cs' l with
  | nil => exact h.of_nil
  | cons c cs ih =>
    obtain ⟨d, ds, rfl, h1, h2⟩ := h.of_cons
    unfold bytesOf at hl
    split at hl
    · rename_i heq; simp at heq
    · rename_i n r heq
      simp only [List.cons.injEq] at heq
      obtain ⟨rfl, rfl⟩ := heq
      simp only [Option.map_eq_some_iff] at hl
      obtain ⟨l', hl', _⟩ := hl
      obtain rfl := h1.int_inv
      rw [ih h2 hl']
    · simp at hl

theorem sim_toStr (e : Emb P S m h w) {h1 : Heap} {s t t' : TypeId} (hs : P.underlying s = some (.slice t')) (ht : P.underlying t = some .string) (hb8 : P.underlying t' = some (.int .u8))
    {x x' : Value} (hx : VR m x x') {v : Value} (hc : cop (.toStr x) h = some (v, h1)) :
    Did P S m h w (do pure (.value (← convert s t x'))) v h1 := by
  simp only [cop] at hc
  split at hc
  · simp only [Option.some.injEq, Prod.mk.injEq] at hc
    obtain ⟨rfl, rfl⟩ := hc
    obtain rfl := hx.nilSlice_inv
    refine Did.same e ?_ (.string _)
    simp [convert, run_underlying' _ hs, run_underlying' _ ht, run_underlying' _ hb8, Conv.bytesToString]
  · rename_i a n c
    split at hc
    · simp only [Option.bind_eq_some_iff, Option.map_eq_some_iff, Prod.mk.injEq] at hc
      obtain ⟨cs, hcs, l, hl, rfl, rfl⟩ := hc
      rcases hx.slice_inv with ⟨b, o, c', L, rfl, hb, hn, hcc, hg, rfl⟩ | ⟨rfl, rfl, hsp, a', rfl, L0, hL0⟩
      · obtain ⟨hlen, cs', hv, hcell⟩ := read_sim e hb hcs
        obtain rfl := bytesOf_rel hv hl
        have hload := run_loadCells_sim (P := P) hcell
        rw [hlen] at hload
        refine Did.same e (v' := .string ⟨l.toArray⟩) ?_ (.string _)
        have hp := run_pushBytes (P := P) (w := w) cs' l .empty hl
        simp only [convert, Sem.run_bind, run_underlying' _ hs, run_underlying' _ ht, run_underlying' _ hb8, Result.andThen_ok, Conv.bytesToString, hload]
        rw [← Array.forIn_toList]
        exact congrArg (fun r => Result.andThen r fun a w' => Sem.run P (pure (Value.string a)) w') hp
      · have : cs = [] := by
          cases ho : h.obj a.block with
          | cells c t g =>
            rw [ho] at hcs
            simp only [Obj.read] at hcs
            split at hcs
            · exact (by simpa using (Option.some.inj hcs).symm)
            · simp at hcs
          | _ => rw [ho] at hcs; simp [Obj.read] at hcs
        subst this
        obtain rfl := Option.some.inj hl
        refine Did.same e (v' := .string ⟨#[]⟩) ?_ (.string _)
        simp [convert, run_underlying' _ hs, run_underlying' _ ht, run_underlying' _ hb8, Conv.bytesToString, loadCells, loadCellsFrom]
        rfl
    · simp at hc
  · simp at hc

theorem sim_toBytes (e : Emb P S m h w) (hfr : m h.next = none) {h1 : Heap} {s t t' : TypeId} (hs : P.underlying s = some .string) (ht : P.underlying t = some (.slice t')) (hb8 : P.underlying t' = some (.int .u8)) (h8 : P.cellsOf t' = 1)
    {x x' : Value} (hx : VR m x x') {v : Value} (hc : cop (.toBytes t' x) h = some (v, h1)) :
    Did P S m h w (do pure (.value (← convert s t x'))) v h1 := by
  simp only [cop] at hc
  split at hc
  case h_2 => simp at hc
  rename_i s0
  simp only [Option.some.injEq, Prod.mk.injEq] at hc
  obtain ⟨rfl, rfl⟩ := hc
  obtain rfl := hx.string_inv
  have e' : Emb P S m h w.drew := e.of_heap rfl
  let cap := (Question.appendCap s0.size 0 t').cut (w.tape w.drawn (.appendCap s0.size 0 t'))
  have hcap : s0.size ≤ cap := by simp only [cap, Question.cut]; omega
  let cells : Array Value := (s0.data.map fun b => .int .u8 b.toNat) ++ Array.replicate (cap - s0.size) (.int .u8 0)
  have hsz : cells.size = cap := by
    have h2 : s0.data.size = s0.size := rfl
    simp only [cells, Array.size_append, Array.size_map, Array.size_replicate, h2]; omega
  have hfl : s0.size = (byteVals s0.data.toList).length := by simp [byteVals]
  have ho := newCells e' hfr (c := byteVals s0.data.toList) (c' := cells) t' .grow (by rw [← hfl, hsz]; exact hcap) (by
    have h2 : cells.toList = byteVals s0.data.toList ++ List.replicate (cap - s0.size) (.int .u8 0) := by simp [cells, byteVals]
    rw [h2, List.take_left]; exact VL.selfS (byteVals_self _)) (cells.size, cells.size + 1) (fun i hi => by omega) (scalars_of_self (byteVals_self _))
  refine Did.val (s := convert s t (.string s0)) (v' := .slice (some ⟨w.heap.size, 0, none⟩) s0.size cap) (w1 := w.drew.alloc (.cells cells t' (cells.size, cells.size + 1))) ?_ ?_ ((Out.drew e (w.drawn + 1)).trans ho)
  · have hf : (Question.appendCap s0.size 0 t').forced = false := rfl
    have hfreeze : (w.drew.alloc (.cells cells t')).freeze ⟨w.heap.size, cells.size, none⟩ 1 = w.drew.alloc (.cells cells t' (cells.size, cells.size + 1)) := by
      simp only [World.freeze, Nat.one_ne_zero, if_false, World.alloc, World.drew]
      congr 1
      apply Array.ext'
      apply List.ext_getElem?
      intro k
      simp only [Array.getElem?_toList, Array.getElem?_modify, Array.getElem?_push]
      by_cases hk : w.heap.size = k
      · subst hk; simp
      · rw [if_neg hk]
        by_cases hk2 : k = w.heap.size
        · exact absurd hk2.symm hk
        · rw [if_neg hk2, if_neg hk2]
    have hshape : (w.drew.alloc (.cells cells t')).shape? w.heap.size = some (t', cells.size) := by
      have : (w.drew.alloc (.cells cells t')).heap[w.heap.size]? = some (.cells cells t') := by
        show (w.heap.push _)[w.heap.size]? = _
        simp
      simp only [World.shape?, this]
    have hm : (markStringish ⟨w.heap.size, 0, none⟩).run P (w.drew.alloc (.cells cells t')) = .ok () (w.drew.alloc (.cells cells t' (cells.size, cells.size + 1))) := by
      simp only [markStringish, Sem.run_bind, run_shape, Result.andThen_ok, hshape, run_freeze, hfreeze]
    have hch : (choose (.appendCap s0.size 0 t')).run P w = .ok cap w.drew := by
      rw [run_choose, hf, if_neg Bool.false_ne_true]; rfl
    simp only [convert, Sem.run_bind, run_underlying' _ hs, run_underlying' _ ht, run_underlying' _ hb8, Result.andThen_ok, Conv.stringToBytes, hch, newRow, run_newObj_alloc, Sem.run_pure]
    exact congrArg (fun r => Result.andThen r fun _ w' => Result.ok (Value.slice (some ⟨w.heap.size, 0, none⟩) s0.size cap) w') hm
  · have := newSlice (t := t') (Nat.le_refl s0.size) hcap w.heap.size (tot := cells.size) (by rw [h8, hsz]; omega) h.next true m
    exact this
end
end Go.Proofs.Ytekojjilbchkgaa.Can
