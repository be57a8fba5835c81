/- One operation: what the canonical machine does the program's does (what is made, grown, copied). No condition. -/
import Derived.Test.YtekojjilbchkgaaCanSim1
namespace Go.Proofs.Ytekojjilbchkgaa.Can
open Go
set_option linter.unusedSimpArgs false
set_option linter.unusedVariables false

section
variable {P : Program} {S : Stay} {m : Map} {h : Heap} {w : World}

/-! ### zeros -/
theorem reps_length (z : List Value) : ∀ n, (reps n z).length = n * z.length
  | 0 => by simp [reps]
  | n + 1 => by rw [reps, List.length_append, reps_length z n, Nat.add_mul]; omega
theorem reps_get (z : List Value) : ∀ n i, i < n * z.length → (reps n z)[i]? = z[i % z.length]?
  | 0, i, hi => by omega
  | n + 1, i, hi => by
    rw [reps]
    by_cases h : i < z.length
    · rw [List.getElem?_append_left h, Nat.mod_eq_of_lt h]
    · have hz : 0 < z.length := by
        rcases Nat.eq_zero_or_pos z.length with h0 | h0
        · rw [h0] at hi; omega
        · exact h0
      rw [Nat.add_mul] at hi
      rw [List.getElem?_append_right (Nat.le_of_not_lt h), reps_get z n (i - z.length) (by omega)]
      congr 1
      rw [← Nat.mod_eq_sub_mod (Nat.le_of_not_lt h)]
theorem zeros_eq (z : Array Value) (n k : Nat) (hk : k = n * z.size) : ((Array.range k).map (fun i => z[i % z.size]!)).toList = reps n z.toList := by
  subst hk
  apply List.ext_getElem?
  intro i
  simp only [Array.toList_map, Array.toList_range, List.getElem?_map]
  by_cases hi : i < n * z.size
  · have hz : 0 < z.size := by
      rcases Nat.eq_zero_or_pos z.size with h0 | h0
      · rw [h0] at hi; omega
      · exact h0
    have hm : i % z.size < z.size := Nat.mod_lt _ hz
    rw [reps_get z.toList n i (by simpa using hi)]
    simp only [Array.length_toList]
    rw [List.getElem?_range hi, Option.map_some, Array.getElem?_toList, Array.getElem?_eq_getElem hm]
    congr 1
    simp [getElem!_pos z (i % z.size) hm]
  · rw [List.getElem?_eq_none (l := reps n z.toList) (by rw [reps_length]; simpa using Nat.le_of_not_lt hi), List.getElem?_eq_none (by simpa using Nat.le_of_not_lt hi)]
    rfl
theorem reps_self (z : List Value) (hz : z.all selfS = true) : ∀ n, (reps n z).all selfS = true
  | 0 => rfl
  | n + 1 => by rw [reps, List.all_append, hz, reps_self z hz n]; rfl

/-! ### parts laid into cells -/
theorem foldl_setAt : ∀ (vs : List Value) (k off : Nat) (cells : Array Value),
    ((vs.zipIdx k).foldl (fun (cs : Array Value) (p : Value × Nat) => cs.setIfInBounds (off + p.2) p.1) cells).toList = setAt cells.toList (off + k) vs
  | [], _, _, _ => rfl
  | v :: vs, k, off, cells => by
    simp only [List.zipIdx_cons, List.foldl_cons, setAt]
    rw [foldl_setAt vs (k + 1) off]
    simp [Nat.add_assoc]
theorem foldl_arr (vs : Array Value) (off : Nat) (cells : Array Value) :
    (vs.zipIdx.foldl (fun (cs : Array Value) (x : Value × Nat) => match x with | (c, j) => cs.setIfInBounds (off + j) c) cells).toList = setAt cells.toList off vs.toList := by
  rw [← Array.foldl_toList, Array.toList_zipIdx]
  exact foldl_setAt vs.toList 0 off cells

/-- Parts and their places, on both sides. -/
inductive PR (m : Map) (place : Nat → Option (Nat × Nat)) : List (Nat × Nat × Value) → List (Nat × Value) → Prop
  | nil : PR m place [] []
  | cons (i off size : Nat) (v v' : Value) (l : List (Nat × Nat × Value)) (l' : List (Nat × Value)) (hp : place i = some (off, size)) (hv : VR m v v') (h : PR m place l l') :
      PR m place ((off, size, v) :: l) ((i, v') :: l')

theorem fill_sim {place : Nat → Option (Nat × Nat)} {l : List (Nat × Nat × Value)} {l' : List (Nat × Value)} (hl : PR m place l l') : ∀ {z : List Value} {z' : Array Value} {cs : List Value}, VL m z z'.toList →
    fillIn z l = some cs → (z.all scalar = true → cs.all scalar = true) ∧ ∃ cs', Instr.fill place z' l' = some cs' ∧ VL m cs cs'.toList := by
  induction hl with
  | nil => intro z z' cs hz hc; obtain rfl := Option.some.inj hc; exact ⟨id, z', rfl, hz⟩
  | cons i off size v v' l l' hp hv _ ih =>
    intro z z' cs hz hc
    simp only [fillIn] at hc
    split at hc
    · rename_i fs hf
      obtain ⟨k1, k2, k3, k4⟩ := flat_sim hv hf
      split at hc
      · rename_i hle
        have hzl := hz.1
        have hcond : (decide (v'.cells.size ≠ size) || decide (off + v'.cells.size > z'.size)) = false := by
          have a1 : v'.cells.size = size := by omega
          have a2 : ¬ (off + v'.cells.size > z'.size) := by simp at hzl; omega
          simp [a1, a2]
          omega
        obtain ⟨hs, cs', h1, h2⟩ := ih (z := setAt z off fs) (z' := v'.cells.zipIdx.foldl (fun (cs : Array Value) (x : Value × Nat) => match x with | (c, j) => cs.setIfInBounds (off + j) c) z') (by rw [foldl_arr]; exact VL.setAt off hz k1) hc
        refine ⟨fun hz => hs (setAt_all _ _ _ hz k4), cs', ?_, h2⟩
        simp only [Instr.fill, hp]
        rw [if_neg (by simpa using hcond)]
        exact h1
      · simp at hc
    · simp at hc

theorem sim_buildArr (e : Emb P S m h w) {t t' : TypeId} {n : Nat} (ht : P.underlying t = some (.array n t')) (hft : hasT P t' = true) {z : List Value} (hz : zeroC P t = some z) {ps : List (Nat × Value)} {ps' : Array (Nat × Value)}
    (hp : PR m (fun i => some (i * P.cellsOf t', P.cellsOf t')) (ps.map fun x => (x.1 * P.cellsOf t', P.cellsOf t', x.2)) ps'.toList) {v : Value} {h1 : Heap}
    (hc : cop (.build z (ps.map fun x => (x.1 * P.cellsOf t', P.cellsOf t', x.2))) h = some (v, h1)) : Did P S m h w (do pure (.value (← Instr.build t ps'))) v h1 := by
  obtain ⟨d, i, hu, hi⟩ := hasT_info hft
  obtain ⟨zv, iz, z1, z2, z3, z4, z5, z6⟩ := zeroC_some hz
  simp only [cop, Option.map_eq_some_iff, Prod.mk.injEq] at hc
  obtain ⟨cs, hcs, rfl, rfl⟩ := hc
  obtain ⟨hsc, cs', hf, hv⟩ := fill_sim hp (z := z) (z' := zv.cells) (by rw [z2]; exact VL.selfS z3) hcs
  refine Did.same e (v' := .agg cs') ?_ (VR.agg_of (by simpa using hv))
  simp only [Instr.build, Sem.run_bind, run_zeroValue' w z1, run_underlying' w ht, Result.andThen_ok, run_sizeOf' w hi, hf, Sem.run_pure]

theorem run_places (fs : List Field) (hfs : ∀ f ∈ fs, (P.info? f.type).isSome = true) :
    (fs.mapM fun f => do pure (f.offset, ← sizeOf f.type) : Sem (List (Nat × Nat))).run P w = .ok (fs.map fun f => (f.offset, P.cellsOf f.type)) w := by
  induction fs with
  | nil => rfl
  | cons f fs ih =>
    have h1 := hfs f (by simp)
    cases hi : P.info? f.type with
    | none => rw [hi] at h1; simp at h1
    | some i =>
      simp only [List.mapM_cons, Sem.run_bind, run_sizeOf' w hi, Result.andThen_ok, Sem.run_pure, ih (fun g hg => hfs g (by simp [hg])), List.map_cons]

theorem sim_buildStruct (e : Emb P S m h w) {t : TypeId} {fs : Array Field} (ht : P.underlying t = some (.struct fs)) (hfs : ∀ f ∈ fs.toList, (P.info? f.type).isSome = true) {z : List Value} (hz : zeroC P t = some z) {l : List (Nat × Nat × Value)} {ps' : Array (Nat × Value)}
    (hp : PR m (fun i => (fs[i]?).map fun f => (f.offset, P.cellsOf f.type)) l ps'.toList) {v : Value} {h1 : Heap}
    (hc : cop (.build z l) h = some (v, h1)) : Did P S m h w (do pure (.value (← Instr.build t ps'))) v h1 := by
  obtain ⟨zv, iz, z1, z2, z3, z4, z5, z6⟩ := zeroC_some hz
  simp only [cop, Option.map_eq_some_iff, Prod.mk.injEq] at hc
  obtain ⟨cs, hcs, rfl, rfl⟩ := hc
  obtain ⟨hsc, cs', hf, hv⟩ := fill_sim hp (z := z) (z' := zv.cells) (by rw [z2]; exact VL.selfS z3) hcs
  have hpl : (fs.mapM fun f => do pure (f.offset, ← sizeOf f.type) : Sem (Array (Nat × Nat))).run P w = .ok (fs.map fun f => (f.offset, P.cellsOf f.type)) w := by
    rw [Array.mapM_eq_mapM_toList]
    rw [Sem.run_map, run_places fs.toList hfs]
    simp only [Result.andThen_ok]
    congr 1
    apply Array.ext'
    simp
  have hpl2 : (fun i : Nat => (fs.map fun f : Field => (f.offset, P.cellsOf f.type))[i]?) = (fun i => (fs[i]?).map fun f => (f.offset, P.cellsOf f.type)) := by
    funext i; simp
  refine Did.same e (v' := .agg cs') ?_ (VR.agg_of (by simpa using hv))
  simp only [Instr.build, Sem.run_bind, run_zeroValue' w z1, run_underlying' w ht, Result.andThen_ok, hpl, hpl2, hf, Sem.run_pure]

theorem newSlice {n c c' tot : Nat} {t : TypeId} (hnc : n ≤ c) (hcc : c ≤ c') (blk : Nat) (htot : c' * P.cellsOf t ≤ tot) (b : Nat) (g : Bool) (m : Map) :
    VR (m.put b ⟨blk, 0, tot, P.cellsOf t, g⟩) (.slice (some ⟨b, 0, none⟩) n c) (.slice (some ⟨blk, 0, none⟩) n c') := by
  have := VR.slice (m := m.put b ⟨blk, 0, tot, P.cellsOf t, g⟩) b 0 n c c' ⟨blk, 0, tot, P.cellsOf t, g⟩ (by simp [Map.put]) hnc hcc (fun _ => by simpa using htot)
  simpa using this

theorem sim_buildSlice (e : Emb P S m h w) (hfr : m h.next = none) {t t' : TypeId} (ht : P.underlying t = some (.slice t')) {z : List Value} (hz : zeroC P t' = some z) {n : Nat} (hn : n * P.cellsOf t' ≤ 16777216) {ps : List (Nat × Value)} {ps' : Array (Nat × Value)}
    (hp : PR m (fun i => some (i * P.cellsOf t', P.cellsOf t')) (ps.map fun x => (x.1 * P.cellsOf t', P.cellsOf t', x.2)) ps'.toList) {v : Value} {h1 : Heap}
    (hc : cop (.buildSlice t' n z (ps.map fun x => (x.1 * P.cellsOf t', P.cellsOf t', x.2))) h = some (v, h1)) : Did P S m h w (do pure (.value (← Instr.buildSlice t n ps'))) v h1 := by
  obtain ⟨zv, iz, z1, z2, z3, z4, z5, z6⟩ := zeroC_some hz
  simp only [cop, Option.map_eq_some_iff, Prod.mk.injEq] at hc
  obtain ⟨cs, hcs, rfl, rfl⟩ := hc
  have zsz : zv.cells.size = P.cellsOf t' := by rw [← Array.length_toList, z2, z4]
  have hzz : ((Array.range (n * P.cellsOf t')).map fun i => zv.cells[i % zv.cells.size]!).toList = reps n z := by
    rw [zeros_eq zv.cells n _ (by rw [zsz]), z2]
  obtain ⟨hsc, cs', hf, hv⟩ := fill_sim hp (z := reps n z) (z' := (Array.range (n * P.cellsOf t')).map fun i => zv.cells[i % zv.cells.size]!) (by rw [hzz]; exact VL.selfS (reps_self z z3 n)) hcs
  have hlen : ∀ (l : List (Nat × Nat × Value)) (a b : List Value), fillIn a l = some b → b.length = a.length := by
    intro l
    induction l with
    | nil => intro a b hb; obtain rfl := Option.some.inj hb; rfl
    | cons x l ih =>
      intro a b hb
      obtain ⟨o, s, v⟩ := x
      simp only [fillIn] at hb
      split at hb
      · split at hb
        · rw [ih _ _ hb, setAt_length]
        · simp at hb
      · simp at hb
  have hsz : cs'.size = n * P.cellsOf t' := by
    have h1 := hlen _ _ _ hcs
    rw [reps_length, z4] at h1
    have h2 := hv.1
    simp at h2; omega
  refine Did.val (s := Instr.buildSlice t n ps') (v' := .slice (some ⟨w.heap.size, 0, none⟩) n n) (w1 := w.alloc (.cells cs' t')) ?_ (newSlice (Nat.le_refl n) (Nat.le_refl n) w.heap.size (by omega) h.next _ m) (newCells0 e hfr t' .grow hv (hsc (scalars_of_self (reps_self z z3 n))))
  have hng : ¬ (n * P.cellsOf t' > 2 ^ 24) := by omega
  by_cases h0 : n * P.cellsOf t' = 0
  · have hf0 : Instr.fill (fun i => some (i * P.cellsOf t', P.cellsOf t')) ((Array.range 0).map fun i => (#[] : Array Value)[i % (#[] : Array Value).size]!) ps'.toList = some cs' := by
      rw [← hf]; congr 1; rw [h0]; simp
    have hng0 : ¬ ((0 : Nat) > 2 ^ 24) := by omega
    simp only [Instr.buildSlice, Sem.run_bind, run_underlying' w ht, Result.andThen_ok, run_sizeOf' w z6, hng0, if_false, Sem.run_pure, h0, if_true, hf0, newRow, run_newObj_alloc]
  · simp only [Instr.buildSlice, Sem.run_bind, run_underlying' w ht, Result.andThen_ok, run_sizeOf' w z6, hng, if_false, Sem.run_pure, h0, run_zeroValue' w z1, hf, newRow, run_newObj_alloc]

theorem sim_makeSlice (e : Emb P S m h w) (hfr : m h.next = none) {t t' : TypeId} (ht : P.underlying t = some (.slice t')) {z : List Value} (hz : zeroC P t' = some z) {x x' y y' : Value} (hx : VR m x x') (hy : VR m y y') {v : Value} {h1 : Heap}
    (hc : cop (.makeSlice t' (P.cellsOf t') (P.bytesOf t') z x y) h = some (v, h1)) : Did P S m h w (do pure (.value (← Instr.makeSlice t x' y'))) v h1 := by
  obtain ⟨zv, iz, z1, z2, z3, z4, z5, z6⟩ := zeroC_some hz
  simp only [cop] at hc
  split at hc
  · rename_i n c
    obtain rfl := hx.int_inv
    obtain rfl := hy.int_inv
    split at hc
    · rename_i hcond
      obtain ⟨q1, q2, q3, q4, q5⟩ := hcond
      simp only [Option.some.injEq, Prod.mk.injEq] at hc
      obtain ⟨rfl, rfl⟩ := hc
      have zsz : zv.cells.size = P.cellsOf t' := by rw [← Array.length_toList, z2, z4]
      have wn : IntKind.i64.wrap n = n := by
        show (if (true && decide (n % 18446744073709551616 ≥ 9223372036854775808)) = true then n % 18446744073709551616 - 18446744073709551616 else n % 18446744073709551616) = n
        simp only [Bool.true_and, decide_eq_true_eq]; split <;> omega
      have wc : IntKind.i64.wrap c = c := by
        show (if (true && decide (c % 18446744073709551616 ≥ 9223372036854775808)) = true then c % 18446744073709551616 - 18446744073709551616 else c % 18446744073709551616) = c
        simp only [Bool.true_and, decide_eq_true_eq]; split <;> omega
      have hb : ¬ ((decide (c < 0) || decide ((P.bytesOf t' : Int) * c > 2 ^ 48)) || decide (n < 0) || decide (n > c)) = true := by
        have h1 : ¬ (c < 0) := by omega
        have h2 : ¬ (n < 0) := by omega
        have h3 : ¬ (n > c) := by omega
        have h4 : ¬ ((P.bytesOf t' : Int) * c > 2 ^ 48) := by
          rw [Int.mul_comm]
          have : (2 : Int) ^ 48 = 281474976710656 := by decide
          omega
        simp only [h1, h2, h3, h4, decide_false, Bool.or_false, Bool.false_eq_true, not_false_eq_true]
      have hcells : ∀ (cells : Array Value), cells.toList = reps c.toNat z → cells.size = c.toNat * P.cellsOf t' := by
        intro cells hcl
        rw [← Array.length_toList, hcl, reps_length, z4]
      have hby : iz.bytes = P.bytesOf t' := by simp [Program.bytesOf, z6]
      have key : ∃ cells : Array Value, cells.toList = reps c.toNat z ∧ (Instr.makeSlice t (.int .i64 n) (.int .i64 c)).run P w = .ok (.slice (some ⟨w.heap.size, 0, none⟩) n.toNat c.toNat) (w.alloc (.cells cells t')) := by
        by_cases h0 : c.toNat * P.cellsOf t' = 0
        · refine ⟨(Array.range (c.toNat * P.cellsOf t')).map fun i => (#[] : Array Value)[i % (#[] : Array Value).size]!, ?_, ?_⟩
          · have : (reps c.toNat z).length = 0 := by rw [reps_length, z4]; exact h0
            rw [List.length_eq_zero_iff.1 this, h0]; simp
          · simp only [Instr.makeSlice, asInt, asIntOf, Sem.run_bind, Sem.run_map, run_underlying' w ht, Result.andThen_ok, Sem.run_pure, run_typeInfo' w z6, hby, wn, wc, hb, Bool.false_eq_true, if_false, run_askRoom, run_sizeOf' w z6, h0, if_true, newRow, run_newObj_alloc]
        · refine ⟨(Array.range (c.toNat * P.cellsOf t')).map fun i => zv.cells[i % zv.cells.size]!, ?_, ?_⟩
          · rw [zeros_eq zv.cells c.toNat _ (by rw [zsz]), z2]
          · simp only [Instr.makeSlice, asInt, asIntOf, Sem.run_bind, Sem.run_map, run_underlying' w ht, Result.andThen_ok, Sem.run_pure, run_typeInfo' w z6, hby, wn, wc, hb, Bool.false_eq_true, if_false, run_askRoom, run_sizeOf' w z6, h0, run_zeroValue' w z1, newRow, run_newObj_alloc]
      obtain ⟨cells, hcl, hrun⟩ := key
      have hsz := hcells cells hcl
      exact Did.val (s := Instr.makeSlice t (.int .i64 n) (.int .i64 c)) hrun (newSlice (by omega) (Nat.le_refl _) w.heap.size (by omega) h.next _ m) (newCells0 e hfr t' .grow (by rw [hcl]; exact VL.selfS (reps_self z z3 _)) (scalars_of_self (reps_self z z3 _)))
    · simp at hc
  · simp at hc
end
end Go.Proofs.Ytekojjilbchkgaa.Can
