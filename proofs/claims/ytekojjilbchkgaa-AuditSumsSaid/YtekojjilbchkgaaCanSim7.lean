/- One operation: what the canonical machine does the program's does (maps, iterators, the rest). No condition. -/
import Derived.Test.YtekojjilbchkgaaCanSim5
import Derived.Test.YtekojjilbchkgaaCanSim6
namespace Go.Proofs.Ytekojjilbchkgaa.Can
open Go
set_option linter.unusedSimpArgs false
set_option linter.unusedVariables false

section
variable {P : Program} {S : Stay} {m : Map} {h : Heap} {w : World}

theorem obj_map (e : Emb P S m h w) {r : Nat} {L : Loc} (hr : m r = some L) {es : List MapEntry} {clock : Nat} (ho : h.obj r = .map es clock) :
    ∃ es' : Array MapEntry, w.heap[L.blk]? = some (.map es' clock) ∧ EntL m es es'.toList := by
  have := e.obj r L hr
  rw [ho] at this
  exact this
theorem run_getObj' {r : Nat} {o : Go.Obj} (ho : w.heap[r]? = some o) (hc : ∀ c t fr, o ≠ .cells c t fr) : (getObj r).run P w = .ok o w := by
  cases o <;> first | (exact absurd rfl (hc _ _ _)) | simp [getObj, Sem.run, ho]
theorem run_setObj' {r : Nat} {o o1 : Go.Obj} (ho : w.heap[r]? = some o) (hc : ∀ c t fr, o ≠ .cells c t fr) : (setObj r o1).run P w = .ok () { w with heap := w.heap.setIfInBounds r o1 } := by
  cases o <;> first | (exact absurd rfl (hc _ _ _)) | simp [setObj, Sem.run, ho]
/-- An object of another kind than cells is laid anew. -/
theorem upd_obj (e : Emb P S m h w) {r : Nat} {L : Loc} (hr : m r = some L) {o1 : Go.Obj} {ob : Obj} (hwr : (h.obj r).wr = true) (hob : ∀ w1 : World, w1.heap[L.blk]? = some o1 → ObjR P m L w1 ob) :
    Out P S m h w m (h.upd r ob) { w with heap := w.heap.setIfInBounds L.blk o1 } := by
  refine Out.upd e r L ob hr hwr (fun k hk => ?_) (by simp) rfl rfl rfl (hob _ ?_)
  · show (w.heap.setIfInBounds L.blk o1)[k]? = _
    rw [Array.getElem?_setIfInBounds_ne (fun h => hk h.symm)]
  · show (w.heap.setIfInBounds L.blk o1)[L.blk]? = _
    rw [Array.getElem?_setIfInBounds_self_of_lt (e.lt r L hr (by
      cases hx : h.obj r with
      | gone => rw [hx] at hwr; simp [Obj.wr] at hwr
      | _ => rfl))]

theorem EntL.getVal {es : List MapEntry} {es' : Array MapEntry} (he : EntL m es es'.toList) {i : Nat} (hi : i < es.length) (d d' : Value) : VR m (((es[i]?).map (·.val)).getD d) (((es'[i]?).map (·.val)).getD d') := by
  have hl := he.1
  have hi' : i < es'.size := by simp at hl; omega
  rw [List.getElem?_eq_getElem hi, Array.getElem?_eq_getElem hi']
  exact (he.2 i es[i] es'[i] (List.getElem?_eq_getElem hi) (by simp [hi'])).2.2

theorem sim_lookup (e : Emb P S m h w) {t q t' : TypeId} (ht : P.underlying t = some (.map q t')) {z : Value} (hz : zeroS P t' = some z) {kk : KK} (hk : keyK P q = some kk) (ok : Bool) {x x' y y' : Value} (hx : VR m x x') (hy : VR m y y') {v : Value} {h1 : Heap}
    (hc : cop (.lookup kk z ok x y) h = some (v, h1)) : Did P S m h w (do pure (.value (← Instr.lookup t x' y' ok))) v h1 := by
  obtain ⟨z1, z2⟩ := zeroS_some hz
  have fin : ∀ {u u' : Value} (b : Bool), VR m u u' → VR m (if ok then .tuple #[u, .bool b] else u) (if ok then .tuple #[u', .bool b] else u') := by
    intro u u' b hu
    cases ok with
    | true => simp only [if_true]; exact VR.tuple_of (VL.cons hu (VL.cons (.bool b) (VL.nil m)))
    | false => simpa using hu
  simp only [cop] at hc
  split at hc
  · simp only [Option.map_eq_some_iff, Prod.mk.injEq] at hc
    obtain ⟨b, hb, rfl, rfl⟩ := hc
    obtain rfl := hx.nilMap_inv
    obtain ⟨hf, _⟩ := find_sim (w := w) (es := []) (es' := #[]) (r := none) hk hy ⟨rfl, fun i x y h => by simp at h⟩ rfl
    refine Did.same e ?_ (fin false (VR.selfV z2))
    have hck := run_checkKey (w := w) hk hy hb true
    simp only [Instr.lookup, Sem.run_bind, run_underlying' w ht, Result.andThen_ok, Sem.run_pure, Array.isEmpty_empty, hck, hf, Option.map_none, run_zeroValue' w z1]
  · rename_i r
    obtain ⟨L, hr, rfl⟩ := hx.map_inv
    split at hc
    · rename_i es clock ho
      simp only [Option.bind_eq_some_iff, Option.map_eq_some_iff] at hc
      obtain ⟨b, hb, fr, hfr, hc⟩ := hc
      obtain ⟨es', hblk, he⟩ := obj_map e hr ho
      obtain ⟨hf, hlt⟩ := find_sim (w := w) hk hy he hfr
      have hgo := run_getObj' (P := P) hblk (by simp)
      cases fr with
      | none =>
        simp only [Prod.mk.injEq] at hc
        obtain ⟨rfl, rfl⟩ := hc
        refine Did.same e ?_ (fin false (VR.selfV z2))
        have hck := run_checkKey (w := w) hk hy hb es'.isEmpty
        simp only [Instr.lookup, Sem.run_bind, run_underlying' w ht, Result.andThen_ok, Sem.run_pure, hgo, hck, hf, Option.map_none, run_zeroValue' w z1]
      | some i =>
        simp only [Prod.mk.injEq] at hc
        obtain ⟨rfl, rfl⟩ := hc
        refine Did.same e ?_ (fin true (he.getVal (hlt i rfl) z default))
        have hck := run_checkKey (w := w) hk hy hb es'.isEmpty
        simp only [Instr.lookup, Sem.run_bind, run_underlying' w ht, Result.andThen_ok, Sem.run_pure, hgo, hck, hf, Option.map_some]
    · simp at hc
  · simp at hc

/-! ### writing into a map -/
theorem eqS_same {k : SK} {a b : Value} (hr : eqS k a b = some true) (n : Nat) : Instr.sameBits n b a = true := by
  unfold eqS at hr
  split at hr
  · split at hr
    · rename_i hk
      subst hk
      have := Option.some.inj hr
      simp at this
      subst this
      cases n <;> simp [Instr.sameBits]
    · simp at hr
  · rename_i x y
    have hxy := Option.some.inj hr
    rw [← beq_toListBytes] at hxy
    have : (y == x) = true := by
      rw [beq_toListBytes] at hxy ⊢
      simp at hxy ⊢; exact hxy.symm
    cases n <;> simp only [Instr.sameBits, this]
  · have := Option.some.inj hr
    simp at this
    subst this
    cases n <;> simp [Instr.sameBits]
  · simp at hr

theorem eqL_same (n : Nat) : ∀ {ks : List SK} {x y x' y' : List Value}, eqL ks x y = some true → VL m x x' → VL m y y' → y'.length = x'.length ∧ ((y'.zip x').all fun p => Instr.sameBits n p.1 p.2) = true
  | [], x, y, x', y', hr, hx, hy => by
    cases x <;> cases y <;> simp [eqL] at hr
    rw [hx.of_nil, hy.of_nil]; simp
  | k :: ks, x, y, x', y', hr, hx, hy => by
    cases x with
    | nil => simp [eqL] at hr
    | cons a x => cases y with
      | nil => simp [eqL] at hr
      | cons b y =>
        simp only [eqL, Option.bind_eq_some_iff, Option.map_eq_some_iff] at hr
        obtain ⟨r1, h1, r2, h2, h3⟩ := hr
        simp only [Bool.and_eq_true] at h3
        obtain ⟨rfl, rfl⟩ := h3
        obtain ⟨a', tx, rfl, ha, htx⟩ := hx.of_cons
        obtain ⟨b', ty, rfl, hb, hty⟩ := hy.of_cons
        have hab : a' = a ∧ b' = b := by
          unfold eqS at h1
          split at h1
          · exact ⟨ha.int_inv, hb.int_inv⟩
          · exact ⟨ha.string_inv, hb.string_inv⟩
          · exact ⟨ha.bool_inv, hb.bool_inv⟩
          · simp at h1
        obtain ⟨rfl, rfl⟩ := hab
        obtain ⟨q1, q2⟩ := eqL_same n h2 htx hty
        simp only [List.length_cons, q1, List.zip_cons_cons, List.all_cons, eqS_same h1 n, Bool.true_and, q2, and_self]

theorem key_stays {kk : KK} {a b a' b' : Value} (hr : keyEq kk a b = some true) (ha : VR m a a') (hb : VR m b b') : (Instr.keyThatStays b' a').run P w = .ok a' w := by
  have : Instr.sameBits 10000 b' a' = true := by
    cases kk with
    | one k =>
      have h1 : eqS k a b = some true := hr
      have hab : a' = a ∧ b' = b := by
        unfold eqS at h1
        split at h1
        · exact ⟨ha.int_inv, hb.int_inv⟩
        · exact ⟨ha.string_inv, hb.string_inv⟩
        · exact ⟨ha.bool_inv, hb.bool_inv⟩
        · simp at h1
      obtain ⟨rfl, rfl⟩ := hab
      exact eqS_same h1 10000
    | agg ks =>
      cases a with
      | agg xs => cases b with
        | agg ys =>
          obtain ⟨xs', rfl, hxv⟩ := ha.agg_inv
          obtain ⟨ys', rfl, hyv⟩ := hb.agg_inv
          obtain ⟨q1, q2⟩ := eqL_same 9999 (show eqL ks xs.toList ys.toList = some true from hr) hxv hyv
          have q1' : ys'.size = xs'.size := by simpa using q1
          show (ys'.size == xs'.size && (ys'.toList.zip xs'.toList).all fun (x, y) => Instr.sameBits 9999 x y) = true
          rw [q1', beq_self_eq_true, Bool.true_and]; exact q2
        | _ => simp [keyEq] at hr
      | _ => simp [keyEq] at hr
  simp only [Instr.keyThatStays, this, if_true, Sem.run_pure]

theorem findEntry_eq {kk : KK} {k : Value} : ∀ {es : List MapEntry} {i j : Nat}, findEntry kk k es i = some (some j) → ∃ x, es[j - i]? = some x ∧ keyEq kk k x.key = some true ∧ i ≤ j
  | [], i, j, h => by simp [findEntry] at h
  | x :: es, i, j, h => by
    simp only [findEntry, Option.bind_eq_some_iff] at h
    obtain ⟨b, hb, h⟩ := h
    cases b with
    | true => simp only [if_true, Option.some.injEq] at h; subst h; exact ⟨x, by simp, hb, Nat.le_refl _⟩
    | false =>
      simp only [Bool.false_eq_true, if_false] at h
      obtain ⟨y, h1, h2, h3⟩ := findEntry_eq h
      exact ⟨y, by rw [show j - i = (j - (i + 1)) + 1 from by omega]; simpa using h1, h2, by omega⟩

theorem EntL.modify {es es' : List MapEntry} (he : EntL m es es') (i : Nat) {f f' : MapEntry → MapEntry} (hf : ∀ x y, EntR m x y → EntR m (f x) (f' y)) : EntL m (es.modify i f) (es'.modify i f') := by
  refine ⟨by simp [he.1], fun j x y hx hy => ?_⟩
  rw [List.getElem?_modify] at hx hy
  simp only [Option.map_eq_map, Option.map_eq_some_iff] at hx hy
  obtain ⟨x0, hx0, rfl⟩ := hx
  obtain ⟨y0, hy0, rfl⟩ := hy
  have := he.2 j x0 y0 hx0 hy0
  split
  · exact hf _ _ this
  · exact this
theorem EntL.snoc {es es' : List MapEntry} (he : EntL m es es') {x y : MapEntry} (h : EntR m x y) : EntL m (es ++ [x]) (es' ++ [y]) := by
  refine ⟨by simp [he.1], fun j u v hu hv => ?_⟩
  have hl := he.1
  by_cases hj : j < es.length
  · rw [List.getElem?_append_left hj] at hu
    rw [List.getElem?_append_left (by omega)] at hv
    exact he.2 j u v hu hv
  · rw [List.getElem?_append_right (by omega)] at hu
    rw [List.getElem?_append_right (by omega)] at hv
    rw [← hl] at hv
    have : j - es.length = 0 := by
      cases hq : j - es.length with
      | zero => rfl
      | succ q => rw [hq] at hu; simp at hu
    rw [this] at hu hv
    simp at hu hv; subst hu; subst hv; exact h

theorem sim_mapUpdate (e : Emb P S m h w) {t q t' : TypeId} (ht : P.underlying t = some (.map q t')) {kk : KK} (hk : keyK P q = some kk) {x x' y y' z z' : Value} (hx : VR m x x') (hy : VR m y y') (hzv : VR m z z') {v : Value} {h1 : Heap}
    (hc : cop (.mapUpdate kk x y z) h = some (v, h1)) : Did P S m h w (do Instr.mapUpdate t x' y' z'; pure .skip) v h1 := by
  simp only [cop] at hc
  split at hc
  · rename_i r
    obtain ⟨L, hr, rfl⟩ := hx.map_inv
    split at hc
    · rename_i es clock ho
      simp only [Option.bind_eq_some_iff, Option.map_eq_some_iff] at hc
      obtain ⟨b, hb, fr, hfr, hc⟩ := hc
      obtain ⟨es', hblk, he⟩ := obj_map e hr ho
      obtain ⟨hf, hlt⟩ := find_sim (w := w) hk hy he hfr
      have hgo := run_getObj' (P := P) hblk (by simp)
      have hck := run_checkKey (w := w) hk hy hb false
      have hwr : (h.obj r).wr = true := by rw [ho]; rfl
      cases fr with
      | none =>
        simp only [Prod.mk.injEq] at hc
        obtain ⟨rfl, rfl⟩ := hc
        refine Did.unit (w1 := { w with heap := w.heap.setIfInBounds L.blk (.map (es'.push ⟨y', z', clock⟩) (clock + 1)) }) ?_ (upd_obj e hr hwr fun w1 hw1 => ⟨_, hw1, by simpa using he.snoc (x := ⟨y, z, clock⟩) (y := ⟨y', z', clock⟩) ⟨rfl, hy, hzv⟩⟩)
        have hset := run_setObj' (P := P) (o1 := .map (es'.push ⟨y', z', clock⟩) (clock + 1)) hblk (by simp)
        simp only [Instr.mapUpdate, Sem.run_bind, run_underlying' w ht, Result.andThen_ok, Sem.run_pure, hgo, hck, hf, Option.map_none, hset]
      | some i =>
        simp only [Prod.mk.injEq] at hc
        obtain ⟨rfl, rfl⟩ := hc
        obtain ⟨xe, hxe, hkeq, _⟩ := findEntry_eq hfr
        simp only [Nat.sub_zero] at hxe
        have hl := he.1
        have hi := hlt i rfl
        have hi' : i < es'.size := by simp at hl; omega
        have hye : es'[i]? = some es'[i] := Array.getElem?_eq_getElem hi'
        have hstay := key_stays (P := P) (w := w) hkeq hy (he.2 i xe es'[i] hxe (by simp [hi'])).2.1
        refine Did.unit (w1 := { w with heap := w.heap.setIfInBounds L.blk (.map (es'.modify i fun x => { x with key := y', val := z' }) clock) }) ?_ (upd_obj e hr hwr fun w1 hw1 => ⟨_, hw1, ?_⟩)
        · have hset := run_setObj' (P := P) (o1 := .map (es'.modify i fun x => { x with key := y', val := z' }) clock) hblk (by simp)
          simp only [Instr.mapUpdate, Sem.run_bind, run_underlying' w ht, Result.andThen_ok, Sem.run_pure, hgo, hck, hf, Option.map_some, hye, Option.getD_some, hstay, hset]
        · rw [Array.toList_modify]
          exact he.modify i fun x0 y0 h0 => ⟨h0.1, hy, hzv⟩
    · simp at hc
  · simp at hc

theorem sim_mapEntry (e : Emb P S m h w) {t q t' : TypeId} (ht : P.underlying t = some (.map q t')) {z : Value} (hz : zeroS P t' = some z) {kk : KK} (hk : keyK P q = some kk) {x x' y y' : Value} (hx : VR m x x') (hy : VR m y y') {v : Value} {h1 : Heap}
    (hc : cop (.mapEntry kk z x y) h = some (v, h1)) : Did P S m h w (do pure (.value (← Instr.mapEntry t x' y'))) v h1 := by
  obtain ⟨z1, z2⟩ := zeroS_some hz
  simp only [cop] at hc
  split at hc
  · rename_i r
    obtain ⟨L, hr, rfl⟩ := hx.map_inv
    split at hc
    · rename_i es clock ho
      simp only [Option.bind_eq_some_iff, Option.map_eq_some_iff] at hc
      obtain ⟨b, hb, fr, hfr, hc⟩ := hc
      obtain ⟨es', hblk, he⟩ := obj_map e hr ho
      obtain ⟨hf, hlt⟩ := find_sim (w := w) hk hy he hfr
      have hgo := run_getObj' (P := P) hblk (by simp)
      have hck := run_checkKey (w := w) hk hy hb false
      have hwr : (h.obj r).wr = true := by rw [ho]; rfl
      cases fr with
      | none =>
        simp only [Prod.mk.injEq] at hc
        obtain ⟨rfl, rfl⟩ := hc
        refine Did.val (s := Instr.mapEntry t (.map (some L.blk)) y') (v' := .tuple #[z, goInt clock]) (w1 := { w with heap := w.heap.setIfInBounds L.blk (.map (es'.push ⟨y', z, clock⟩) (clock + 1)) }) ?_ (VR.tuple_of (VL.cons (VR.selfV z2) (VL.cons (.int _ _) (VL.nil m)))) (upd_obj e hr hwr fun w1 hw1 => ⟨_, hw1, by simpa using he.snoc (x := ⟨y, z, clock⟩) (y := ⟨y', z, clock⟩) ⟨rfl, hy, VR.selfV z2⟩⟩)
        have hset := run_setObj' (P := P) (o1 := .map (es'.push ⟨y', z, clock⟩) (clock + 1)) hblk (by simp)
        simp only [Instr.mapEntry, Sem.run_bind, run_underlying' w ht, Result.andThen_ok, Sem.run_pure, hgo, hck, hf, Option.map_none, run_zeroValue' w z1, hset]
        rfl
      | some i =>
        simp only [Prod.mk.injEq] at hc
        obtain ⟨rfl, rfl⟩ := hc
        obtain ⟨xe, hxe, hkeq, _⟩ := findEntry_eq hfr
        simp only [Nat.sub_zero] at hxe
        have hl := he.1
        have hi := hlt i rfl
        have hi' : i < es'.size := by simp at hl; omega
        have hye : es'[i]? = some es'[i] := Array.getElem?_eq_getElem hi'
        have hent := he.2 i xe es'[i] hxe (by simp [hi'])
        have hstay := key_stays (P := P) (w := w) hkeq hy hent.2.1
        refine Did.val (s := Instr.mapEntry t (.map (some L.blk)) y') (v' := .tuple #[es'[i].val, goInt es'[i].born]) (w1 := { w with heap := w.heap.setIfInBounds L.blk (.map (es'.modify i fun x => { x with key := y' }) clock) }) ?_ (VR.tuple_of (VL.cons ?_ (VL.cons ?_ (VL.nil m)))) (upd_obj e hr hwr fun w1 hw1 => ⟨_, hw1, ?_⟩)
        · have hset := run_setObj' (P := P) (o1 := .map (es'.modify i fun x => { x with key := y' }) clock) hblk (by simp)
          simp only [Instr.mapEntry, Sem.run_bind, run_underlying' w ht, Result.andThen_ok, Sem.run_pure, hgo, hck, hf, Option.map_some, hye, Option.getD_some, hstay, hset]
          rfl
        · rw [hxe]; exact hent.2.2
        · rw [hxe]; simp only [Option.map_some, Option.getD_some, hent.1]; exact .int _ _
        · rw [Array.toList_modify]
          exact he.modify i fun x0 y0 h0 => ⟨h0.1, hy, h0.2.2⟩
    · simp at hc
  · simp at hc

theorem findIdx_rel {es es' : List MapEntry} (he : EntL m es es') (born : Int) : es'.findIdx? (fun x => (x.born : Int) == born) = es.findIdx? (fun x => (x.born : Int) == born) := by
  induction es generalizing es' with
  | nil => have : es' = [] := by have := he.1; simp at this; exact List.length_eq_zero_iff.1 this.symm
           rw [this]
  | cons x es ih =>
    cases es' with
    | nil => have := he.1; simp at this
    | cons y es' =>
      have h0 := he.2 0 x y rfl rfl
      have := ih (es' := es') ⟨by have := he.1; simpa using this, fun j u v hu hv => he.2 (j + 1) u v (by simpa using hu) (by simpa using hv)⟩
      simp only [List.findIdx?_cons, h0.1, this]

theorem sim_entryStore (e : Emb P S m h w) (t : TypeId) {x x' y y' z z' : Value} (hx : VR m x x') (hy : VR m y y') (hzv : VR m z z') {v : Value} {h1 : Heap}
    (hc : cop (.entryStore x y z) h = some (v, h1)) : Did P S m h w (do Instr.entryStore t x' y' z'; pure .skip) v h1 := by
  simp only [cop] at hc
  split at hc
  · rename_i r k born
    obtain ⟨L, hr, rfl⟩ := hx.map_inv
    obtain rfl := hy.int_inv
    split at hc
    · rename_i es clock ho
      split at hc
      · rename_i i hfi
        simp only [Option.some.injEq, Prod.mk.injEq] at hc
        obtain ⟨rfl, rfl⟩ := hc
        obtain ⟨es', hblk, he⟩ := obj_map e hr ho
        have hgo := run_getObj' (P := P) hblk (by simp)
        have hwr : (h.obj r).wr = true := by rw [ho]; rfl
        have hfi' : es'.findIdx? (fun x => (x.born : Int) == born) = some i := by
          have h3 := findIdx_rel he born
          obtain ⟨l⟩ := es'
          rw [List.findIdx?_toArray]
          exact h3.trans hfi
        refine Did.unit (w1 := { w with heap := w.heap.setIfInBounds L.blk (.map (es'.modify i fun x => { x with val := z' }) clock) }) ?_ (upd_obj e hr hwr fun w1 hw1 => ⟨_, hw1, ?_⟩)
        · have hset := run_setObj' (P := P) (o1 := .map (es'.modify i fun x => { x with val := z' }) clock) hblk (by simp)
          simp only [Instr.entryStore, Sem.run_bind, Sem.run_map, Result.andThen_ok, Sem.run_pure, hgo, asInt, asIntOf, hfi', hset]
        · rw [Array.toList_modify]
          exact he.modify i fun x0 y0 h0 => ⟨h0.1, h0.2.1, hzv⟩
      · simp at hc
    · simp at hc
  · simp at hc

theorem sim_makeMap (e : Emb P S m h w) (hfr : m h.next = none) {t : TypeId} {r : Option Value} (hrun : (Instr.makeMap t r).run P w = .ok (.map (some w.heap.size)) (w.alloc (.map #[] 0))) :
    Did P S m h w (do pure (.value (← Instr.makeMap t r))) (.map (some h.next)) (h.new (.map [] 0)) := by
  have ho := Out.new (w1 := w.alloc (.map #[] 0)) e (.map [] 0) (.map #[] 0) ⟨w.heap.size, 0, 0, 0, false⟩ hfr rfl rfl rfl rfl rfl fun w' hw' => ⟨#[], hw', rfl, fun i x y hx => by simp at hx⟩
  exact Did.val hrun (VR.map (m := m.put h.next ⟨w.heap.size, 0, 0, 0, false⟩) h.next ⟨w.heap.size, 0, 0, 0, false⟩ (by simp [Map.put])) ho

/-! ### iterators -/
theorem sim_range (e : Emb P S m h w) (hfr : m h.next = none) {t : TypeId} (ht : P.underlying t = some .string) {x x' : Value} (hx : VR m x x') {v : Value} {h1 : Heap}
    (hc : cop (.range x) h = some (v, h1)) : Did P S m h w (do pure (.value (← Instr.range t x'))) v h1 := by
  simp only [cop] at hc
  split at hc
  · rename_i s
    simp only [Option.some.injEq, Prod.mk.injEq] at hc
    obtain ⟨rfl, rfl⟩ := hc
    obtain rfl := hx.string_inv
    have ho := Out.new (w1 := w.alloc (.stringIter s 0)) e (.siter s 0) (.stringIter s 0) ⟨w.heap.size, 0, 0, 0, false⟩ hfr rfl rfl rfl rfl rfl fun w' hw' => ⟨hw', rfl⟩
    refine Did.val (s := Instr.range t (.string s)) (v' := .pointer (some ⟨w.heap.size, 0, none⟩)) ?_ (newPtr (L := ⟨w.heap.size, 0, 0, 0, false⟩) rfl m) ho
    simp [Instr.range, run_underlying' w ht]
  · simp at hc

theorem sim_rangeMap (e : Emb P S m h w) (hfr : m h.next = none) {t q t' : TypeId} (ht : P.underlying t = some (.map q t')) {x x' : Value} (hx : VR m x x') {v : Value} {h1 : Heap}
    (hc : cop (.rangeMap x) h = some (v, h1)) : Did P S m h w (do pure (.value (← Instr.range t x'))) v h1 := by
  simp only [cop] at hc
  split at hc
  · simp only [Option.some.injEq, Prod.mk.injEq] at hc
    obtain ⟨rfl, rfl⟩ := hc
    obtain rfl := hx.nilMap_inv
    have ho := Out.new (w1 := w.alloc (.mapIter none 0 #[] 0)) e (.miter none 0 [] 0) (.mapIter none 0 #[] 0) ⟨w.heap.size, 0, 0, 0, false⟩ hfr rfl rfl rfl rfl rfl fun w' hw' => ⟨hw', rfl⟩
    refine Did.val (s := Instr.range t (.map none)) (v' := .pointer (some ⟨w.heap.size, 0, none⟩)) ?_ (newPtr (L := ⟨w.heap.size, 0, 0, 0, false⟩) rfl m) ho
    simp [Instr.range, run_underlying' w ht]
  · rename_i r
    obtain ⟨L, hr, rfl⟩ := hx.map_inv
    split at hc
    · rename_i es clock hob
      simp only [Option.some.injEq, Prod.mk.injEq] at hc
      obtain ⟨rfl, rfl⟩ := hc
      obtain ⟨es', hblk, he⟩ := obj_map e hr hob
      have hgo := run_getObj' (P := P) hblk (by simp)
      have ho := Out.new (w1 := w.alloc (.mapIter (some L.blk) clock #[] clock)) e (.miter (some r) clock [] clock) (.mapIter (some L.blk) clock #[] clock) ⟨w.heap.size, 0, 0, 0, false⟩ hfr rfl rfl rfl rfl rfl fun w' hw' => ⟨L, Map.put_ext hfr _ _ hr, hw', rfl⟩
      refine Did.val (s := Instr.range t (.map (some L.blk))) (v' := .pointer (some ⟨w.heap.size, 0, none⟩)) ?_ (newPtr (L := ⟨w.heap.size, 0, 0, 0, false⟩) rfl m) ho
      simp [Instr.range, run_underlying' w ht, hgo]
    · simp at hc
  · simp at hc

theorem sim_nextStr (e : Emb P S m h w) (ty : TypeId) {x x' : Value} (hx : VR m x x') {v : Value} {h1 : Heap}
    (hc : cop (.nextStr x) h = some (v, h1)) : Did P S m h w (do pure (.value (← Instr.next x' true ty))) v h1 := by
  simp only [cop] at hc
  split at hc
  · rename_i r sp
    obtain ⟨b, o, L, heq, hb, rfl⟩ := hx.ptr_inv
    obtain ⟨rfl, rfl, rfl⟩ := Addr.mk.inj heq
    split at hc
    · rename_i s pos ho
      have hob := e.obj _ L hb
      rw [ho] at hob
      obtain ⟨hblk, hsh⟩ := hob
      have hgo := run_getObj' (P := P) hblk (by simp)
      have hz : L.sh + 0 = 0 := by rw [hsh]
      split at hc
      · rename_i hlt
        simp only [Option.some.injEq, Prod.mk.injEq] at hc
        obtain ⟨rfl, rfl⟩ := hc
        refine Did.val (v' := .tuple #[.bool true, goInt pos, .int .i32 (Utf8.decode s pos).1]) (w1 := { w with heap := w.heap.setIfInBounds L.blk (.stringIter s (pos + (Utf8.decode s pos).2)) }) ?_ (VR.tuple_of (VL.cons (.bool _) (VL.cons (.int _ _) (VL.cons (.int _ _) (VL.nil m))))) (upd_obj e hb (by rw [ho]; rfl) fun w1 hw1 => ⟨hw1, hsh⟩)
        have hset := run_setObj' (P := P) (o1 := .stringIter s (pos + (Utf8.decode s pos).2)) hblk (by simp)
        rw [hz]
        simp only [Instr.next, Sem.run_bind, hgo, Result.andThen_ok, hlt, if_true, hset, Sem.run_pure]
        rfl
      · rename_i hlt
        simp only [Option.some.injEq, Prod.mk.injEq] at hc
        obtain ⟨rfl, rfl⟩ := hc
        refine Did.same e (v' := .tuple #[.bool false]) ?_ (VR.tuple_of (VL.cons (.bool _) (VL.nil m)))
        rw [hz]
        simp only [Instr.next, Sem.run_bind, hgo, Result.andThen_ok, hlt, if_false, Sem.run_pure]
    · simp at hc
  · simp at hc

/-! ### the rest -/
theorem sim_sliceArr (e : Emb P S m h w) {t t' : TypeId} {n : Nat} (ht : P.underlying t = some (.array n t')) (hft : hasT P t' = true) {x x' : Value} (hx : VR m x x') {lo hi lo' hi' : Option Value} (hlo : ∀ u, lo = some u → ∃ u', lo' = some u' ∧ VR m u u') (hlo0 : lo = none → lo' = none)
    (hhi : ∀ u, hi = some u → ∃ u', hi' = some u' ∧ VR m u u') (hhi0 : hi = none → hi' = none) {v : Value} {h1 : Heap}
    (hc : cop (.sliceArr n (P.cellsOf t') x lo hi) h = some (v, h1)) : Did P S m h w (do pure (.value (← Instr.sliceAt t x' lo' hi' none))) v h1 := by
  obtain ⟨d, i, hu, hi2⟩ := hasT_info hft
  simp only [cop] at hc
  split at hc
  · rename_i a
    split at hc
    · rename_i hst
      simp only [Option.bind_eq_some_iff, Option.map_eq_some_iff, Prod.mk.injEq] at hc
      obtain ⟨b, hb, l, hl, rfl, rfl⟩ := hc
      obtain ⟨bb, o, L, rfl, hbb, rfl⟩ := hx.ptr_inv
      obtain ⟨q1, q2, q3, hrun⟩ := bounds_sim (P := P) (w := w) hlo hlo0 hhi hhi0 false (Nat.le_refl n) hb hl
      have hbn : b ≤ n := by
        by_cases hz : hi = none
        · rw [q2 hz]; exact Nat.le_refl _
        · exact q3 hz
      by_cases hcl : n = l
      · subst hcl
        have hbl : b - n = 0 := by omega
        refine Did.same e (v' := .slice (some ⟨L.blk, L.sh + o, none⟩) 0 0) ?_ ?_
        · simp only [Instr.sliceAt, Instr.sureAddr, Sem.run_bind, run_underlying' w ht, Result.andThen_ok, Sem.run_pure, hrun, run_sizeOf' w hi2, if_true, hbl, Nat.sub_self]
        · rw [hbl, Nat.sub_self, addr_add]; exact .slice0 _ _ L _ hbb
      · refine Did.same e (v' := .slice (some ((⟨L.blk, L.sh + o, none⟩ : Addr).add (l * P.cellsOf t'))) (b - l) (n - l)) ?_ ?_
        · simp only [Instr.sliceAt, Instr.sureAddr, Sem.run_bind, run_underlying' w ht, Result.andThen_ok, Sem.run_pure, hrun, run_sizeOf' w hi2]
          rw [if_neg hcl]
        · rw [addr_add, addr_add, Nat.add_assoc]
          refine .slice bb (o + l * P.cellsOf t') (b - l) (n - l) (n - l) L hbb (by omega) (Nat.le_refl _) fun hgr => ?_
          exfalso
          cases ho : h.obj bb with
          | cells cs t2 g =>
            have k7 := obj_grow e hbb ho
            have hh : (h.obj bb).stiff = true := hst
            rw [ho] at hh
            rw [hgr] at k7
            cases g with
            | grow => simp [Obj.stiff] at hh
            | ro => exact absurd k7 (by decide)
            | fix => exact absurd k7 (by decide)
          | _ => have hh : (h.obj bb).stiff = true := hst; rw [ho] at hh; simp [Obj.stiff] at hh
    · simp at hc
  · simp at hc

theorem minmax_sim (big : Bool) : ∀ (xs xs' : List Value) (v v' r : Value), VL m xs xs' → VR m v v' → minmaxL big v xs = some r →
    (xs'.foldlM (if big then Builtin.max2 else Builtin.min2) v').run P w = .ok r w ∧ VR m r r
  | [], xs', v, v', r, hx, hv, hr => by
    rw [hx.of_nil]
    unfold minmaxL at hr
    split at hr
    · obtain rfl := Option.some.inj hr
      obtain rfl := hv.int_inv
      exact ⟨rfl, .int _ _⟩
    · simp at hr
  | x :: xs, xs', v, v', r, hx, hv, hr => by
    obtain ⟨x', ys, rfl, hx1, hx2⟩ := hx.of_cons
    simp only [minmaxL, Option.bind_eq_some_iff] at hr
    obtain ⟨u, hu, hr⟩ := hr
    unfold minmax2 at hu
    split at hu
    · rename_i k a k' b
      obtain rfl := hv.int_inv
      obtain rfl := hx1.int_inv
      split at hu
      · rename_i hk
        subst hk
        obtain rfl := Option.some.inj hu
        obtain ⟨h1, h2⟩ := minmax_sim big xs ys _ _ r hx2 (.int k _) hr
        refine ⟨?_, h2⟩
        simp only [List.foldlM_cons, Sem.run_bind]
        cases big <;> simpa [Builtin.max2, Builtin.min2] using h1
      · simp at hu
    · simp at hu
theorem sim_minmax (e : Emb P S m h w) (big : Bool) (ats : Array TypeId) (ty : TypeId) {xs : List Value} {xs' : Array Value} (hx : VL m xs xs'.toList) {v : Value} {h1 : Heap}
    (hc : cop (.minmax big xs) h = some (v, h1)) : Did P S m h w (do pure (.value (← (if big then Builtin.max_ else Builtin.min_) ats ty xs'))) v h1 := by
  simp only [cop] at hc
  split at hc
  · simp at hc
  · rename_i x xs
    simp only [Option.map_eq_some_iff, Prod.mk.injEq] at hc
    obtain ⟨u, hu, rfl, rfl⟩ := hc
    obtain ⟨x', ys, hl, hx1, hx2⟩ := hx.of_cons
    obtain ⟨h1, h2⟩ := minmax_sim (P := P) (w := w) big xs ys x x' u hx2 hx1 hu
    refine Did.same e ?_ h2
    cases big <;> simpa [Builtin.max_, Builtin.min_, hl] using h1
end
end Go.Proofs.Ytekojjilbchkgaa.Can
