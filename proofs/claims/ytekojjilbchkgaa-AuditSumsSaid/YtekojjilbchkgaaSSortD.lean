/- slices.SortFunc at the ledger's keys, as a call known by what it ends in. No condition. -/
import Derived.Test.YtekojjilbchkgaaSSortW
namespace Go.Proofs.Ytekojjilbchkgaa.Can
open Go Go.Shelf Go.RowKit Go.Lib Go.Sort
set_option linter.unusedSimpArgs false
set_option linter.unusedVariables false

section
variable {P : Program} {S : Stay} {m : Map} {h : Heap} {w w1 : World}
/-- More blocks, more draws: nothing that the map knows of. -/
theorem Out.grown (e : Emb P S m h w) (hk : ∀ k, k < w.heap.size → w1.heap[k]? = w.heap[k]?) (hs : w.heap.size ≤ w1.heap.size) (hos : w1.os = w.os) (ht : w1.tape = w.tape) (ho : w1.output = w.output) : Out P S m h w m h w1 :=
  ⟨⟨fun b L hb hl => Nat.lt_of_lt_of_le (e.lt b L hb hl) hs, e.inj, fun b L hb => by
    by_cases hl : (h.obj b).live = true
    · exact (e.obj b L hb).of_block (hk _ (e.lt b L hb hl))
    · cases hx : h.obj b with
      | gone => trivial
      | _ => rw [hx] at hl; exact absurd rfl hl, e.prot, e.far, fun k hk => Nat.lt_of_lt_of_le (e.sLt k hk) hs, e.wf⟩, Ext.refl m, fun _ hb => .inl hb, Nat.le_refl _, ⟨hos, ht, ho, hs, fun k hk' => hk k (e.sLt k hk')⟩, fun _ _ _ => rfl⟩
end
abbrev WE : Enc Wh := Enc.pair (Enc.int .i64) Enc.str
def toW (t : WhT) : Wh := ((t.1.val : Int), t.2)
theorem we_enc (t : WhT) : WE.enc (toW t) = encT t := rfl
theorem encT_len (t : WhT) : (encT t).length = 2 := rfl
theorem encT_one (t : WhT) : ∀ v ∈ encT t, v.oneCell' = true := fun v hv => by
  simp only [encT, List.mem_cons, List.not_mem_nil, or_false] at hv
  rcases hv with rfl | rfl <;> rfl
theorem all_len2 (ts : List WhT) : (WE.all (ts.map toW)).length = ts.length * 2 := by
  have := WE.all_len (ts.map toW)
  rw [List.length_map] at this
  exact this
theorem all_idx (ts : List WhT) {t : Nat} (ht : t < ts.length * 2) : (WE.all (ts.map toW))[t]? = some ((encT (ts.toArray[t / 2]!))[t % 2]!) := by
  have hi : t / 2 < ts.length := by omega
  have hx : (ts.map toW)[t / 2]? = some (toW ts[t / 2]) := by rw [List.getElem?_map, List.getElem?_eq_getElem hi]; rfl
  have ha : ((WE.all (ts.map toW)).drop (t / 2 * 2)).take 2 = encT ts[t / 2] := WE.all_at (ts.map toW) (t / 2) _ hx
  have hg : ts.toArray[t / 2]! = ts[t / 2] := by rw [getElem!_pos _ _ (by simpa using hi)]; rfl
  rw [hg]
  have h2 : (((WE.all (ts.map toW)).drop (t / 2 * 2)).take 2)[t % 2]? = (WE.all (ts.map toW))[t]? := by
    rw [List.getElem?_take, if_pos (by omega), List.getElem?_drop, show t / 2 * 2 + t % 2 = t by omega]
  rw [← h2, ha]
  have : t % 2 = 0 ∨ t % 2 = 1 := by omega
  rcases this with e | e <;> rw [e] <;> rfl
theorem vr_cell {m : Map} (x : WhT) (r : Nat) (hr : r < 2) {v : Value} (h : VR m (encT x)[r]! v) : v = (encT x)[r]! := by
  have : r = 0 ∨ r = 1 := by omega
  rcases this with rfl | rfl
  · exact VR.int_inv (n := (x.1.val : Int)) h
  · exact VR.string_inv (s := x.2) h
theorem vr_cell_of {m : Map} (x : WhT) (r : Nat) (hr : r < 2) : VR m (encT x)[r]! (encT x)[r]! := by
  have : r = 0 ∨ r = 1 := by omega
  rcases this with rfl | rfl
  · exact VR.int .i64 (x.1.val : Int)
  · exact VR.string x.2
/-- Rising, one after another. -/
def RisesT (ts : List WhT) : Prop := ∀ (i j : Nat) (x y : WhT), i < j → ts[i]? = some x → ts[j]? = some y → ltW y x = false
theorem holds_of {P : Program} {m : Map} {L : Loc} {w : World} {ts : List WhT} {rest : List Value} (ho : ObjR P m L w (.cells (WE.all (ts.map toW) ++ rest) 30 .grow)) (h0 : ts ≠ []) :
    HoldsK encT 2 w L.blk L.sh ts.toArray := by
  rcases ho with ⟨_, h, _⟩ | ⟨c', fr, h1, h2, h3, h4, h5, _⟩
  · simp at h
  intro j hj
  rw [size_flatK, List.size_toArray] at hj
  rw [get_flatK _ _ _ j (by rw [List.size_toArray]; exact hj)]
  have hl := all_len2 ts
  have hlen : (WE.all (ts.map toW) ++ rest).length = ts.length * 2 + rest.length := by rw [List.length_append, hl]
  have e1 : (WE.all (ts.map toW) ++ rest)[j]? = some ((encT (ts.toArray[j / 2]!))[j % 2]!) := by rw [List.getElem?_append_left (by omega)]; exact all_idx ts hj
  obtain ⟨y, hy, hr⟩ := h4.get e1
  rw [List.getElem?_take, if_pos (by omega), List.getElem?_drop, Array.getElem?_toList] at hy
  have := vr_cell _ _ (Nat.mod_lt _ (by decide)) hr
  subst this
  refine ⟨?_, ?_⟩
  · show w.cell? ⟨L.blk, L.sh + j, none⟩ = _
    unfold World.cell?
    simp only [h1]
    exact hy
  · unfold World.frozen?
    simp only [h1]
    have hlt : L.sh + j < L.tot := by omega
    have := h5 (by decide) (L.sh + j) hlt
    simpa using this
theorem obj_after {P : Program} {m : Map} {L : Loc} {w w1 : World} {ts ts' : List WhT} {rest : List Value} (ho : ObjR P m L w (.cells (WE.all (ts.map toW) ++ rest) 30 .grow)) (hl : ts'.length = ts.length)
    (hw : ∀ c e fr, w.heap[L.blk]? = some (.cells c e fr) → w1.heap[L.blk]? = some (.cells (putCells id L.sh (flatK encT 2 ts'.toArray) c) e fr)) : ObjR P m L w1 (.cells (WE.all (ts'.map toW) ++ rest) 30 .grow) := by
  rcases ho with ⟨_, h, _⟩ | ⟨c', fr, h1, h2, h3, h4, h5, h6, h7, h8, h9⟩
  · simp at h
  have l1 := all_len2 ts
  have l2 := all_len2 ts'
  have hlen : (WE.all (ts.map toW) ++ rest).length = ts.length * 2 + rest.length := by rw [List.length_append, l1]
  have hlen' : (WE.all (ts'.map toW) ++ rest).length = ts.length * 2 + rest.length := by rw [List.length_append, l2, hl]
  refine .inr ⟨putCells id L.sh (flatK encT 2 ts'.toArray) c', fr, hw _ _ _ h1, by unfold putCells; rw [Array.size_mapIdx]; exact h2, by omega, ⟨?_, ?_⟩, h5, h6, h7, fun _ => ?_, fun h => by simp at h⟩
  · have ll : (putCells id L.sh (flatK encT 2 ts'.toArray) c').toList.length = L.tot := by
      rw [Array.length_toList]; unfold putCells; rw [Array.size_mapIdx]; exact h2
    rw [hlen', List.length_take, List.length_drop, ll]
    omega
  · intro i x y hx hy
    have hi : i < ts.length * 2 + rest.length := by rw [← hlen']; exact (List.getElem?_eq_some_iff.1 hx).1
    rw [List.getElem?_take, if_pos (by omega), List.getElem?_drop, Array.getElem?_toList] at hy
    unfold putCells at hy
    rw [Array.getElem?_mapIdx, Option.map_eq_some_iff] at hy
    obtain ⟨y0, hy0, rfl⟩ := hy
    by_cases ci : i < ts.length * 2
    · rw [List.getElem?_append_left (by omega), all_idx ts' (by omega)] at hx
      obtain rfl := Option.some.inj hx
      rw [if_pos ⟨by omega, by rw [size_flatK, List.size_toArray]; omega⟩, get_flatK _ _ _ _ (by rw [List.size_toArray]; omega), Nat.add_sub_cancel_left]
      exact vr_cell_of _ _ (Nat.mod_lt _ (by decide))
    · rw [if_neg (by rw [size_flatK, List.size_toArray]; omega)]
      rw [List.getElem?_append_right (by omega), l2, hl] at hx
      have hx2 : (WE.all (ts.map toW) ++ rest)[i]? = some x := by rw [List.getElem?_append_right (by omega), l1]; exact hx
      refine h4.2 i x y0 hx2 ?_
      rw [List.getElem?_take, if_pos (by omega), List.getElem?_drop, Array.getElem?_toList]
      exact hy0
  · have := h8 (by decide)
    rw [List.all_append, Bool.and_eq_true] at this ⊢
    exact ⟨WE.all_scalar _, this.2⟩
theorem putRowK_heap (w : World) (blk off k : Nat) (d : Array WhT) : (putRowK encT 2 w blk off d).heap[k]? = if blk = k then (w.heap[k]?).map (onCells (putCells id off (flatK encT 2 d))) else w.heap[k]? := by
  show (w.heap.modify blk _)[k]? = _
  rw [Array.getElem?_modify]
theorem sort_calls {S : Stay} {m : Map} {h : Heap} {w : World} (e : Emb Try.prog S m h w) {b : Nat} {L : Loc} (hb : m b = some L) {ts : List WhT} {rest : List Value} (ho : h.obj b = .cells (WE.all (ts.map toW) ++ rest) 30 .grow) (h0 : ts ≠ []) (hl : ts.length ≤ 100000) (c' : Nat) :
    Calls Try.prog 15 #[.slice (some ⟨L.blk, L.sh, none⟩) ts.length c', .func (.func 16) #[] #[]] w fun en w1 => en = .returned (.tuple #[]) ∧ ∃ ts', ts'.Perm ts ∧ RisesT ts' ∧ Out Try.prog S m h w m (h.upd b (.cells (WE.all (ts'.map toW) ++ rest) 30 .grow)) w1 := by
  have hor := e.obj b L hb
  rw [ho] at hor
  have hH := holds_of hor h0
  have hlt := e.lt b L hb (by rw [ho]; rfl)
  have eg : ∀ args w, (callFunc 16 args).run Try.prog w = .ok (.enter 16 args) w := enters_of Try.func16 (by kernel_rfl) rfl
  have hcon := AnyQ.slices_SortFunc sortWho 2 Try.isAgg30 Try.sizeOf30 encT encT_len encT_one cfW swoW 16 #[] L.blk L.sh c' ts.toArray w eg (cmpLays16 _ _ _ _) hH hlt (by rw [List.size_toArray]; omega)
  change Calls Try.prog 15 _ _ _ at hcon
  refine hcon.mono ?_
  rintro en w1 ⟨rfl, d', n, os, ⟨hp1, _, hp2⟩, hs, rfl⟩
  have hsz : d'.size = ts.length := by rw [hp1, List.size_toArray]
  refine ⟨rfl, d'.toList, ?_, ?_, ?_⟩
  · have k1 : d'.extract 0 ts.toArray.size = d' := by rw [← hp1]; exact Array.extract_size
    have k2 : ts.toArray.extract 0 ts.toArray.size = ts.toArray := Array.extract_size
    rw [k1, k2] at hp2
    exact hp2
  · intro i j x y hij hx hy
    rw [Array.getElem?_toList] at hx hy
    have hj : j < d'.size := (Array.getElem?_eq_some_iff.1 hy).1
    have := hs i j (Nat.zero_le _) hij (by rw [← hp1]; exact hj)
    rw [ltOf_cfW, getElem!_pos d' j hj, getElem!_pos d' i (by omega)] at this
    rw [Array.getElem?_eq_getElem hj] at hy
    rw [Array.getElem?_eq_getElem (by omega)] at hx
    rw [← Option.some.inj hx, ← Option.some.inj hy]
    exact this
  · have o1 : Out Try.prog S m h w m h (Sort.ahead w n) := Out.drew e (w.drawn + n)
    have o2 : Out Try.prog S m h (Sort.ahead w n) m (h.upd b (.cells (WE.all (d'.toList.map toW) ++ rest) 30 .grow)) (putRowK encT 2 (Sort.ahead w n) L.blk L.sh d') := by
      refine Out.upd o1.emb b L _ hb (by rw [ho]; rfl) (fun k hk => ?_) (size_putRow _ _ _ _ _) rfl rfl rfl ?_
      · rw [putRowK_heap, if_neg (fun q => hk q.symm)]
      · have hor1 := o1.emb.obj b L hb
        rw [ho] at hor1
        refine obj_after hor1 (by rw [Array.length_toList]; exact hsz) fun c e' fr hc => ?_
        rw [putRowK_heap, if_pos rfl, hc]
        rfl
    have o3 : Out Try.prog S m (h.upd b (.cells (WE.all (d'.toList.map toW) ++ rest) 30 .grow)) (putRowK encT 2 (Sort.ahead w n) L.blk L.sh d') m (h.upd b (.cells (WE.all (d'.toList.map toW) ++ rest) 30 .grow)) (sortWorldK encT 2 w L.blk L.sh n d' os) := by
      refine Out.grown o2.emb (fun k hk => ?_) ?_ rfl rfl rfl
      · show ((putRowK encT 2 (Sort.ahead w n) L.blk L.sh d').heap ++ os)[k]? = _
        rw [Array.getElem?_append_left hk]
      · show _ ≤ ((putRowK encT 2 (Sort.ahead w n) L.blk L.sh d').heap ++ os).size
        rw [Array.size_append]; omega
    exact (o1.trans o2).trans o3
/-- The sort: it ends in the elements in order, whatever their order was. -/
def sortD : DSem := fun f args h R =>
  (f = 15 ∧ ∃ (b cap : Nat) (ts : List WhT) (rest : List Value), args = [.slice (some ⟨b, 0, none⟩) ts.length cap, .func (.func 16) #[] #[]] ∧ ts ≠ [] ∧ ts.length ≤ 100000 ∧ h.obj b = .cells (WE.all (ts.map toW) ++ rest) 30 .grow ∧
    ∀ ts', ts'.Perm ts → RisesT ts' → R (.tuple #[]) (h.upd b (.cells (WE.all (ts'.map toW) ++ rest) 30 .grow))) ∨ CALL cp f args h R
theorem sortD_ok : DSOK Try.prog sortD := by
  rintro f args h R (⟨rfl, b, cap, ts, rest, rfl, h0, hl, ho, hR⟩ | hc)
  · refine ⟨⟨Try.f15, Try.func15, by kernel_rfl, by kernel_rfl⟩, fun S m w args' ha e hf hg => ?_⟩
    obtain ⟨v1, r1, e1, k1, ha⟩ := ha.of_cons
    obtain ⟨v2, r2, rfl, k2, ha⟩ := ha.of_cons
    obtain rfl := ha.of_nil
    have hpos := List.length_pos_iff.2 h0
    rcases k1.slice_inv with ⟨b', o, c', L, hbo, hm, _, _, _, rfl⟩ | ⟨hn, _⟩
    · simp only [Addr.mk.injEq] at hbo
      obtain ⟨rfl, rfl, _⟩ := hbo
      obtain ⟨a', d', rfl, q1, q2⟩ := k2.func_inv
      have ea : a' = #[] := by
        have := q1.of_nil
        exact Array.toList_eq_nil_iff.1 this
      have ed : d' = #[] := by
        have := q2.of_nil
        exact Array.toList_eq_nil_iff.1 this
      subst ea ed
      have eargs : args' = #[.slice (some ⟨L.blk, L.sh, none⟩) ts.length c', .func (.func 16) #[] #[]] := by
        apply Array.ext'; rw [e1]; rfl
      rw [eargs]
      refine (sort_calls e hm ho h0 hl c').mono fun en w1 hp => ?_
      obtain ⟨rfl, ts', hp1, hp2, hout⟩ := hp
      exact ⟨_, _, _, m, rfl, hR ts' hp1 hp2, VR.tuple_of (VL.nil m), hout⟩
    · omega
  · refine ⟨?_, fun S m w args' ha e hf hg => call_sound progs hc ha e hf hg⟩
    obtain ⟨n, v, h1, he, _⟩ := hc
    exact (evF_sound progs n f args h v h1 he).has
end Go.Proofs.Ytekojjilbchkgaa.Can
