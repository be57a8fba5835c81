/- One operation: what the canonical machine does the program's does (memory seen as unsafe memory). No condition. -/
import Derived.Test.YtekojjilbchkgaaCanSim5
import Derived.Lib.Builder
import Derived.Lib.UnsafeStr
namespace Go.Proofs.Ytekojjilbchkgaa.Can
open Go
set_option linter.unusedSimpArgs false
set_option linter.unusedVariables false

section
variable {P : Program} {S : Stay} {m : Map} {h : Heap} {w : World}

theorem ptrSame_inv {t : TypeId} {n : Nat} {x v : Value} {h1 : Heap} (hc : cop (.ptrSame t n x) h = some (v, h1)) : ∃ b c, x = .pointer (some ⟨b, 0, none⟩) ∧ h.obj b = .cells c t .fix ∧ c.length = n ∧ v = .pointer (some ⟨b, 0, none⟩) ∧ h1 = h := by
  simp only [cop] at hc
  split at hc
  · rename_i b
    split at hc
    · rename_i c t' ho
      split at hc
      · rename_i hcd
        obtain ⟨rfl, hl⟩ := hcd
        simp only [Option.some.injEq, Prod.mk.injEq] at hc
        exact ⟨b, c, rfl, ho, hl, hc.1.symm, hc.2.symm⟩
      · simp at hc
    · simp at hc
  · simp at hc

theorem ptrOK_info {t : TypeId} (h : ptrOK P t = true) : ∃ j, P.info? t = some j ∧ j.size ≠ 0 ∧ P.cellsOf t ≠ 0 ∧ liesAt P P.depth t 1 0 t 1 = true := by
  unfold ptrOK at h
  split at h
  · rename_i j hj
    simp only [Bool.and_eq_true, bne_iff_ne] at h
    exact ⟨j, hj, h.1.1, h.1.2, h.2⟩
  · simp at h

/-- A pointer to a variable of its own. -/
theorem ptrSame_sim (e : Emb P S m h w) {t : TypeId} (ht : ptrOK P t = true) {x x' v : Value} {h1 : Heap} (hx : VR m x x') (hc : cop (.ptrSame t (P.cellsOf t) x) h = some (v, h1)) :
    ∃ (L : Loc) (c' : Array Value) (fr : Nat × Nat), x' = .pointer (some ⟨L.blk, 0, none⟩) ∧ VR m v x' ∧ h1 = h ∧ w.heap[L.blk]? = some (.cells c' t fr) ∧ c'.size = P.cellsOf t := by
  obtain ⟨b, c, rfl, ho, hl, rfl, rfl⟩ := ptrSame_inv hc
  have hx0 := hx
  obtain ⟨b2, o, L, heq, hb, rfl⟩ := hx.ptr_inv
  obtain ⟨rfl, rfl, _⟩ := Addr.mk.inj heq
  obtain ⟨c', fr, k1, k2, k3, k4, k5, k6, k7, k8, k9⟩ := obj_cells e hb ho (.inl (by simp))
  obtain ⟨k9, k10⟩ := k9 rfl
  rw [k9] at hx0 ⊢
  exact ⟨L, c', fr, rfl, hx0, rfl, k1, by omega⟩

theorem shape_of {L : Loc} {c' : Array Value} {t : TypeId} {fr : Nat × Nat} (h : w.heap[L.blk]? = some (.cells c' t fr)) : w.shape? L.blk = some (t, c'.size) := by
  simp [World.shape?, h]

theorem sim_toUnsafe (e : Emb P S m h w) {s d t : TypeId} (hs : P.underlying s = some (.pointer t)) (hd : P.underlying d = some .unsafePointer) (ht : ptrOK P t = true) {x x' v : Value} {h1 : Heap} (hx : VR m x x') (hc : cop (.ptrSame t (P.cellsOf t) x) h = some (v, h1)) :
    Did P S m h w (do pure (.value (← convert s d x'))) v h1 := by
  obtain ⟨L, c', fr, rfl, hv, rfl, hb, hsz⟩ := ptrSame_sim e ht hx hc
  obtain ⟨j, hj, h0, hcz, _⟩ := ptrOK_info ht
  refine Did.same e ?_ hv
  exact Lib.run_to_unsafe w ⟨L.blk, 0, none⟩ hs hd hj h0 (shape_of hb) (by show 0 < c'.size; omega)

theorem sim_fromUnsafe (e : Emb P S m h w) {s d t : TypeId} (hs : P.underlying s = some .unsafePointer) (hd : P.underlying d = some (.pointer t)) (ht : ptrOK P t = true) {x x' v : Value} {h1 : Heap} (hx : VR m x x') (hc : cop (.ptrSame t (P.cellsOf t) x) h = some (v, h1)) :
    Did P S m h w (do pure (.value (← convert s d x'))) v h1 := by
  obtain ⟨L, c', fr, rfl, hv, rfl, hb, hsz⟩ := ptrSame_sim e ht hx hc
  obtain ⟨j, hj, h0, hcz, hlies⟩ := ptrOK_info ht
  refine Did.same e ?_ hv
  refine Lib.run_from_unsafe w ⟨L.blk, 0, none⟩ hs hd hj (shape_of hb) ?_
  rw [hsz, Nat.div_self (by omega)]
  exact hlies

theorem sim_sliceData (e : Emb P S m h w) (ts : Array TypeId) (ty : TypeId) {x x' v : Value} {h1 : Heap} (hx : VR m x x') (hc : cop (.sliceData x) h = some (v, h1)) :
    Did P S m h w (do pure (.value (← Builtin.unsafeSliceData_ ts ty #[x']))) v h1 := by
  simp only [cop] at hc
  split at hc
  · simp only [Option.some.injEq, Prod.mk.injEq] at hc
    obtain ⟨rfl, rfl⟩ := hc
    obtain rfl := hx.nilSlice_inv
    exact Did.same e rfl .nilPtr
  · split at hc
    · rename_i b o n c hc0
      simp only [Option.some.injEq, Prod.mk.injEq] at hc
      obtain ⟨rfl, rfl⟩ := hc
      rcases hx.slice_inv with ⟨b2, o2, c', L, heq, hb, hn, hcc, hg, rfl⟩ | ⟨rfl, rfl, _, a', rfl, L0, hL0⟩
      · obtain ⟨rfl, rfl, _⟩ := Addr.mk.inj heq
        refine Did.same e (v' := .pointer (some ⟨L.blk, L.sh + o, none⟩)) ?_ (.ptr b o L hb)
        have hne : c' ≠ 0 := by omega
        have hdef : Builtin.unsafeSliceData_ ts ty #[.slice (some ⟨L.blk, L.sh + o, none⟩) n c'] =
            (do
              if c' ≠ 0 then pure (.pointer (some ⟨L.blk, L.sh + o, none⟩))
              else if (← viewAt L.blk).isSome then pure (.pointer (some ⟨L.blk, L.sh + o, none⟩))
              else pure (.pointer (some ⟨← newObj (.view ⟨L.blk, L.sh + o, none⟩ (← elemOf ty)), 0, none⟩))) := rfl
        rw [hdef, if_pos hne]
        rfl
      · omega
    · simp at hc
  · simp at hc

theorem liesAt_bytes' {e : TypeId} (hc : P.cellsOf e = 1) (count o n : Nat) (hn : o + n ≤ count) : liesAt P P.depth e count o e n = true := by
  have hd : P.depth = (2 * (P.types.size + Made.depth) + 1) + 1 := rfl
  rw [hd]
  simp only [liesAt, Bool.or_eq_true]
  left
  rw [hd]
  simp [rowAt, hc, hn, sameLayout, Nat.mod_one]

theorem run_loadBytes' : ∀ (cs : List Value) (l : List UInt8) (a : Addr) (acc : ByteArray), bytesOf cs = some l → (∀ j x, cs[j]? = some x → w.cell? (a.add j) = some x) →
    (loadBytes a acc l.length).run P w = .ok ⟨acc.data ++ l.toArray⟩ w
  | [], l, a, acc, hl, _ => by
    obtain rfl := Option.some.inj hl
    simp [loadBytes]
  | c :: cs, l, a, acc, hl, h => by
    unfold bytesOf at hl
    split at hl
    · rename_i heq; simp at heq
    · rename_i n r heq
      obtain ⟨rfl, rfl⟩ := List.cons.inj heq
      rw [Option.map_eq_some_iff] at hl
      obtain ⟨l', hl', rfl⟩ := hl
      have h0 : w.cell? a = some (.int .u8 n) := by
        have := h 0 _ rfl
        simpa [Addr.add] using this
      have ih := run_loadBytes' cs l' (a.add 1) (acc.push (UInt8.ofNat n.toNat)) hl' (fun j y hy => by
        have := h (j + 1) y (by simpa using hy)
        have e : (a.add 1).add j = a.add (j + 1) := by
          unfold Addr.add
          by_cases hj : j = 0
          · subst hj; simp
          · simp [hj]; omega
        rw [e]; exact this)
      have hx : (n.toNat).toUInt8 = UInt8.ofNat n.toNat := rfl
      simp only [List.length_cons, loadBytes, Sem.run_bind, run_load, h0, Result.andThen, hx]
      rw [ih]
      simp [ByteArray.push]
    · simp at hl
theorem run_unsafeString_at (pt it ty e : TypeId) (hp : P.underlying pt = some (.pointer e)) (hc : P.cellsOf e = 1) (g o cells : Nat) (hsh : w.shape? g = some (e, cells)) (cs : List Value) (l : List UInt8) (hbl : bytesOf cs = some l) (h0 : l.length ≠ 0) (hn : o + l.length ≤ cells) (h63 : l.length ≤ 9223372036854775807)
    (hcell : ∀ j x, cs[j]? = some x → w.cell? ((⟨g, o, none⟩ : Addr).add j) = some x) :
    (Builtin.unsafeString_ #[pt, it] ty #[.pointer (some ⟨g, o, none⟩), .int .i64 l.length]).run P w = .ok (.string ⟨l.toArray⟩) (w.freeze ⟨g, o, none⟩ l.length) := by
  have hl := h0
  have hlb := run_loadBytes' (P := P) cs l ⟨g, o, none⟩ .empty hbl hcell
  have hlies := liesAt_bytes' (P := P) hc (cells / P.cellsOf e) o l.length (by rw [hc]; simpa using hn)
  have h63' : ¬ (9223372036854775807 : Int) < (l.length : Int) := by omega
  have hdef : Builtin.unsafeString_ #[pt, it] ty #[.pointer (some ⟨g, o, none⟩), .int .i64 l.length] =
      (do
        let n ← asInt (.int .i64 l.length)
        if n < 0 then runtimePanic (.error "unsafe.String: len out of range")
        if n > IntKind.i64.max then unsupported (.unsafePointer "String: a length above the largest int")
        if n = 0 then pure (.string .empty)
        else if ← variablesAt ⟨g, o, none⟩ (← elemOf pt) n.toNat then do
          let s ← loadBytes ⟨g, o, none⟩ .empty n.toNat
          freeze ⟨g, o, none⟩ n.toNat
          pure (.string s)
        else unsupported (.unsafePointer "String: not so many bytes at ptr")) := rfl
  rw [hdef]
  have hmax : IntKind.i64.max = 9223372036854775807 := rfl
  have hneg : ¬ (l.length : Int) < 0 := by omega
  simp [asInt, asIntOf, hmax, h63', hneg, hl, variablesAt, hsh, elemOf, run_underlying' w hp, hlies, hlb]
theorem bytesOf_len : ∀ (cs : List Value) (l : List UInt8), bytesOf cs = some l → l.length = cs.length
  | [], l, h => by
    obtain rfl := Option.some.inj h
    rfl
  | c :: cs, l, h => by
    unfold bytesOf at h
    split at h
    · rename_i heq; simp at heq
    · rename_i n r heq
      obtain ⟨rfl, rfl⟩ := List.cons.inj heq
      rw [Option.map_eq_some_iff] at h
      obtain ⟨l', hl', rfl⟩ := h
      simp [bytesOf_len cs l' hl']
    · simp at h
theorem bytesOf_get : ∀ (cs : List Value) (l : List UInt8), bytesOf cs = some l → l.length = cs.length ∧ ∀ (j : Nat) (x : UInt8), l[j]? = some x → ∃ n : Int, cs[j]? = some (.int .u8 n) ∧ x = UInt8.ofNat n.toNat
  | [], l, h => by
    obtain rfl := Option.some.inj h
    exact ⟨rfl, fun j x hx => by simp at hx⟩
  | c :: cs, l, h => by
    unfold bytesOf at h
    split at h
    · rename_i heq; simp at heq
    · rename_i n r heq
      obtain ⟨rfl, rfl⟩ := List.cons.inj heq
      rw [Option.map_eq_some_iff] at h
      obtain ⟨l', hl', rfl⟩ := h
      obtain ⟨e1, e2⟩ := bytesOf_get cs l' hl'
      refine ⟨by simp [e1], fun j x hx => ?_⟩
      cases j with
      | zero => simp at hx; exact ⟨n, rfl, hx.symm⟩
      | succ j => simpa using e2 j x (by simpa using hx)
    · simp at h
theorem freeze_other (w : World) (a : Addr) (n k : Nat) (hk : k ≠ a.block) : (w.freeze a n).heap[k]? = w.heap[k]? := by
  unfold World.freeze
  split
  · rfl
  · simp [Array.getElem?_modify, Ne.symm hk]
theorem freeze_size (w : World) (a : Addr) (n : Nat) : (w.freeze a n).heap.size = w.heap.size := by
  unfold World.freeze
  split
  · rfl
  · simp
theorem freeze_rest (w : World) (a : Addr) (n : Nat) : (w.freeze a n).os = w.os ∧ (w.freeze a n).tape = w.tape ∧ (w.freeze a n).output = w.output := by
  unfold World.freeze
  split <;> exact ⟨rfl, rfl, rfl⟩

theorem sim_unsafeStr (e : Emb P S m h w) {pt it ty t : TypeId} (hp : P.underlying pt = some (.pointer t)) (hcz : P.cellsOf t = 1) {x x' n n' v : Value} {h1 : Heap} (hx : VR m x x') (hn : VR m n n') (hc : cop (.unsafeStr t x n) h = some (v, h1)) :
    Did P S m h w (do pure (.value (← Builtin.unsafeString_ #[pt, it] ty #[x', n']))) v h1 := by
  simp only [cop] at hc
  split at hc
  case h_2 => simp at hc
  rename_i k
  obtain rfl := hn.int_inv
  split at hc
  · split at hc
    · rename_i hk
      subst hk
      simp only [Option.some.injEq, Prod.mk.injEq] at hc
      obtain ⟨rfl, rfl⟩ := hc
      obtain rfl := hx.nilPtr_inv
      exact Did.same e (Lib.run_unsafeString_none w pt it ty none) (.string _)
    · simp at hc
  · rename_i b
    split at hc
    · rename_i c t' ho
      split at hc
      · rename_i hcd
        obtain ⟨rfl, hk0, hkl, hk63⟩ := hcd
        simp only [Option.map_eq_some_iff, Prod.mk.injEq] at hc
        obtain ⟨l, hl, rfl, rfl⟩ := hc
        obtain ⟨b2, o, L, heq, hb, rfl⟩ := hx.ptr_inv
        obtain ⟨rfl, rfl, _⟩ := Addr.mk.inj heq
        obtain ⟨c', fr, k1, k2, k3, k4, k5, k6, k7, k8, _⟩ := obj_cells e hb ho (.inl (by simp))
        have hll := bytesOf_len _ _ hl
        rw [List.length_take, Nat.min_eq_left hkl] at hll
        have hki : (k : Int) = (l.length : Int) := by omega
        rw [hki]
        have cells : ∀ j x, (c.take k.toNat)[j]? = some x → w.cell? ((⟨L.blk, L.sh + 0, none⟩ : Addr).add j) = some x := fun j x hj => by
          have hjk : j < k.toNat := by
            have := (List.getElem?_eq_some_iff.1 hj).1
            rw [List.length_take] at this; omega
          rw [List.getElem?_take, if_pos hjk] at hj
          obtain ⟨y, hy, hxy⟩ := k4.get hj
          rw [List.getElem?_take, if_pos (by omega), List.getElem?_drop] at hy
          have hint : ∃ q, x = .int .u8 q := by
            obtain ⟨_, h2⟩ := bytesOf_get _ _ hl
            obtain ⟨q, hq, _⟩ := h2 j _ (List.getElem?_eq_getElem (by omega))
            rw [List.getElem?_take, if_pos hjk, hj] at hq
            exact ⟨q, Option.some.inj hq⟩
          obtain ⟨q, rfl⟩ := hint
          obtain rfl := hxy.int_inv
          have hy2 : c'[L.sh + j]? = some (.int .u8 q) := by simpa using hy
          unfold Addr.add
          by_cases hj0 : j = 0
          · subst hj0
            simp only [if_true, World.cell?, k1]
            simpa using hy2
          · simp only [hj0, if_false, World.cell?, k1]
            simpa using hy2
        have hrun := run_unsafeString_at (P := P) (w := w) pt it ty t' hp hcz L.blk (L.sh + 0) c'.size (shape_of k1) _ l hl (by omega) (by omega) (by omega) cells
        obtain ⟨r1, r2, r3⟩ := freeze_rest w ⟨L.blk, L.sh + 0, none⟩ l.length
        exact Did.val (s := Builtin.unsafeString_ #[pt, it] ty #[.pointer (some ⟨L.blk, L.sh + 0, none⟩), .int .i64 l.length]) hrun (.string _)
          (Out.upd e b L .gone hb (by rw [ho]; rfl) (fun q hq => freeze_other w _ _ q hq) (freeze_size w _ _) r1 r2 r3 trivial)
      · simp at hc
    · simp at hc
  · simp at hc
end
end Go.Proofs.Ytekojjilbchkgaa.Can
