/- One operation: what the canonical machine does the program's does (append, copy, clear, bytes and strings). No condition. -/
import Derived.Test.YtekojjilbchkgaaCanSim3
namespace Go.Proofs.Ytekojjilbchkgaa.Can
open Go
set_option linter.unusedSimpArgs false
set_option linter.unusedVariables false

section
variable {P : Program} {S : Stay} {m : Map} {h : Heap} {w : World}

theorem upd_self (h : Heap) (b : Nat) : h.upd b (h.obj b) = h := by
  cases h; simp only [Heap.upd]; congr 1; funext x; split <;> simp_all

theorem write_nil {o : Obj} {n : Nat} {ob : Obj} (hw : o.write n [] = some ob) : ob = o := by
  cases o with
  | cells c e g =>
    simp only [Obj.write] at hw
    split at hw
    · simp at hw
    · split at hw
      · simpa [setAt] using (Option.some.inj hw).symm
      · simp at hw
  | _ => simp [Obj.write] at hw

/-- The cells of what is appended or copied, on both sides. -/
theorem byteVals_eq (s : ByteArray) : ((s.extract 0 s.size).data.map fun b => Value.int .u8 b.toNat).toList = byteVals s.data.toList := by
  have : s.extract 0 s.size = s := by
    apply ByteArray.ext
    rw [ByteArray.data_extract]
    have h1 : s.size = s.data.size := rfl
    rw [h1]
    exact Array.extract_size
  rw [this]; simp [byteVals]
theorem byteVals_self (l : List UInt8) : (byteVals l).all selfS = true := by simp [byteVals, selfS]

theorem src_sim (e : Emb P S m h w) {size : Nat} {y y' : Value} (hy : VR m y y') {new : List Value} {k : Nat} (hs : srcCells h size y = some (new, k)) :
    (Builtin.lenOf y').run P w = .ok k w ∧ new.all scalar = true ∧ new.length = k * size ∧
      ∃ new' : Array Value, VL m new new'.toList ∧ (Builtin.firstCells size k y').run P w = .ok new' w := by
  unfold srcCells at hs
  split at hs
  · rename_i n c
    split at hs
    · rename_i hn
      simp only [Option.some.injEq, Prod.mk.injEq] at hs
      obtain ⟨rfl, rfl⟩ := hs
      obtain rfl := hy.nilSlice_inv
      subst hn
      exact ⟨rfl, rfl, by simp, #[], VL.nil m, rfl⟩
    · simp at hs
  · rename_i a n c
    split at hs
    · rename_i hsp
      simp only [Option.map_eq_some_iff, Prod.mk.injEq] at hs
      obtain ⟨cs, hcs, rfl, rfl⟩ := hs
      rcases hy.slice_inv with ⟨b, o, c', L, rfl, hb, hn, hcc, hg, rfl⟩ | ⟨rfl, rfl, _, a', rfl, L0, hL0⟩
      · obtain ⟨hl, cs', hv, hcell⟩ := read_sim e hb (src_read hcs)
        have hl' : cs'.length = n * size := by rw [← hv.1]; exact hl
        refine ⟨rfl, src_all e hb hcs, hl, cs'.toArray, by simpa using hv, ?_⟩
        have := run_loadCells_sim (P := P) hcell
        rw [hl'] at this
        simp only [Builtin.firstCells, this]
      · have hcs := src_read hcs
        have : cs = [] := by
          cases ho : h.obj a.block with
          | cells c t g =>
            rw [ho] at hcs
            simp only [Obj.read, Nat.zero_mul] at hcs
            split at hcs
            · exact (by simpa using (Option.some.inj hcs).symm)
            · simp at hcs
          | _ => rw [ho] at hcs; simp [Obj.read] at hcs
        subst this
        refine ⟨rfl, rfl, by simp, #[], VL.nil m, ?_⟩
        simp only [Builtin.firstCells, Nat.zero_mul]; rfl
    · simp at hs
  · rename_i s
    split at hs
    · rename_i h1
      subst h1
      simp only [Option.some.injEq, Prod.mk.injEq] at hs
      obtain ⟨rfl, rfl⟩ := hs
      obtain rfl := hy.string_inv
      refine ⟨rfl, scalars_of_self (byteVals_self _), by simp [byteVals], (s.extract 0 s.size).data.map fun b => Value.int .u8 b.toNat, ?_, rfl⟩
      rw [byteVals_eq]; exact VL.selfS (byteVals_self _)
    · simp at hs
  · simp at hs

theorem growBy_le (need : Nat) : ∀ r c, 256 ≤ c → c ≤ 2 * need → Builtin.growBy need r c ≤ 2 * need
  | 0, c, _, h => h
  | r + 1, c, h1, h2 => by
    simp only [Builtin.growBy]
    split
    · exact h2
    · exact growBy_le need r _ (by omega) (by omega)
theorem nextslicecap_le (need c : Nat) (h : c < need) : Builtin.nextslicecap need c ≤ 2 * need := by
  unfold Builtin.nextslicecap
  split
  · omega
  · split
    · omega
    · exact growBy_le need 4 c (by omega) (by omega)

theorem zeroCells_size (z : Array Value) (n : Nat) : (Builtin.zeroCells z n).size = n * z.size := by simp [Builtin.zeroCells]

/-- append, in place. -/
theorem run_append_in {t t' u : TypeId} {du : TypeDesc} (ht : P.underlying t = some (.slice t')) (hu : P.underlying u = some du) (hui : ∀ k, du ≠ .int k) {i : TypeInfo} (hi : P.info? t' = some i)
    {base : Option Addr} {n c k : Nat} {y' : Value} {new' : Array Value} (hlen : (Builtin.lenOf y').run P w = .ok k w) (hnew : (Builtin.firstCells (P.cellsOf t') k y').run P w = .ok new' w) (hle : n + k ≤ c) (ty : TypeId) {w1 : World}
    (hst : match base with
      | some a => (storeCells (a.add (n * P.cellsOf t')) new'.toList).run P w = .ok () w1
      | none => w1 = w) :
    (Builtin.append_ #[t, u] ty #[.slice base n c, y']).run P w = .ok (.slice base (n + k) c) w1 := by
  have hz : (match du with | .int _ => true | _ => false) = false := by cases du <;> first | rfl | (exact absurd rfl (hui _))
  cases base with
  | none =>
    subst hst
    simp [Builtin.append_, run_underlying' _ ht, run_underlying' _ hu, run_sizeOf' _ hi, hz, hlen, hle, hnew]
  | some a =>
    simp only at hst
    simp [Builtin.append_, run_underlying' _ ht, run_underlying' _ hu, run_sizeOf' _ hi, hz, hlen, hle, hnew, hst]

/-- append, into a new block. -/
theorem run_append_new {t t' u : TypeId} {du : TypeDesc} (ht : P.underlying t = some (.slice t')) (hu : P.underlying u = some du) (hui : ∀ k, du ≠ .int k) {z : List Value} (hz : zeroC P t' = some z)
    {base : Option Addr} {n c k : Nat} {y' : Value} {old' new' : Array Value} (hlen : (Builtin.lenOf y').run P w = .ok k w)
    (hold : (Builtin.firstCells (P.cellsOf t') n (.slice base n c)).run P w.drew = .ok old' w.drew)
    (hnew : (Builtin.firstCells (P.cellsOf t') k y').run P w.drew = .ok new' w.drew) (hlt : c < n + k)
    (hb : (n + k) * P.bytesOf t' ≤ 140737488355328) (hmax : n + k ≤ 9223372036854775807) (ty : TypeId) (hso : old'.size = n * P.cellsOf t') (hsn : new'.size = k * P.cellsOf t') :
    ∃ (cap : Nat) (rest : Array Value), n + k ≤ cap ∧ rest.size = (cap - (n + k)) * P.cellsOf t' ∧
      (Builtin.append_ #[t, u] ty #[.slice base n c, y']).run P w = .ok (.slice (some ⟨w.heap.size, 0, none⟩) (n + k) cap) (w.drew.alloc (.cells (old' ++ (new' ++ rest)) t')) := by
  obtain ⟨zv, iz, z1, z2, z3, z4, z5, z6⟩ := zeroC_some hz
  have hzz : (match du with | .int _ => true | _ => false) = false := by cases du <;> first | rfl | (exact absurd rfl (hui _))
  have hby : iz.bytes = P.bytesOf t' := by simp [Program.bytesOf, z6]
  have zsz : zv.cells.size = P.cellsOf t' := by rw [← Array.length_toList, z2, z4]
  have hle : ¬ (n + k ≤ c) := by omega
  have hb2 : ¬ ((9223372036854775807 : Int) < (n : Int) + (k : Int)) := by omega
  have hcap : ¬ (Builtin.nextslicecap (n + k) c * P.bytesOf t' > 2 ^ 48) := by
    have h1 := nextslicecap_le (n + k) c hlt
    have h2 : Builtin.nextslicecap (n + k) c * P.bytesOf t' ≤ 2 * (n + k) * P.bytesOf t' := Nat.mul_le_mul_right _ h1
    rw [Nat.mul_assoc] at h2
    have : (2 : Nat) ^ 48 = 281474976710656 := by decide
    omega
  have hcap2 : ¬ (281474976710656 < Builtin.nextslicecap (n + k) c * P.bytesOf t') := by
    have : (2 : Nat) ^ 48 = 281474976710656 := by decide
    omega
  refine ⟨(Question.appendCap (n + k) c t').cut (w.tape w.drawn (.appendCap (n + k) c t')), Builtin.zeroCells zv.cells ((Question.appendCap (n + k) c t').cut (w.tape w.drawn (.appendCap (n + k) c t')) - (n + k)), ?_, ?_, ?_⟩
  · simp only [Question.cut]; omega
  · rw [zeroCells_size, zsz]
  · have hf : (Question.appendCap (n + k) c t').forced = false := rfl
    simp [Builtin.append_, run_underlying' _ ht, run_underlying' _ hu, run_sizeOf' _ z6, hzz, hlen, hle, run_typeInfo' _ z6, hby, hb2, hcap, hcap2, hf, hold, hnew, run_zeroValue' _ z1, newRow]

theorem addr_add (b o n : Nat) : (⟨b, o, none⟩ : Addr).add n = ⟨b, o + n, none⟩ := by
  unfold Addr.add; split
  · rename_i h; subst h; rfl
  · rfl

theorem setAt_eq : ∀ (vs c : List Value) (o : Nat), o + vs.length ≤ c.length → setAt c o vs = c.take o ++ vs ++ c.drop (o + vs.length)
  | [], c, o, _ => by simp [setAt]
  | v :: vs, c, o, h => by
    simp only [List.length_cons] at h
    rw [setAt, setAt_eq vs (c.set o v) (o + 1) (by simpa using (by omega : o + 1 + vs.length ≤ c.length))]
    have h1 : (c.set o v).take (o + 1) = c.take o ++ [v] := by
      rw [List.take_succ_eq_append_getElem (by simp; omega)]
      simp [List.take_set_of_le]
    have h2 : (c.set o v).drop (o + 1 + vs.length) = c.drop (o + (v :: vs).length) := by
      rw [List.drop_set_of_lt (by omega)]
      simp only [List.length_cons]; congr 1; omega
    rw [h1, h2]; simp

theorem sim_append (e : Emb P S m h w) {h1 : Heap} {t t' u : TypeId} {du : TypeDesc} (ht : P.underlying t = some (.slice t')) (hu : P.underlying u = some du) (hui : ∀ k, du ≠ .int k) {z : List Value} (hz : zeroC P t' = some z) (ty : TypeId)
    {x x' y y' : Value} (hx : VR m x x') (hy : VR m y y') {v : Value} (hc : cop (.append t' (P.cellsOf t') (P.bytesOf t') x y) h = some (v, h1)) (hf : Free m h.next h1.next) :
    Did P S m h w (do pure (.value (← Builtin.append_ #[t, u] ty #[x', y']))) v h1 := by
  obtain ⟨zv, iz, z1, z2, z3, z4, z5, z6⟩ := zeroC_some hz
  simp only [cop, copAppend] at hc
  split at hc
  case h_2 => simp at hc
  rename_i base n c new k hsrc
  obtain ⟨s1, s2, s3, new', s4, s5⟩ := src_sim e hy hsrc
  have hnl : new'.size = k * P.cellsOf t' := by have := s4.1; simp at this; omega
  split at hc
  · -- it fits
    rename_i hle
    split at hc
    · -- a slice that is none
      rename_i a
      split at hc
      · rename_i hsp
        simp only [Option.map_eq_some_iff, Prod.mk.injEq] at hc
        obtain ⟨ob, hob, rfl, rfl⟩ := hc
        rcases hx.slice_inv with ⟨b, o, c', L, rfl, hb, hn, hcc, hg, rfl⟩ | ⟨rfl, rfl, _, a', rfl, L0, hL0⟩
        · obtain ⟨w1, hrun, hout⟩ := write_sim e hb hob s4 (oneCell_all s4 s2) s2
          refine Did.val (s := Builtin.append_ #[t, u] ty #[.slice (some ⟨L.blk, L.sh + o, none⟩) n c', y']) (run_append_in ht hu hui z6 s1 s5 (show n + k ≤ c' by omega) ty (w1 := w1) ?_) (.slice b o (n + k) c c' L hb hle hcc hg) hout
          simp only [addr_add, Nat.add_assoc]
          exact hrun
        · have hk : k = 0 := by omega
          subst hk
          have hnew : new = [] := by
            have : new.length = 0 := by rw [s3]; simp
            exact List.length_eq_zero_iff.1 this
          subst hnew
          rw [write_nil hob, upd_self]
          have hn2 : new' = #[] := by
            apply Array.eq_empty_of_size_eq_zero; omega
          subst hn2
          obtain ⟨b, o, s⟩ := a
          simp only at hsp
          subst hsp
          exact Did.same (s := Builtin.append_ #[t, u] ty #[.slice (some a') 0 0, y']) e (run_append_in ht hu hui z6 s1 s5 (by omega) ty (base := some a') (w1 := w) rfl) (.slice0 b o L0 a' hL0)
      · simp at hc
    · split at hc
      · rename_i h0
        simp only [Option.some.injEq, Prod.mk.injEq] at hc
        obtain ⟨rfl, rfl⟩ := hc
        obtain rfl := hx.nilSlice_inv
        have hk : n = 0 ∧ k = 0 := by omega
        obtain ⟨rfl, rfl⟩ := hk
        exact Did.same (s := Builtin.append_ #[t, u] ty #[.slice none 0 c, y']) e (run_append_in ht hu hui z6 s1 s5 (by omega) ty (base := none) (w1 := w) rfl) (.nilSlice 0 c)
      · simp at hc
  · rename_i hle
    split at hc
    case isFalse => simp at hc
    rename_i hbd
    have e' : Emb P S m h w.drew := e.of_heap rfl
    obtain ⟨r1, r2, r3, new2, r4, r5⟩ := src_sim e' hy hsrc
    have hnl2 : new2.size = k * P.cellsOf t' := by have := r4.1; simp at this; omega
    split at hc
    · -- onto nil
      split at hc
      case isFalse => simp at hc
      rename_i h0
      subst h0
      simp only [Option.some.injEq, Prod.mk.injEq] at hc
      obtain ⟨rfl, rfl⟩ := hc
      obtain rfl := hx.nilSlice_inv
      obtain ⟨cap, rest, hcap, hrest, hrun⟩ := run_append_new ht hu hui hz (base := none) (n := 0) (c := c) (old' := #[]) (new' := new2) s1 rfl r5 (by omega) hbd.1 hbd.2 ty (by simp) hnl2
      have hsz : (#[] ++ (new2 ++ rest)).size = cap * P.cellsOf t' := by
        simp only [Array.size_append, hnl2, hrest, Array.size_empty, Nat.zero_add]
        rw [← Nat.add_mul]; congr 1; omega
      have hl : new.length ≤ (#[] ++ (new2 ++ rest)).size := by
        simp only [Array.size_append]; omega
      have ho := newCells e' (hf _ (Nat.le_refl _) (Nat.lt_succ_self _)) (c := new) (c' := #[] ++ (new2 ++ rest)) t' .grow hl (by
        have h3 : new.length = new2.toList.length := r4.1
        simp only [Array.toList_append, List.nil_append]
        rw [h3, List.take_left]; exact r4) (0, 0) (fun i _ => by omega) s2
      simp only [Nat.zero_add] at hrun hcap
      refine Did.val (s := Builtin.append_ #[t, u] ty #[.slice none 0 c, y']) hrun ?_ ((Out.drew e (w.drawn + 1)).trans ho)
      exact newSlice (Nat.le_refl _) hcap w.heap.size (by omega) h.next _ m
    · rename_i a
      split at hc
      case h_2 => simp at hc
      rename_i cs t2 hob
      split at hc
      case isFalse => simp at hc
      rename_i hcd
      obtain ⟨hsp, rfl, hend, hnc⟩ := hcd
      simp only [Option.some.injEq, Prod.mk.injEq] at hc
      obtain ⟨rfl, rfl⟩ := hc
      have hfree : m h.next = none := hf _ (Nat.le_refl _) (Nat.lt_succ_self _)
      have hmul : n * P.cellsOf t2 ≤ c * P.cellsOf t2 := Nat.mul_le_mul_right _ hnc
      rcases hx.slice_inv with ⟨b, o, c', L, rfl, hb, hn, hcc, hg, rfl⟩ | ⟨rfl, rfl, _, a', rfl, L0, hL0⟩
      · have hob2 : h.obj b = .cells cs t2 .grow := hob
        obtain ⟨cur, fr, k1, k2, k3, k4, k5, k6, k7, k8, k9⟩ := obj_cells e hb hob2 (.inl (by simp))
        have hgr : L.grow = true := by rw [k7]; rfl
        have hroom := hg hgr
        rw [k6] at hroom
        have hlc : o + c * P.cellsOf t2 = cs.length := hend
        by_cases hin : n + k ≤ c'
        · -- in the same block
          have hmul2 : (n + k) * P.cellsOf t2 ≤ c' * P.cellsOf t2 := Nat.mul_le_mul_right _ hin
          rw [Nat.add_mul] at hmul2
          obtain ⟨cur', hrun, hcur⟩ := run_storeCells_sim P L.blk (L.sh + (o + n * P.cellsOf t2)) t2 fr new'.toList 0 cur w k1 (by simp [hnl]; omega) (by rw [k2]; exact k5 (by simp)) (oneCell_all s4 s2)
          have hsz' : cur'.size = L.tot := by
            have := congrArg List.length hcur
            rw [setAt_length] at this; simp at this; omega
          have hnewl : new.length = k * P.cellsOf t2 := s3
          have hA : ((cs.drop o).take (n * P.cellsOf t2)).length = n * P.cellsOf t2 := by simp; omega
          refine Did.val (s := Builtin.append_ #[t, u] ty #[.slice (some ⟨L.blk, L.sh + o, none⟩) n c', y']) (run_append_in ht hu hui z6 s1 s5 hin ty (w1 := w.setRow L.blk cur') ?_) (v' := .slice (some ⟨L.blk, L.sh + o, none⟩) (n + k) c') ?_
            (Out.take e b L ⟨L.blk, L.sh + o, L.tot, L.unit, true⟩ _ hb (by rw [hob2]; rfl) hfree rfl (fun q hq => setRow_other w _ q _ hq) (by simp) rfl rfl rfl ?_)
          · simp only [addr_add, Nat.add_assoc]; exact hrun
          · have := VR.slice (m := m.put h.next ⟨L.blk, L.sh + o, L.tot, L.unit, true⟩) h.next 0 (n + k) (n + k) c' ⟨L.blk, L.sh + o, L.tot, L.unit, true⟩ (by simp [Map.put]) (Nat.le_refl _) hin (fun _ => by simp only [k6]; omega)
            simpa using this
          · refine .inr ⟨cur', fr, setRow_heap w L.blk cur _ t2 fr k1, hsz', by simp only [List.length_append, hA, hnewl]; omega, ?_, fun _ => k5 (by simp), k6, rfl, ?_, fun hg => absurd hg (by simp)⟩
            · rw [hcur, Nat.add_zero, ← Nat.add_assoc]
              simp only [List.length_append, hA, hnewl]
              rw [setAt_drop_take new'.toList cur.toList (L.sh + o) (n * P.cellsOf t2) (n * P.cellsOf t2 + k * P.cellsOf t2) (by simp [hnl]) (by simp; omega)]
              rw [setAt_eq _ _ _ (by simp [hnl]; omega)]
              refine VL.ext (Map.put_ext hfree) ?_
              have h1 : (List.take (n * P.cellsOf t2) (List.take (n * P.cellsOf t2 + k * P.cellsOf t2) (List.drop (L.sh + o) cur.toList))) = ((cur.toList.drop L.sh).take cs.length |>.drop o).take (n * P.cellsOf t2) := by
                apply List.ext_getElem?
                intro q
                by_cases hq : q < n * P.cellsOf t2
                · rw [List.getElem?_take, if_pos hq, List.getElem?_take, if_pos (by omega), List.getElem?_drop, List.getElem?_take, if_pos hq, List.getElem?_drop, List.getElem?_take, if_pos (by omega), List.getElem?_drop, Nat.add_assoc]
                · rw [List.getElem?_take, if_neg hq, List.getElem?_take, if_neg hq]
              have h2 : (List.drop (n * P.cellsOf t2 + new'.toList.length) (List.take (n * P.cellsOf t2 + k * P.cellsOf t2) (List.drop (L.sh + o) cur.toList))) = [] := by
                apply List.drop_eq_nil_of_le; simp [hnl]; omega
              rw [h1, h2, List.append_nil]
              exact VL.append ((k4.drop o).take _) s4
            · intro _
              rw [List.all_append, s2, Bool.and_true]
              exact all_drop_take (k8 (by simp)) _ _
        · -- in a new one
          have hrd : (h.obj b).read o (n * P.cellsOf t2) = some ((cs.drop o).take (n * P.cellsOf t2)) := by
            rw [hob2]; simp only [Obj.read]; rw [if_pos (by omega)]
          obtain ⟨hl, cs', hv, hcell⟩ := read_sim e' hb hrd
          have hl' : cs'.length = n * P.cellsOf t2 := by rw [← hv.1]; exact hl
          have hold := run_loadCells_sim (P := P) hcell
          rw [hl'] at hold
          obtain ⟨cap, rest, hcap, hrest, hrun⟩ := run_append_new ht hu hui hz (base := some ⟨L.blk, L.sh + o, none⟩) (n := n) (c := c') (old' := cs'.toArray) (new' := new2) s1 (by simp only [Builtin.firstCells, hold]) r5 (by omega) hbd.1 hbd.2 ty (by simp [hl']) hnl2
          have hsz : (cs'.toArray ++ (new2 ++ rest)).size = cap * P.cellsOf t2 := by
            simp only [Array.size_append, hnl2, hrest, List.size_toArray, hl']
            rw [← Nat.add_mul, ← Nat.add_mul]; congr 1; omega
          have hvl : VL m ((cs.drop o).take (n * P.cellsOf t2) ++ new) (cs' ++ new2.toList) := VL.append hv r4
          have hk := Out.kill e' b (by rw [hb]; simp)
          have ho := newCells hk.emb hfree (c := (cs.drop o).take (n * P.cellsOf t2) ++ new) (c' := cs'.toArray ++ (new2 ++ rest)) t2 .grow (by
              have := hvl.1
              simp only [Array.size_append, List.size_toArray, List.length_append, Array.length_toList] at this ⊢; omega) (by
            simp only [Array.toList_append]
            rw [← List.append_assoc, hvl.1, List.take_left]; exact hvl) (0, 0) (fun i _ => by omega) (by
            rw [List.all_append, s2, all_drop_take (k8 (by simp)) _ _]; rfl)
          refine Did.val (s := Builtin.append_ #[t, u] ty #[.slice (some ⟨L.blk, L.sh + o, none⟩) n c', y']) hrun ?_ (((Out.drew e (w.drawn + 1)).trans hk).trans ho)
          exact newSlice (Nat.le_refl _) hcap w.heap.size (by omega) h.next _ m
      · -- of no cells
        obtain ⟨b, o, s⟩ := a
        simp only at hsp
        subst hsp
        simp only [Nat.zero_mul, List.take_zero, List.nil_append, Nat.zero_add] at hf hbd ⊢
        obtain ⟨cap, rest, hcap, hrest, hrun⟩ := run_append_new ht hu hui hz (base := some a') (n := 0) (c := 0) (old' := #[]) (new' := new2) s1 (by simp only [Builtin.firstCells, Nat.zero_mul]; rfl) r5 (by omega) (by simpa using hbd.1) (by simpa using hbd.2) ty (by simp) hnl2
        have hsz : (#[] ++ (new2 ++ rest)).size = cap * P.cellsOf t2 := by
          simp only [Array.size_append, hnl2, hrest, Array.size_empty, Nat.zero_add]
          rw [← Nat.add_mul]; congr 1; omega
        have hl : new.length ≤ (#[] ++ (new2 ++ rest)).size := by
          simp only [Array.size_append]; omega
        have hk := Out.kill e' b (by have := hL0; simp only at this; rw [this]; simp)
        have ho := newCells hk.emb hfree (c := new) (c' := #[] ++ (new2 ++ rest)) t2 .grow hl (by
          have h3 : new.length = new2.toList.length := r4.1
          simp only [Array.toList_append, List.nil_append]
          rw [h3, List.take_left]; exact r4) (0, 0) (fun i _ => by omega) s2
        simp only [Nat.zero_add] at hrun hcap
        refine Did.val (s := Builtin.append_ #[t, u] ty #[.slice (some a') 0 0, y']) hrun ?_ (((Out.drew e (w.drawn + 1)).trans hk).trans ho)
        exact newSlice (Nat.le_refl _) hcap w.heap.size (by omega) h.next _ m
end
end Go.Proofs.Ytekojjilbchkgaa.Can
