/- What is handed in, as the canonical machine has it: all that lay in memory lies there still, and is not written. No condition. -/
import Derived.Test.YtekojjilbchkgaaCanSound
import Derived.Test.YtekojjilbchkgaaCanVec
import Derived.Deep.Slices
import Derived.ChangeArms
import Derived.OpenShut
import Derived.WideShapes
import Derived.RowKit
import Derived.Below
namespace Go.Proofs.Ytekojjilbchkgaa.Can
open Go Go.ChangeShapes Go.WideShapes Go.Deep Go.RowKit
set_option linter.unusedVariables false
set_option linter.unusedSimpArgs false

/-- What reads at a type is such a value. -/
structure Ar (P : Program) (t : TypeId) {α : Type} (E : Enc α) (good : α → Prop) : Prop where
  cells : P.cellsOf t = E.sz
  out : ∀ {H : Type} {enc : TypeId × Value → H} {w : World} {base : Nat} {spare : Nat → Bool} {held : Bool} {fuel : Nat} {cs : List Value} {x : DataW H × List MemPlace},
    DataW.trod enc P w base spare held fuel t cs = some x → ∃ a, cs = E.enc a ∧ good a

namespace Ar
section
variable {P : Program} {t e : TypeId} {α β : Type} {d : Enc α} {b : Enc β} {good : α → Prop} {goodb : β → Prop}
theorem int {k : IntKind} (hu : P.underlying t = some (.int k)) (hc : P.cellsOf t = 1) : Ar P t (Enc.int k) (fun n => (Lit.int k n).wf = true) :=
  ⟨hc, fun h => by obtain ⟨n, rfl, _, hw⟩ := DataW.trod_int hu h; exact ⟨n, rfl, hw⟩⟩
theorem bool (hu : P.underlying t = some .bool) (hc : P.cellsOf t = 1) : Ar P t Enc.bool (fun _ => True) :=
  ⟨hc, fun h => by obtain ⟨n, rfl, _⟩ := DataW.trod_bool hu h; exact ⟨n, rfl, trivial⟩⟩
theorem str (hu : P.underlying t = some .string) (hc : P.cellsOf t = 1) : Ar P t Enc.str (fun s => s.size ≤ maxLen) :=
  ⟨hc, fun h => by obtain ⟨n, rfl, _, hw⟩ := DataW.trod_string hu h; exact ⟨n, rfl, hw⟩⟩

/-- What reads at fields, one behind the other from a place on. -/
structure Fs (P : Program) (fs : List Field) (off : Nat) {α : Type} (d : Enc α) (good : α → Prop) : Prop where
  out : ∀ {H : Type} {enc : TypeId × Value → H} {w : World} {base : Nat} {spare : Nat → Bool} {held : Bool} {n : Nat} {cs : List Value}, cs.length = off + d.sz →
    (∀ f ∈ fs, ∃ y, DataW.trod enc P w base spare held n f.type ((cs.drop f.offset).take (P.cellsOf f.type)) = some y) → ∃ a, cs.drop off = d.enc a ∧ good a
theorem fs_one {f : Field} {off : Nat} (ho : f.offset = off) (h : Ar P f.type d good) : Fs P [f] off d good := by
  refine ⟨?_⟩
  intro H enc w base spare held n cs hl hf
  obtain ⟨y, hy⟩ := hf f (by simp)
  rw [ho, h.cells, List.take_of_length_le (by rw [List.length_drop]; omega)] at hy
  exact h.out hy
theorem fs_cons {f : Field} {fs : List Field} {off : Nat} (ho : f.offset = off) (h : Ar P f.type d good) (hr : Fs P fs (off + d.sz) b goodb) : Fs P (f :: fs) off (d.pair b) (fun x => good x.1 ∧ goodb x.2) := by
  refine ⟨?_⟩
  intro H enc w base spare held n cs hl hf
  have hl' : cs.length = off + (d.sz + b.sz) := hl
  obtain ⟨y, hy⟩ := hf f (by simp)
  rw [ho, h.cells] at hy
  obtain ⟨x, hx, gx⟩ := h.out hy
  obtain ⟨z, hz, gz⟩ := hr.out (cs := cs) (by omega) (fun f' hf' => hf f' (List.mem_cons_of_mem _ hf'))
  refine ⟨(x, z), ?_, gx, gz⟩
  show _ = d.enc x ++ b.enc z
  rw [← hx, ← hz, ← List.drop_drop, List.take_append_drop]
theorem fsOne {nm tg pk : String} {em : Bool} {ty off bo : Nat} (h : Ar P ty d good) : Fs P [{ name := nm, type := ty, offset := off, embedded := em, tag := tg, pkgPath := pk, byteOffset := bo }] off d good := fs_one rfl h
theorem fsCons {nm tg pk : String} {em : Bool} {ty off bo : Nat} {fs : List Field} (h : Ar P ty d good) (hr : Fs P fs (off + d.sz) b goodb) : Fs P ({ name := nm, type := ty, offset := off, embedded := em, tag := tg, pkgPath := pk, byteOffset := bo } :: fs) off (d.pair b) (fun x => good x.1 ∧ goodb x.2) := fs_cons rfl h hr
theorem struct {fs : Array Field} (hu : P.underlying t = some (.struct fs)) (hc : P.cellsOf t = d.sz) (h : Fs P fs.toList 0 d good) : Ar P t d good := by
  refine ⟨hc, fun h' => ?_⟩
  obtain ⟨xs, n, _, rfl, hl, hlen, hf⟩ := DataW.trod_struct hu h'
  have := h.out (by rw [hl, hc, Nat.zero_add]) (fun f hf' => by
    obtain ⟨i, hi, rfl⟩ := List.getElem_of_mem hf'
    have hi' : i < fs.size := by simpa using hi
    have e := hf i fs[i] (by rw [Array.getElem?_eq_getElem hi'])
    rw [List.getElem?_eq_getElem (by omega)] at e
    exact ⟨_, e⟩)
  rw [List.drop_zero] at this
  exact this
theorem arr2 (hu : P.underlying t = some (.array 2 e)) (hc : P.cellsOf t = d.sz + d.sz) (h : Ar P e d good) : Ar P t (d.pair d) (fun x => good x.1 ∧ good x.2) := by
  refine ⟨hc, fun h' => ?_⟩
  obtain ⟨xs, n, _, rfl, hl, hlen, hf⟩ := DataW.trod_array hu h'
  have e0 := hf 0 (by decide)
  have e1 := hf 1 (by decide)
  rw [List.getElem?_eq_getElem (by omega), Nat.zero_mul, List.drop_zero, h.cells] at e0
  rw [List.getElem?_eq_getElem (by omega), Nat.one_mul, h.cells, List.take_of_length_le (by rw [List.length_drop]; omega)] at e1
  obtain ⟨x, hx, gx⟩ := h.out e0
  obtain ⟨z, hz, gz⟩ := h.out e1
  refine ⟨(x, z), ?_, gx, gz⟩
  show _ = d.enc x ++ d.enc z
  rw [← hx, ← hz, List.take_append_drop]
/-- A value of a struct, or an array. -/
theorem agg (h : Ar P t d good) {cs : Array Value} {H : Type} {enc : TypeId × Value → H} {w : World} {base : Nat} {spare : Nat → Bool} {held : Bool} {dd : DataW H} {ps : List MemPlace}
    (hx : DataW.Trod enc P w base spare held t (.agg cs) dd ps) : ∃ a, cs = (d.enc a).toArray ∧ good a := by
  obtain ⟨fuel, hf⟩ := hx
  obtain ⟨a, ha, hg⟩ := h.out (cs := cs.toList) (by simpa [Value.cells] using hf)
  exact ⟨a, by rw [← ha], hg⟩
theorem okWide_array {n : Nat} {r : Reach} {w : World} {base : Nat} {v : Value} (ht : P.underlying t = some (.array n e)) (h : Value.okWide P w r base t v) : ∃ cs, v = .agg cs ∧ cs.size = P.cellsOf t := by
  simp only [Value.okWide, ht] at h
  obtain ⟨cs, h1, h2, _⟩ := h
  exact ⟨cs, h1, h2⟩
end
end Ar

theorem okWide_slice_lt {P : Program} {w : World} {base : Nat} {t e : TypeId} {a : Option Addr} {len cap : Nat} (ht : P.underlying t = some (.slice e)) (h : Value.okWide P w .any base t (.slice a len cap)) : ∀ x, a = some x → x.block < w.heap.size := by
  intro x hx
  subst hx
  simp only [Value.okWide, ht, Cell.okWide, Cell.ok] at h
  obtain ⟨_, _, _, _, row, cells, hs, _⟩ := h
  unfold World.shape? at hs
  split at hs
  · rename_i c t' fr hb; exact (Array.getElem?_eq_some_iff.1 hb).1
  · simp at hs

/-- From the canonical machine to the program: a law's answer. -/
theorem law_sound {P : Program} {CP : CProg} (hP : Progs P CP) {f : FuncId} {args : List Value} {h : Heap} (hc : CALL CP f args h fun v _ => v = .bool true) {m : Map} {W : World} {args' : Array Value} (ha : VL m args args'.toList) (hE : Emb P ⟨fun k => k < W.heap.size, fun _ => False⟩ m h W) (hf : ∀ b, h.next ≤ b → m b = Option.none) (hgl : GlobOK m := by intro g hg; exact absurd hg (by simp [GLN])) :
    Calls P f args' W fun e W' => e = .returned (.bool true) ∧ Below W.heap.size W W' := by
  refine (call_sound hP hc ha hE hf hgl).mono fun e W' hp => ?_
  obtain ⟨v, v', h1, m1, rfl, rfl, hv, ho⟩ := hp
  refine ⟨by rw [hv.bool_inv], ho.wd.os, ho.wd.tape, ho.wd.output, ho.wd.size, fun k hk => ho.wd.block k (.inl hk)⟩

/-! ### memory as it was -/
def plainV (v : Value) : Value := if selfS v then v else unk
def idObj : Option Go.Obj → Obj
  | some (.cells c t _) => .cells (c.toList.map plainV) t .ro
  | some _ => .cells [] 0 .ro
  | none => .gone
def idHeap (W : World) : Heap := ⟨fun b => idObj W.heap[b]?, W.heap.size⟩
def totOf : Option Go.Obj → Nat
  | some (.cells c _ _) => c.size
  | _ => 0
def unitOf (P : Program) : Option Go.Obj → Nat
  | some (.cells _ t _) => P.cellsOf t
  | _ => 0
def idMap (P : Program) (W : World) : Map := fun b => if b < W.heap.size then some ⟨b, 0, totOf W.heap[b]?, unitOf P W.heap[b]?, false⟩ else none

theorem VR.plain {m : Map} (v : Value) : VR m (plainV v) v := by
  unfold plainV
  split
  · rename_i h; exact VR.selfS h
  · exact .unk v
theorem plain_self {v : Value} (h : selfS v = true) : plainV v = v := by unfold plainV; rw [if_pos h]

/-- Blocks that were there are kept. -/
def Kp (W : World) : Stay := ⟨fun k => k < W.heap.size, fun _ => False⟩
theorem Emb.id (P : Program) (W : World) : Emb P (Kp W) (idMap P W) (idHeap W) W := by
  have hm : ∀ b L, idMap P W b = some L → b < W.heap.size ∧ L = ⟨b, 0, totOf W.heap[b]?, unitOf P W.heap[b]?, false⟩ := fun b L h => by
    unfold idMap at h
    split at h
    · rename_i hb; exact ⟨hb, (Option.some.inj h).symm⟩
    · simp at h
  have hwr : ∀ b, ((idHeap W).obj b).wr = false := fun b => by
    show (idObj W.heap[b]?).wr = false
    unfold idObj
    split <;> rfl
  refine ⟨fun b L h _ => ?_, fun b c L K h1 h2 _ _ he => ?_, fun b L h => ?_, fun b L h hw => ?_, fun b L h _ hf => hf, fun k h => h.elim (fun h => h) False.elim, fun b hb => ?_⟩
  · obtain ⟨h1, rfl⟩ := hm b L h; exact h1
  · obtain ⟨_, rfl⟩ := hm b L h1; obtain ⟨_, rfl⟩ := hm c K h2; exact he
  · obtain ⟨h1, rfl⟩ := hm b L h
    show ObjR P _ _ W (idObj W.heap[b]?)
    cases hq : W.heap[b]? with
    | none => trivial
    | some o =>
      cases o with
      | cells c t fr =>
        refine .inr ⟨c, fr, by simp only [hq], rfl, by simp [totOf], ?_, fun hro => absurd rfl hro, rfl, rfl, fun hro => absurd rfl hro, fun hro => absurd hro (by simp)⟩
        refine ⟨by simp, fun i x y hx hy => ?_⟩
        rw [List.getElem?_map] at hx
        simp only [List.drop_zero, List.length_map] at hy
        rw [List.take_of_length_le (Nat.le_refl _)] at hy
        rw [hy] at hx
        simp only [Option.map_some, Option.some.injEq] at hx
        subst hx
        exact VR.plain y
      | _ => exact .inl ⟨rfl, rfl, rfl⟩
  · rw [hwr b] at hw; exact absurd hw Bool.false_ne_true
  · have hb' : W.heap.size ≤ b := hb
    show idObj W.heap[b]? = .gone
    rw [Array.getElem?_eq_none hb']; rfl
theorem idMap_free (P : Program) (W : World) : ∀ b, (idHeap W).next ≤ b → idMap P W b = none := fun b hb => by
  have hb' : W.heap.size ≤ b := hb
  unfold idMap; rw [if_neg (by omega)]

/-! ### slices handed in -/
def SlIn {α : Type} (h : Heap) (E : Enc α) (v : Value) (l : List α) : Prop :=
  (v = .slice none 0 0 ∧ l = []) ∨
  ∃ b o cap, v = .slice (some ⟨b, o, none⟩) l.length cap ∧ l.length ≤ cap ∧ b < h.next ∧
    ∃ c t, h.obj b = .cells c t .ro ∧ o + cap * E.sz ≤ c.length ∧ ∀ i x, l[i]? = some x → (c.drop (o + i * E.sz)).take E.sz = E.enc x

theorem cell_id {W : World} {a : Addr} {v : Value} (h : W.cell? a = some v) (hs : selfS v = true) :
    a.spot = none ∧ ∃ c t, (idHeap W).obj a.block = .cells c t .ro ∧ a.block < W.heap.size ∧ c[a.off]? = some v := by
  unfold World.cell? at h
  split at h
  case h_2 => simp at h
  rename_i c' t fr hb
  split at h
  · simp at h
  rename_i hsp
  refine ⟨by simpa using hsp, c'.toList.map plainV, t, ?_, (Array.getElem?_eq_some_iff.1 hb).1, ?_⟩
  · show idObj W.heap[a.block]? = _
    rw [hb]; rfl
  · rw [List.getElem?_map, Array.getElem?_toList, h]; simp [plain_self hs]

theorem cell_blk {W : World} {a : Addr} {v : Value} (h : W.cell? a = some v) :
    a.spot = none ∧ ∃ c t, (idHeap W).obj a.block = .cells c t .ro ∧ a.block < W.heap.size ∧ a.off < c.length := by
  unfold World.cell? at h
  split at h
  case h_2 => simp at h
  rename_i c' t fr hb
  split at h
  · simp at h
  rename_i hsp
  refine ⟨by simpa using hsp, c'.toList.map plainV, t, ?_, (Array.getElem?_eq_some_iff.1 hb).1, ?_⟩
  · show idObj W.heap[a.block]? = _
    rw [hb]; rfl
  · have := (Array.getElem?_eq_some_iff.1 h).1
    simpa using this

theorem list_of {α : Type} {p : Nat → α → Prop} : ∀ n, (∀ i, i < n → ∃ a, p i a) → ∃ l : List α, l.length = n ∧ ∀ j a, l[j]? = some a → p j a
  | 0, _ => ⟨[], rfl, fun j a h => by simp at h⟩
  | n + 1, h => by
    obtain ⟨l, hl, hp⟩ := list_of n (fun i hi => h i (by omega))
    obtain ⟨a, ha⟩ := h n (by omega)
    refine ⟨l ++ [a], by simp [hl], fun j x hj => ?_⟩
    by_cases c : j < l.length
    · rw [List.getElem?_append_left c] at hj; exact hp j x hj
    · rw [List.getElem?_append_right (by omega)] at hj
      by_cases c2 : j - l.length = 0
      · have e : j = n := by omega
        rw [c2] at hj
        simp at hj
        subst hj; subst e; exact ha
      · rw [List.getElem?_eq_none (by simp; omega)] at hj; cases hj

/-- A slice that is handed in. -/
theorem slice_in {P : Program} {t e : TypeId} {α : Type} {E : Enc α} {good : α → Prop} (ht : P.underlying t = some (.slice e)) (hE : Ar P e E good) (hsz : 0 < E.sz) {H : Type} {enc : TypeId × Value → H} {w : World} {a : Option Addr} {len cap : Nat} {dd : DataW H} {ps : List MemPlace}
    (hlt : ∀ x, a = some x → x.block < w.heap.size)
    (hx : DataW.Trod enc P w 0 (fun _ => true) true t (.slice a len cap) dd ps) :
    ∃ (l : List α) (v : Value), SlIn (idHeap w) E v l ∧ VR (idMap P w) v (.slice a len cap) ∧ l.length = len ∧ len ≤ cap ∧ cap ≤ maxLen ∧ ∀ x ∈ l, good x := by
  obtain ⟨fuel, hf⟩ := hx
  rcases open_slice ht hf with ⟨hcs, _⟩ | ⟨a', len', cap', m, n, D, Pl, hcs, _, hl, hm, hmm, _, hel⟩
  · simp [Value.cells] at hcs
    obtain ⟨rfl, rfl, rfl⟩ := hcs
    exact ⟨[], .slice none 0 0, .inl ⟨rfl, rfl⟩, .nilSlice 0 0, rfl, Nat.le_refl _, Nat.zero_le _, fun x hx => by cases hx⟩
  · simp [Value.cells] at hcs
    obtain ⟨rfl, rfl, rfl⟩ := hcs
    have hmm' : m = cap := by rw [hmm]; rfl
    subst hmm'
    have hlb := hlt a' rfl
    rcases Nat.eq_zero_or_pos m with h0 | hpos
    · subst h0
      obtain rfl : len = 0 := by omega
      obtain ⟨c0, t0, hob⟩ : ∃ c t, (idHeap w).obj a'.block = .cells c t .ro := by
        show ∃ c t, idObj w.heap[a'.block]? = .cells c t .ro
        rw [Array.getElem?_eq_getElem hlb]
        unfold idObj
        split
        · exact ⟨_, _, rfl⟩
        · exact ⟨_, _, rfl⟩
        · rename_i h; simp at h
      exact ⟨[], .slice (some ⟨a'.block, 0, none⟩) 0 0, .inr ⟨_, _, 0, rfl, Nat.le_refl _, hlb, c0, t0, hob, by omega, fun i x hx => by simp at hx⟩,
        .slice0 a'.block 0 ⟨a'.block, 0, totOf w.heap[a'.block]?, unitOf P w.heap[a'.block]?, false⟩ a' (by unfold idMap; rw [if_pos hlb]), rfl, Nat.le_refl _, hm, fun x hx => by cases hx⟩
    · have cellAt : ∀ i j, i < m → j < E.sz → ∃ u, w.cell? (a'.add (i * E.sz + j)) = some u := fun i j hi hj => by
        obtain ⟨cs', h1, h2⟩ := hel i hi
        obtain ⟨_, hcl, hcell⟩ := World.cells?_some h1
        rw [hE.cells] at hcl hcell
        have := hcell j hj
        rw [Go.Deep.add_add] at this
        exact ⟨_, by rw [this]; exact List.getElem?_eq_getElem (by omega)⟩
      obtain ⟨u0, hu0⟩ := cellAt 0 0 hpos hsz
      rw [Nat.zero_mul, Nat.add_zero, add_zero_addr] at hu0
      obtain ⟨hspot, c0, t0, hob, _, _⟩ := cell_blk hu0
      obtain ⟨ab, ao, as⟩ := a'
      simp only at hspot hob hlb
      subst hspot
      have hend : ao + m * E.sz ≤ c0.length := by
        obtain ⟨u1, hu1⟩ := cellAt (m - 1) (E.sz - 1) (by omega) (by omega)
        rw [add_plain] at hu1
        obtain ⟨_, c1, t1, hob1, _, hlt1⟩ := cell_blk hu1
        simp only at hob1 hlt1
        rw [hob] at hob1
        simp only [Obj.cells.injEq] at hob1
        rw [← hob1.1] at hlt1
        have : (m - 1) * E.sz + E.sz = m * E.sz := by
          obtain ⟨q, rfl⟩ : ∃ q, m = q + 1 := ⟨m - 1, by omega⟩
          rw [Nat.add_sub_cancel, Nat.add_mul, Nat.one_mul]
        omega
      obtain ⟨l, hlen, hp⟩ := list_of (p := fun i x => (c0.drop (ao + i * E.sz)).take E.sz = E.enc x ∧ good x) len (fun i hi => by
        obtain ⟨cs', h1, h2⟩ := hel i (by omega)
        obtain ⟨x, hk, hg⟩ := hE.out h2
        obtain ⟨_, hcl, hcell⟩ := World.cells?_some h1
        rw [hE.cells] at hcl hcell
        refine ⟨x, ?_, hg⟩
        rw [← hk]
        apply List.ext_getElem?
        intro j
        by_cases hj : j < E.sz
        · rw [getElem?_drop_take _ _ _ _ hj]
          have h3 := hcell j hj
          rw [Go.Deep.add_add, add_plain] at h3
          have hcj : cs'[j]? = some cs'[j] := List.getElem?_eq_getElem (by omega)
          rw [hcj] at h3
          have hself : selfS cs'[j] = true := by
            have := E.self x
            rw [← hk] at this
            exact List.all_eq_true.1 this _ (List.getElem_mem _)
          obtain ⟨_, c1, t1, hob1, _, hget⟩ := cell_id h3 hself
          simp only at hob1 hget
          rw [hob] at hob1
          simp only [Obj.cells.injEq] at hob1
          rw [← hob1.1] at hget
          rw [Nat.add_assoc, hget, hcj]
        · rw [List.getElem?_eq_none (by simp; omega), List.getElem?_eq_none (by omega)])
      refine ⟨l, .slice (some ⟨ab, ao, none⟩) len m, .inr ⟨ab, ao, m, by rw [hlen], by omega, hlb, c0, t0, hob, hend, fun i x hx => (hp i x hx).1⟩, ?_, hlen, hl, hm, fun x hx => ?_⟩
      · have := VR.slice (m := idMap P w) ab ao len m m ⟨ab, 0, totOf w.heap[ab]?, unitOf P w.heap[ab]?, false⟩ (by unfold idMap; rw [if_pos hlb]) hl (Nat.le_refl _) (fun h => absurd h Bool.false_ne_true)
        simpa using this
      · obtain ⟨j, hj⟩ := List.getElem?_of_mem hx
        exact (hp j x hj).2

theorem VR.enc {m : Map} {α : Type} (E : Enc α) (x : α) : VR m (.agg (E.enc x).toArray) (.agg (E.enc x).toArray) :=
  VR.selfV (show (E.enc x).all Can.selfS = true from E.self x)

/-! ### structs with slices in them -/
structure Rd (α : Type) where
  sz : Nat
  rel : Heap → List Value → α → Prop
namespace Rd
def flat {α : Type} (E : Enc α) (good : α → Prop) : Rd α := ⟨E.sz, fun _ cc a => cc = E.enc a ∧ good a⟩
def slice {α : Type} (E : Enc α) (good : α → Prop) : Rd (List α) := ⟨1, fun h cc l => ∃ v, cc = [v] ∧ SlIn h E v l ∧ l.length ≤ maxLen ∧ ∀ x ∈ l, good x⟩
def pair {α β : Type} (a : Rd α) (b : Rd β) : Rd (α × β) := ⟨a.sz + b.sz, fun h cc x => ∃ c d, cc = c ++ d ∧ a.rel h c x.1 ∧ b.rel h d x.2⟩
end Rd
structure ArS (P : Program) (t : TypeId) {α : Type} (R : Rd α) : Prop where
  cells : P.cellsOf t = R.sz
  out : ∀ {H : Type} {enc : TypeId × Value → H} {w : World} {fuel : Nat} {cs : List Value} {x : DataW H × List MemPlace},
    DataW.trod enc P w 0 (fun _ => true) true fuel t cs = some x → (∀ a n c, Value.slice (some a) n c ∈ cs → a.block < w.heap.size) → ∃ cc a, VL (idMap P w) cc cs ∧ R.rel (idHeap w) cc a
namespace ArS
section
variable {P : Program} {t e : TypeId} {α β : Type} {E : Enc α} {good : α → Prop} {a : Rd α} {b : Rd β}
theorem flat (h : Ar P t E good) : ArS P t (Rd.flat E good) :=
  ⟨h.cells, fun hx _ => by
    obtain ⟨a, rfl, hg⟩ := h.out hx
    exact ⟨_, a, VL.selfS (E.self a), rfl, hg⟩⟩
theorem slice (ht : P.underlying t = some (.slice e)) (hc : P.cellsOf t = 1) (hE : Ar P e E good) (hsz : 0 < E.sz) : ArS P t (Rd.slice E good) :=
  ⟨hc, fun {H enc w fuel cs x} hx hlt => by
    obtain ⟨a, n, c, rfl⟩ : ∃ a n c, cs = [.slice a n c] := by
      rcases open_slice ht hx with ⟨hcs, _⟩ | ⟨a', len', cap', m, n, D, Pl, hcs, _⟩
      · exact ⟨_, _, _, hcs⟩
      · exact ⟨_, _, _, hcs⟩
    obtain ⟨l, v, h1, h2, h3, h4, h5, h6⟩ := slice_in (a := a) (len := n) (cap := c) ht hE hsz (fun y hy => hlt y n c (by rw [hy]; exact List.mem_singleton_self _)) ⟨fuel, by simpa [Value.cells] using hx⟩
    exact ⟨[v], l, VL.cons h2 (VL.nil _), v, rfl, h1, by omega, h6⟩⟩
structure Fs (P : Program) (fs : List Field) (off : Nat) {α : Type} (d : Rd α) : Prop where
  out : ∀ {H : Type} {enc : TypeId × Value → H} {w : World} {n : Nat} {cs : List Value}, cs.length = off + d.sz → (∀ a n c, Value.slice (some a) n c ∈ cs → a.block < w.heap.size) →
    (∀ f ∈ fs, ∃ y, DataW.trod enc P w 0 (fun _ => true) true n f.type ((cs.drop f.offset).take (P.cellsOf f.type)) = some y) → ∃ cc a, VL (idMap P w) cc (cs.drop off) ∧ d.rel (idHeap w) cc a
theorem fs_one {f : Field} {off : Nat} (ho : f.offset = off) (h : ArS P f.type a) : Fs P [f] off a := by
  refine ⟨?_⟩
  intro H enc w n cs hl hlt hf
  obtain ⟨y, hy⟩ := hf f (by simp)
  rw [ho, h.cells, List.take_of_length_le (by rw [List.length_drop]; omega)] at hy
  exact h.out hy fun a n c hm => hlt a n c (List.mem_of_mem_drop hm)
theorem fs_cons {f : Field} {fs : List Field} {off : Nat} (ho : f.offset = off) (h : ArS P f.type a) (hr : Fs P fs (off + a.sz) b) : Fs P (f :: fs) off (a.pair b) := by
  refine ⟨?_⟩
  intro H enc w n cs hl hlt hf
  have hl' : cs.length = off + (a.sz + b.sz) := hl
  obtain ⟨y, hy⟩ := hf f (by simp)
  rw [ho, h.cells] at hy
  obtain ⟨c1, x, hx, gx⟩ := h.out hy fun a n c hm => hlt a n c (List.mem_of_mem_drop (List.mem_of_mem_take hm))
  obtain ⟨c2, z, hz, gz⟩ := hr.out (cs := cs) (by omega) hlt (fun f' hf' => hf f' (List.mem_cons_of_mem _ hf'))
  refine ⟨c1 ++ c2, (x, z), ?_, c1, c2, rfl, gx, gz⟩
  have := VL.append hx hz
  rw [← List.drop_drop, List.take_append_drop] at this
  exact this
theorem fsOne {nm tg pk : String} {em : Bool} {ty off bo : Nat} (h : ArS P ty a) : Fs P [{ name := nm, type := ty, offset := off, embedded := em, tag := tg, pkgPath := pk, byteOffset := bo }] off a := fs_one rfl h
theorem fsCons {nm tg pk : String} {em : Bool} {ty off bo : Nat} {fs : List Field} (h : ArS P ty a) (hr : Fs P fs (off + a.sz) b) : Fs P ({ name := nm, type := ty, offset := off, embedded := em, tag := tg, pkgPath := pk, byteOffset := bo } :: fs) off (a.pair b) := fs_cons rfl h hr
theorem struct {fs : Array Field} (hu : P.underlying t = some (.struct fs)) (hc : P.cellsOf t = a.sz) (h : Fs P fs.toList 0 a) : ArS P t a := by
  refine ⟨hc, fun h' hlt => ?_⟩
  obtain ⟨xs, n, _, rfl, hl, hlen, hf⟩ := DataW.trod_struct hu h'
  have := h.out (by rw [hl, hc, Nat.zero_add]) hlt (fun f hf' => by
    obtain ⟨i, hi, rfl⟩ := List.getElem_of_mem hf'
    have hi' : i < fs.size := by simpa using hi
    have e := hf i fs[i] (by rw [Array.getElem?_eq_getElem hi'])
    rw [List.getElem?_eq_getElem (by omega)] at e
    exact ⟨_, e⟩)
  rw [List.drop_zero] at this
  exact this
theorem agg (h : ArS P t a) {cs : Array Value} {H : Type} {enc : TypeId × Value → H} {w : World} {dd : DataW H} {ps : List MemPlace}
    (hlt : ∀ a n c, Value.slice (some a) n c ∈ cs.toList → a.block < w.heap.size) (hx : DataW.Trod enc P w 0 (fun _ => true) true t (.agg cs) dd ps) : ∃ cc x, VR (idMap P w) (.agg cc.toArray) (.agg cs) ∧ a.rel (idHeap w) cc x := by
  obtain ⟨fuel, hf⟩ := hx
  obtain ⟨cc, x, hv, hr⟩ := h.out (cs := cs.toList) (by simpa [Value.cells] using hf) hlt
  exact ⟨cc, x, VR.agg_of (by simpa using hv), hr⟩
end
end ArS
theorem okWide_row {P : Program} {w : World} {base : Nat} {t : TypeId} {fs : Array Field} {cs : Array Value} (ht : P.underlying t = some (.struct fs)) (h : Value.okWide P w .any base t (.agg cs)) :
    ∀ a n c, Value.slice (some a) n c ∈ cs.toList → a.block < w.heap.size := by
  intro a n c hm
  simp only [Value.okWide, ht] at h
  obtain ⟨cs', h1, _, ts, _, _, hrow⟩ := h
  obtain rfl := Value.agg.inj h1
  obtain ⟨i, hi⟩ := List.getElem?_of_mem hm
  rw [Array.getElem?_toList] at hi
  obtain ⟨u, _, hok⟩ := hrow i _ hi
  unfold Cell.okWide at hok
  split at hok <;> try contradiction
  unfold Cell.ok at hok
  split at hok <;> try contradiction
  all_goals
    rename_i hv
    first
      | (exfalso; simp at hv; done)
      | skip
  · rename_i hv
    obtain ⟨_, _, _, _, row, cells, hs, _⟩ := hok
    simp only [Value.slice.injEq, Option.some.injEq] at hv
    rw [← hv.1] at hs
    unfold World.shape? at hs
    split at hs
    · rename_i hb; exact (Array.getElem?_eq_some_iff.1 hb).1
    · simp at hs

/-! ### how a slice that was handed in is read -/
section
variable {α : Type} {h h' : Heap} {E : Enc α} {v : Value} {l : List α}
theorem SlIn.old (s : SlIn h E v l) (hn : h.next ≤ h'.next) (ho : ∀ b, b < h.next → h'.obj b = h.obj b) : SlIn h' E v l := by
  rcases s with s | ⟨b, o, cap, h1, h2, h3, h4⟩
  · exact .inl s
  · refine .inr ⟨b, o, cap, h1, h2, Nat.lt_of_lt_of_le h3 hn, ?_⟩
    obtain ⟨c, t, k1, k2⟩ := h4
    exact ⟨c, t, by rw [ho b h3]; exact k1, k2⟩
theorem SlIn.val (s : SlIn h E v l) : ∃ a cap, v = .slice a l.length cap ∧ l.length ≤ cap := by
  rcases s with ⟨rfl, rfl⟩ | ⟨b, o, cap, h1, h2, _⟩
  · exact ⟨none, 0, rfl, Nat.le_refl _⟩
  · exact ⟨_, cap, h1, h2⟩
theorem SlIn.read {a : Option Addr} {n cap : Nat} (s : SlIn h E (.slice a n cap) l) {i : Nat} {x : α} (hx : l[i]? = some x) :
    ∃ b o, a = some ⟨b, o, none⟩ ∧ b < h.next ∧ (h.obj b).read (o + i * E.sz) E.sz = some (E.enc x) := by
  rcases s with ⟨_, rfl⟩ | ⟨b, o, cap', h1, h2, h3, h4⟩
  · simp at hx
  · simp only [Value.slice.injEq] at h1
    obtain ⟨rfl, rfl, rfl⟩ := h1
    have hi := (List.getElem?_eq_some_iff.1 hx).1
    obtain ⟨c, t, hob, hend, hat⟩ := h4
    refine ⟨b, o, rfl, h3, ?_⟩
    have : (i + 1) * E.sz ≤ cap * E.sz := Nat.mul_le_mul_right _ (by omega)
    rw [Nat.add_mul, Nat.one_mul] at this
    rw [hob, Obj.read, if_pos (by omega), hat i x hx]
theorem SlIn.get {k : IntKind} {l : List Int} {a : Option Addr} {n cap : Nat} (s : SlIn h (Enc.int k) (.slice a n cap) l) {i : Nat} {x : Int} (hx : l[i]? = some x) :
    ∃ b o, a = some ⟨b, o, none⟩ ∧ b < h.next ∧ (h.obj b).get (o + i) = some (.int k x) := by
  obtain ⟨b, o, h1, h2, h3⟩ := s.read hx
  exact ⟨b, o, h1, h2, get_of_read (by simpa [Enc.int] using h3)⟩
theorem SlIn.src (s : SlIn h E v l) : srcCells h E.sz v = some (l.flatMap E.enc, l.length) := by
  rcases s with ⟨rfl, rfl⟩ | ⟨b, o, cap, rfl, h2, h3, h4⟩
  · rfl
  · unfold srcCells
    simp only [if_true]
    obtain ⟨c, t, hob, hend, hat⟩ := h4
    have hle : l.length * E.sz ≤ cap * E.sz := Nat.mul_le_mul_right _ h2
    have hcut : ∀ n, n ≤ l.length → (c.drop o).take (n * E.sz) = (l.take n).flatMap E.enc := by
      intro n
      induction n with
      | zero => intro _; simp
      | succ n ih =>
        intro hn
        have hx : l[n]? = some l[n] := List.getElem?_eq_getElem (by omega)
        rw [List.take_add_one, hx, List.flatMap_append, ← ih (by omega), Nat.add_mul, Nat.one_mul, List.take_add, List.drop_drop, hat n _ hx]
        simp
    have hall : (l.flatMap E.enc).all scalar = true := by
      rw [List.all_eq_true]
      intro x hx
      obtain ⟨y, _, hy⟩ := List.mem_flatMap.1 hx
      exact scalar_of_self (List.all_eq_true.1 (E.self y) x hy)
    have hc := hcut l.length (Nat.le_refl _)
    rw [List.take_length] at hc
    rw [hob, Obj.src, hc, if_pos ⟨by omega, hall⟩]
    rfl
end

/-- A slice that is read. -/
def Lst {α : Type} (h : Heap) (E : Enc α) (v : Value) (l : List α) : Prop :=
  ∃ a cap, v = .slice a l.length cap ∧ ∀ i x, l[i]? = some x → ∃ b o, a = some ⟨b, o, none⟩ ∧ b < h.next ∧ (h.obj b).read (o + i * E.sz) E.sz = some (E.enc x)
theorem Lst.old {α : Type} {h h' : Heap} {E : Enc α} {v : Value} {l : List α} (s : Lst h E v l) (o : Old h h') : Lst h' E v l := by
  obtain ⟨a, cap, h1, h2⟩ := s
  refine ⟨a, cap, h1, fun i x hx => ?_⟩
  obtain ⟨b, off, k1, k2, k3⟩ := h2 i x hx
  exact ⟨b, off, k1, Nat.lt_of_lt_of_le k2 o.next, by rw [o.obj b k2]; exact k3⟩
theorem SlIn.sl {α : Type} {h : Heap} {E : Enc α} {v : Value} {l : List α} (s : SlIn h E v l) : Lst h E v l := by
  obtain ⟨a, cap, rfl, _⟩ := s.val
  exact ⟨a, cap, rfl, fun i x hx => s.read hx⟩
theorem Vec.sl {α : Type} {h : Heap} {t : TypeId} {E : Enc α} {v : Value} {l : List α} {b : Nat} (s : Vec h t E v l b) : Lst h E v l := by
  rcases s with ⟨rfl, rfl⟩ | ⟨cap, rest, rfl, h1, h2, h3, h4⟩
  · exact ⟨none, 0, rfl, fun i x hx => by simp at hx⟩
  · refine ⟨_, cap, rfl, fun i x hx => ⟨b, 0, rfl, h1, ?_⟩⟩
    obtain ⟨_, _, hr⟩ := Vec.read (.inr ⟨cap, rest, rfl, h1, h2, h3, h4⟩) hx
    exact hr
theorem Old.put {h hh : Heap} (o : Old h hh) (a b : Obj) : Old h ((hh.new a).upd hh.next b) :=
  ⟨Nat.le_trans o.next (Nat.le_succ _), fun x hx => by have := o.next; rw [obj_upd_ne _ _ (by omega), obj_new_ne _ _ (by omega)]; exact o.obj x hx⟩
theorem Old.more {h hh : Heap} (o : Old h hh) (a : Obj) : Old h (hh.new a) :=
  ⟨Nat.le_trans o.next (Nat.le_succ _), fun x hx => by have := o.next; rw [obj_new_ne _ _ (by omega)]; exact o.obj x hx⟩
theorem take_get {α : Type} {l : List α} {j : Nat} {x : α} (h : l[j]? = some x) : l.take (j + 1) = l.take j ++ [x] := by
  rw [List.take_add_one, h]; rfl
theorem if_max (x y : Int) : (if y > x then y else x) = max x y := by omega
theorem if_min (x y : Int) : (if y < x then y else x) = min x y := by omega
end Go.Proofs.Ytekojjilbchkgaa.Can
