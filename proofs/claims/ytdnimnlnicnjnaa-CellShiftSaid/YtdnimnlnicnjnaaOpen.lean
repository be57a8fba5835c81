/- From what a row's arguments read as to the kinds of the walk: numbers, bools, strings, structs and arrays of them, slices of such. No condition beyond those stated in each theorem. -/
import Derived.Deep.Slices
import Derived.ChangeArms
import Derived.OpenShut
import Derived.WideShapes
import Derived.Test.YtdnimnlnicnjnaaWWords
namespace Go.Proofs.Ytdnimnlnicnjnaa.Open
open Go Go.ChangeShapes Go.WideShapes Go.Deep Go.RowKit Go.Proofs.YtdnimnlnicnjnaaW.PrintWords

/-- What reads at a type is of a kind. -/
structure Of (P : Program) (t : TypeId) {α : Type} (d : Kd α) (good : α → Prop) : Prop where
  cells : P.cellsOf t = d.sz
  out : ∀ {H : Type} {enc : TypeId × Value → H} {w : World} {base : Nat} {spare : Nat → Bool} {held : Bool} {fuel : Nat} {cs : List Value} {x : DataW H × List MemPlace}, DataW.trod enc P w base spare held fuel t cs = some x → ∃ a, d.K w a cs ∧ good a

section
variable {P : Program} {t e : TypeId} {α β : Type} {d : Kd α} {b : Kd β} {good : α → Prop} {goodb : β → Prop}

theorem int {k : IntKind} (hu : P.underlying t = some (.int k)) (hc : P.cellsOf t = 1) : Of P t (Kd.int k) (fun n => (Lit.int k n).wf = true) :=
  ⟨hc, fun h => by obtain ⟨n, rfl, _, hw⟩ := DataW.trod_int hu h; exact ⟨n, rfl, hw⟩⟩
theorem bool (hu : P.underlying t = some .bool) (hc : P.cellsOf t = 1) : Of P t Kd.bool (fun _ => True) :=
  ⟨hc, fun h => by obtain ⟨n, rfl, _⟩ := DataW.trod_bool hu h; exact ⟨n, rfl, trivial⟩⟩
theorem string (hu : P.underlying t = some .string) (hc : P.cellsOf t = 1) : Of P t Kd.string (fun s => s.size ≤ maxLen) :=
  ⟨hc, fun h => by obtain ⟨n, rfl, _, hw⟩ := DataW.trod_string hu h; exact ⟨n, rfl, hw⟩⟩

/-- What reads at fields, one behind the other from a place on. -/
structure Fs (P : Program) (fs : List Field) (off : Nat) {α : Type} (d : Kd α) (good : α → Prop) : Prop where
  out : ∀ {H : Type} {enc : TypeId × Value → H} {w : World} {base : Nat} {spare : Nat → Bool} {held : Bool} {n : Nat} {cs : List Value}, cs.length = off + d.sz →
    (∀ f ∈ fs, ∃ y, DataW.trod enc P w base spare held n f.type ((cs.drop f.offset).take (P.cellsOf f.type)) = some y) → ∃ a, d.K w a (cs.drop off) ∧ good a
theorem fs_one {f : Field} {off : Nat} (ho : f.offset = off) (h : Of P f.type d good) : Fs P [f] off d good := by
  refine ⟨?_⟩
  intro H enc w base spare held n cs hl hf
  obtain ⟨y, hy⟩ := hf f (by simp)
  rw [ho, h.cells, List.take_of_length_le (by rw [List.length_drop]; omega)] at hy
  exact h.out hy
theorem fs_cons {f : Field} {fs : List Field} {off : Nat} (ho : f.offset = off) (h : Of P f.type d good) (hr : Fs P fs (off + d.sz) b goodb) : Fs P (f :: fs) off (Kd.pair d b) (fun x => good x.1 ∧ goodb x.2) := by
  refine ⟨?_⟩
  intro H enc w base spare held n cs hl hf
  have hl' : cs.length = off + (d.sz + b.sz) := hl
  obtain ⟨y, hy⟩ := hf f (by simp)
  rw [ho, h.cells] at hy
  obtain ⟨x, hx, gx⟩ := h.out hy
  obtain ⟨z, hz, gz⟩ := hr.out (cs := cs) (by omega) (fun f' hf' => hf f' (List.mem_cons_of_mem _ hf'))
  refine ⟨(x, z), ⟨(cs.drop off).take d.sz, cs.drop (off + d.sz), ?_, hx, hz⟩, gx, gz⟩
  rw [← List.drop_drop, List.take_append_drop]
theorem okWide_array {n : Nat} {r : Reach} {w : World} {base : Nat} {v : Value} (ht : P.underlying t = some (.array n e)) (h : Value.okWide P w r base t v) : ∃ cs, v = .agg cs ∧ cs.size = P.cellsOf t := by
  simp only [Value.okWide, ht] at h
  obtain ⟨cs, h1, h2, _⟩ := h
  exact ⟨cs, h1, h2⟩
theorem fsOne {nm tg pk : String} {em : Bool} {ty off bo : Nat} (h : Of P ty d good) : Fs P [{ name := nm, type := ty, offset := off, embedded := em, tag := tg, pkgPath := pk, byteOffset := bo }] off d good := fs_one rfl h
theorem fsCons {nm tg pk : String} {em : Bool} {ty off bo : Nat} {fs : List Field} (h : Of P ty d good) (hr : Fs P fs (off + d.sz) b goodb) : Fs P ({ name := nm, type := ty, offset := off, embedded := em, tag := tg, pkgPath := pk, byteOffset := bo } :: fs) off (Kd.pair d b) (fun x => good x.1 ∧ goodb x.2) := fs_cons rfl h hr
theorem struct {fs : Array Field} (hu : P.underlying t = some (.struct fs)) (hc : P.cellsOf t = d.sz) (h : Fs P fs.toList 0 d good) : Of P t d good := by
  refine ⟨hc, fun h' => ?_⟩
  obtain ⟨xs, n, _, rfl, hl, hlen, hf⟩ := DataW.trod_struct hu h'
  have := h.out (by rw [hl, hc, Nat.zero_add]) (fun f hf' => by
    obtain ⟨i, hi, rfl⟩ := List.getElem_of_mem hf'
    have hi' : i < fs.size := by simpa using hi
    have e := hf i fs[i] (by rw [Array.getElem?_eq_getElem hi'])
    rw [List.getElem?_eq_getElem (by omega)] at e
    exact ⟨_, e⟩)
  rw [List.drop_zero] at this
  exact this
theorem arr2 (hu : P.underlying t = some (.array 2 e)) (hc : P.cellsOf t = d.sz + d.sz) (h : Of P e d good) : Of P t (Kd.pair d d) (fun x => good x.1 ∧ good x.2) := by
  refine ⟨hc, fun h' => ?_⟩
  obtain ⟨xs, n, _, rfl, hl, hlen, hf⟩ := DataW.trod_array hu h'
  have e0 := hf 0 (by decide)
  have e1 := hf 1 (by decide)
  rw [List.getElem?_eq_getElem (by omega), Nat.zero_mul, List.drop_zero, h.cells] at e0
  rw [List.getElem?_eq_getElem (by omega), Nat.one_mul, h.cells, List.take_of_length_le (by rw [List.length_drop]; omega)] at e1
  obtain ⟨x, hx, gx⟩ := h.out e0
  obtain ⟨z, hz, gz⟩ := h.out e1
  exact ⟨(x, z), ⟨_, _, (List.take_append_drop _ _).symm, hx, hz⟩, gx, gz⟩
theorem iso {f : β → α} (g : α → β) (hfg : ∀ a, f (g a) = a) (h : Of P t d good) : Of P t (Kd.iso d f) (fun x => good (f x)) := by
  refine ⟨h.cells, fun h' => ?_⟩
  obtain ⟨a, hk, hg⟩ := h.out h'
  refine ⟨g a, ?_, ?_⟩
  · show d.K _ (f (g a)) _
    rw [hfg]; exact hk
  · show good (f (g a))
    rw [hfg]; exact hg

theorem list_of {p : Nat → α → Prop} : ∀ n, (∀ i, i < n → ∃ a, p i a) → ∃ l : List α, l.length = n ∧ ∀ j a, l[j]? = some a → p j a
  | 0, _ => ⟨[], rfl, fun j a h => by simp at h⟩
  | n + 1, h => by
    obtain ⟨l, hl, hp⟩ := list_of n (fun i hi => h i (by omega))
    obtain ⟨a, ha⟩ := h n (by omega)
    refine ⟨l ++ [a], by simp [hl], fun j x hj => ?_⟩
    by_cases c : j < l.length
    · rw [List.getElem?_append_left c] at hj; exact hp j x hj
    · rw [List.getElem?_append_right (by omega)] at hj
      by_cases c2 : j - l.length = 0
      · have e : j = n := by omega
        rw [c2] at hj
        simp at hj
        subst hj; subst e; exact ha
      · rw [List.getElem?_eq_none (by simp; omega)] at hj; cases hj

/-- A slice argument: a row of the kind. -/
theorem slice (ht : P.underlying t = some (.slice e)) (h : Of P e d good) {H : Type} {enc : TypeId × Value → H} {w : World} {base : Nat} {spare : Nat → Bool} {held : Bool} {a : Option Addr} {len cap : Nat} {dd : DataW H} {ps : List MemPlace}
    (hx : DataW.Trod enc P w base spare held t (.slice a len cap) dd ps) : ∃ l : List α, Kd.C d w a l.length l ∧ l.length = len ∧ len ≤ cap ∧ cap ≤ maxLen ∧ ∀ x ∈ l, good x := by
  obtain ⟨fuel, hf⟩ := hx
  rcases open_slice ht hf with ⟨hcs, _⟩ | ⟨a', len', cap', m, n, D, Pl, hcs, _, hl, hm, hmm, _, hel⟩
  · simp [Value.cells] at hcs
    obtain ⟨rfl, rfl, rfl⟩ := hcs
    exact ⟨[], ⟨rfl, Nat.zero_le _, fun h => absurd h (Nat.lt_irrefl 0)⟩, rfl, Nat.le_refl _, Nat.zero_le _, fun x hx => by cases hx⟩
  · simp [Value.cells] at hcs
    obtain ⟨rfl, rfl, rfl⟩ := hcs
    have hlm : len ≤ m := by rw [hmm]; split <;> omega
    obtain ⟨l, hlen, hp⟩ := list_of (p := fun i x => (∃ c, c.length = d.sz ∧ d.K w x c ∧ ∀ j u, c[j]? = some u → w.cell? (a'.add (i * d.sz + j)) = some u) ∧ good x) len (fun i hi => by
      obtain ⟨cs', h1, h2⟩ := hel i (by omega)
      obtain ⟨x, hk, hg⟩ := h.out h2
      obtain ⟨_, hcl, hcell⟩ := World.cells?_some h1
      rw [h.cells] at hcl hcell
      refine ⟨x, ⟨cs', hcl, hk, fun j u hj => ?_⟩, hg⟩
      have hjl : j < d.sz := by
        rcases Nat.lt_or_ge j cs'.length with c | c
        · omega
        · rw [List.getElem?_eq_none c] at hj; cases hj
      have := hcell j hjl
      rw [Go.Deep.add_add] at this
      rw [this, hj])
    refine ⟨l, ⟨rfl, by unfold maxLen at hm; omega, fun _ => ⟨a', rfl, fun j p hj => (hp j p hj).1⟩⟩, hlen, hl, hm, fun x hx => ?_⟩
    obtain ⟨j, hj⟩ := List.getElem?_of_mem hx
    exact (hp j x hj).2

/-- A struct argument: its cells. -/
theorem agg (h : Of P t d good) {cs : Array Value} {H : Type} {enc : TypeId × Value → H} {w : World} {base : Nat} {spare : Nat → Bool} {held : Bool} {dd : DataW H} {ps : List MemPlace}
    (hx : DataW.Trod enc P w base spare held t (.agg cs) dd ps) : ∃ a, d.K w a cs.toList ∧ good a := by
  obtain ⟨fuel, hf⟩ := hx
  exact h.out (by simpa [Value.cells] using hf)
end
end Go.Proofs.Ytdnimnlnicnjnaa.Open
