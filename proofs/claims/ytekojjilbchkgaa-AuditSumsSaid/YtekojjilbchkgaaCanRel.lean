/- How the canonical machine's memory stands to the program's. No condition. -/
import Derived.Test.YtekojjilbchkgaaCan
import Derived.Laws.Tables
import Derived.Laws.Cells
import Derived.Below
namespace Go.Proofs.Ytekojjilbchkgaa.Can
open Go

/-- Where an object lies: its block, the place of its first cell, the block's cells, an element's cells, may it grow. -/
structure Loc where
  blk : Nat
  sh : Nat
  tot : Nat
  unit : Nat
  grow : Bool

abbrev Map := Nat → Option Loc

inductive VR (m : Map) : Value → Value → Prop
  | bool (b : Bool) : VR m (.bool b) (.bool b)
  | int (k : IntKind) (n : Int) : VR m (.int k n) (.int k n)
  | float (k : FloatKind) (n : Nat) : VR m (.float k n) (.float k n)
  | complex (k : FloatKind) (a b : Nat) : VR m (.complex k a b) (.complex k a b)
  | string (s : ByteArray) : VR m (.string s) (.string s)
  | nilPtr : VR m (.pointer none) (.pointer none)
  | ptr (b o : Nat) (L : Loc) (h : m b = some L) : VR m (.pointer (some ⟨b, o, none⟩)) (.pointer (some ⟨L.blk, L.sh + o, none⟩))
  | nilSlice (n c : Nat) : VR m (.slice none n c) (.slice none n c)
  | slice (b o n c c' : Nat) (L : Loc) (h : m b = some L) (hn : n ≤ c) (hc : c ≤ c') (hg : L.grow = true → L.sh + o + c' * L.unit ≤ L.tot) :
      VR m (.slice (some ⟨b, o, none⟩) n c) (.slice (some ⟨L.blk, L.sh + o, none⟩) n c')
  | slice0 (b o : Nat) (L : Loc) (a' : Addr) (h : m b = some L) : VR m (.slice (some ⟨b, o, none⟩) 0 0) (.slice (some a') 0 0)
  | nilMap : VR m (.map none) (.map none)
  | map (r : Nat) (L : Loc) (h : m r = some L) : VR m (.map (some r)) (.map (some L.blk))
  | nilFunc : VR m .nilFunc .nilFunc
  | func (f : Fn) (a a' c c' : Array Value) (ha : a.size = a'.size) (hav : ∀ (i : Nat) (x y : Value), a[i]? = some x → a'[i]? = some y → VR m x y)
      (hc : c.size = c'.size) (hcv : ∀ (i : Nat) (x y : Value), c[i]? = some x → c'[i]? = some y → VR m x y) : VR m (.func f a c) (.func f a' c')
  | nilIface : VR m .nilIface .nilIface
  | iface (t : TypeId) (v v' : Value) (h : VR m v v') : VR m (.iface t v) (.iface t v')
  | agg (a a' : Array Value) (ha : a.size = a'.size) (hav : ∀ (i : Nat) (x y : Value), a[i]? = some x → a'[i]? = some y → VR m x y) : VR m (.agg a) (.agg a')
  | tuple (a a' : Array Value) (ha : a.size = a'.size) (hav : ∀ (i : Nat) (x y : Value), a[i]? = some x → a'[i]? = some y → VR m x y) : VR m (.tuple a) (.tuple a')
  | unk (v : Value) : VR m unk v

def Ext (m m' : Map) : Prop := ∀ b L, m b = some L → m' b = some L
theorem Ext.refl (m : Map) : Ext m m := fun _ _ h => h
theorem Ext.trans {a b c : Map} (h : Ext a b) (k : Ext b c) : Ext a c := fun x L e => k x L (h x L e)

theorem VR.ext {m m' : Map} (hm : Ext m m') {v v' : Value} (h : VR m v v') : VR m' v v' := by
  induction h with
  | bool b => exact .bool b
  | int k n => exact .int k n
  | float k n => exact .float k n
  | complex k a b => exact .complex k a b
  | string s => exact .string s
  | nilPtr => exact .nilPtr
  | ptr b o L h => exact .ptr b o L (hm _ _ h)
  | nilSlice n c => exact .nilSlice n c
  | slice b o n c c' L h hn hc hg => exact .slice b o n c c' L (hm _ _ h) hn hc hg
  | slice0 b o L a' h => exact .slice0 b o L a' (hm _ _ h)
  | nilMap => exact .nilMap
  | map r L h => exact .map r L (hm _ _ h)
  | nilFunc => exact .nilFunc
  | func f a a' c c' ha hav hc hcv ih1 ih2 => exact .func f a a' c c' ha ih1 hc ih2
  | nilIface => exact .nilIface
  | iface t v v' h ih => exact .iface t v v' ih
  | agg a a' ha hav ih => exact .agg a a' ha ih
  | tuple a a' ha hav ih => exact .tuple a a' ha ih
  | unk v => exact .unk v

/-- Lists of values, place by place. -/
def VL (m : Map) (a b : List Value) : Prop := a.length = b.length ∧ ∀ (i : Nat) (x y : Value), a[i]? = some x → b[i]? = some y → VR m x y

theorem VL.nil (m : Map) : VL m [] [] := ⟨rfl, fun i x y h => by simp at h⟩
theorem VL.cons {m : Map} {a b : Value} {x y : List Value} (h : VR m a b) (k : VL m x y) : VL m (a :: x) (b :: y) := by
  refine ⟨by simp [k.1], fun i u v hu hv => ?_⟩
  cases i with
  | zero => simp at hu hv; subst hu; subst hv; exact h
  | succ i => exact k.2 i u v (by simpa using hu) (by simpa using hv)
theorem VL.head {m : Map} {a b : Value} {x y : List Value} (h : VL m (a :: x) (b :: y)) : VR m a b := h.2 0 a b rfl rfl
theorem VL.tail {m : Map} {a b : Value} {x y : List Value} (h : VL m (a :: x) (b :: y)) : VL m x y :=
  ⟨by have := h.1; simpa using this, fun i u v hu hv => h.2 (i + 1) u v (by simpa using hu) (by simpa using hv)⟩
theorem VL.of_cons {m : Map} {a : Value} {x : List Value} {l : List Value} (h : VL m (a :: x) l) : ∃ b y, l = b :: y ∧ VR m a b ∧ VL m x y := by
  cases l with
  | nil => have := h.1; simp at this
  | cons b y => exact ⟨b, y, rfl, h.head, h.tail⟩
theorem VL.of_nil {m : Map} {l : List Value} (h : VL m [] l) : l = [] := by
  cases l with
  | nil => rfl
  | cons b y => have := h.1; simp at this
theorem VL.append {m : Map} : ∀ {a b x y : List Value}, VL m a b → VL m x y → VL m (a ++ x) (b ++ y)
  | [], b, _, _, h, k => by rw [h.of_nil]; exact k
  | a :: as, l, _, _, h, k => by
    obtain ⟨b, bs, rfl, h1, h2⟩ := h.of_cons
    exact VL.cons h1 (VL.append h2 k)
theorem VL.ext {m m' : Map} (hm : Ext m m') {a b : List Value} (h : VL m a b) : VL m' a b := ⟨h.1, fun i x y hx hy => (h.2 i x y hx hy).ext hm⟩
theorem VL.drop {m : Map} {a b : List Value} (h : VL m a b) (n : Nat) : VL m (a.drop n) (b.drop n) :=
  ⟨by simp [h.1], fun i x y hx hy => h.2 (n + i) x y (by simpa using hx) (by simpa using hy)⟩
theorem VL.take {m : Map} {a b : List Value} (h : VL m a b) (n : Nat) : VL m (a.take n) (b.take n) := by
  refine ⟨by simp [h.1], fun i x y hx hy => ?_⟩
  rw [List.getElem?_take] at hx hy
  split at hx
  · rename_i hi; rw [if_pos hi] at hy; exact h.2 i x y hx hy
  · simp at hx
theorem VL.set {m : Map} {a b : List Value} (h : VL m a b) {x y : Value} (hx : VR m x y) (n : Nat) : VL m (a.set n x) (b.set n y) := by
  refine ⟨by simp [h.1], fun i u v hu hv => ?_⟩
  rw [List.getElem?_set] at hu hv
  by_cases hi : n = i
  · subst hi
    simp only [if_true] at hu hv
    split at hu
    · split at hv
      · simp only [Option.some.injEq] at hu hv; subst hu; subst hv; exact hx
      · simp at hv
    · simp at hu
  · rw [if_neg hi] at hu hv; exact h.2 i u v hu hv
theorem VL.setAt {m : Map} : ∀ {x y : List Value} {a b : List Value} (n : Nat), VL m a b → VL m x y → VL m (setAt a n x) (setAt b n y)
  | [], l, a, b, n, h, k => by rw [k.of_nil]; exact h
  | u :: us, l, a, b, n, h, k => by
    obtain ⟨v, vs, rfl, h1, h2⟩ := k.of_cons
    exact VL.setAt (n + 1) (h.set h1 n) h2
theorem VL.getD {m : Map} {a b : List Value} (h : VL m a b) (i : Nat) (d : Value) (hd : VR m d d) : VR m (a.getD i d) (b.getD i d) := by
  by_cases hi : i < a.length
  · have hb : i < b.length := by have := h.1; omega
    simp only [List.getD_eq_getElem?_getD, List.getElem?_eq_getElem hi, List.getElem?_eq_getElem hb, Option.getD_some]
    exact h.2 i _ _ (List.getElem?_eq_getElem hi) (List.getElem?_eq_getElem hb)
  · have hb : ¬ i < b.length := by have := h.1; omega
    simp only [List.getD_eq_getElem?_getD, List.getElem?_eq_none (Nat.le_of_not_lt hi), List.getElem?_eq_none (Nat.le_of_not_lt hb), Option.getD_none]
    exact hd
theorem VL.get {m : Map} {a b : List Value} (h : VL m a b) {i : Nat} {x : Value} (hx : a[i]? = some x) : ∃ y, b[i]? = some y ∧ VR m x y := by
  have hi : i < a.length := by
    rcases Nat.lt_or_ge i a.length with h | h
    · exact h
    · rw [List.getElem?_eq_none h] at hx; simp at hx
  have hb : i < b.length := by have := h.1; omega
  exact ⟨_, List.getElem?_eq_getElem hb, h.2 i _ _ hx (List.getElem?_eq_getElem hb)⟩

theorem VR.selfS {m : Map} {v : Value} (h : Can.selfS v = true) : VR m v v := by
  unfold Can.selfS at h
  split at h <;> first | constructor | (exact absurd h (by simp))
theorem VL.selfS {m : Map} : ∀ {l : List Value}, l.all Can.selfS = true → VL m l l
  | [], _ => VL.nil m
  | a :: l, h => by
    simp only [List.all_cons, Bool.and_eq_true] at h
    exact VL.cons (VR.selfS h.1) (VL.selfS h.2)
theorem VR.selfV {m : Map} {v : Value} (h : Can.selfV v = true) : VR m v v := by
  unfold Can.selfV at h
  split at h
  · rename_i cs
    refine .agg cs cs rfl fun i x y hx hy => ?_
    rw [hx] at hy; obtain rfl := Option.some.inj hy
    have := VL.selfS (m := m) h
    exact this.2 i x x (by simpa using hx) (by simpa using hx)
  · rename_i vs
    have hv : vs = #[] := by simpa using h
    subst hv
    exact .tuple #[] #[] rfl (fun i x y h => by simp at h)
  · exact VR.selfS h

/-- An object of the canonical machine may be written. -/
def Obj.wr : Obj → Bool
  | .gone | .cells _ _ .ro => false
  | _ => true
def Obj.live : Obj → Bool
  | .gone => false
  | _ => true

def EntR (m : Map) (a b : MapEntry) : Prop := a.born = b.born ∧ VR m a.key b.key ∧ VR m a.val b.val
def EntL (m : Map) (a b : List MapEntry) : Prop := a.length = b.length ∧ ∀ (i : Nat) (x y : MapEntry), a[i]? = some x → b[i]? = some y → EntR m x y

/-- What the block of an object holds. -/
def ObjR (P : Program) (m : Map) (L : Loc) (w : World) : Obj → Prop
  | .gone => True
  | .cells c e g => (c = [] ∧ g = .ro ∧ L.grow = false) ∨ ∃ (c' : Array Value) (fr : Nat × Nat), w.heap[L.blk]? = some (.cells c' e fr) ∧ c'.size = L.tot ∧ L.sh + c.length ≤ L.tot ∧
      VL m c ((c'.toList.drop L.sh).take c.length) ∧ (g ≠ .ro → ∀ i, i < L.tot → ¬ (fr.1 ≤ i ∧ i < fr.2)) ∧ L.unit = P.cellsOf e ∧ L.grow = (g == .grow) ∧ (g ≠ .ro → c.all scalar = true) ∧ (g = .fix → L.sh = 0 ∧ L.tot = c.length)
  | .map es clock => ∃ es' : Array MapEntry, w.heap[L.blk]? = some (.map es' clock) ∧ EntL m es es'.toList
  | .siter s pos => w.heap[L.blk]? = some (.stringIter s pos) ∧ L.sh = 0
  | .miter none since seen st => w.heap[L.blk]? = some (.mapIter none since seen.toArray st) ∧ L.sh = 0
  | .miter (some r) since seen st => ∃ K, m r = some K ∧ w.heap[L.blk]? = some (.mapIter (some K.blk) since seen.toArray st) ∧ L.sh = 0

/-- The package-level variables that are read lie at their own numbers. -/
def GlobOK (m : Map) : Prop := ∀ g, Nat.blt g GLN = true → ∃ L, m g = some L ∧ L.blk = g ∧ L.sh = 0
theorem GlobOK.ext {m m' : Map} (h : GlobOK m) (hm : Ext m m') : GlobOK m' := fun g hg => by
  obtain ⟨L, h1, h2⟩ := h g hg
  exact ⟨L, hm _ _ h1, h2⟩
theorem GlobOK.rel {m : Map} (h : GlobOK m) (g : Nat) : VR m (if Nat.blt g GLN then .pointer (some ⟨g, 0, none⟩) else unk) (.pointer (some ⟨g, 0, none⟩)) := by
  split
  · rename_i hg
    obtain ⟨L, h1, h2, h3⟩ := h g hg
    have := VR.ptr (m := m) g 0 L h1
    rw [h2, h3] at this
    exact this
  · exact .unk _
/-- Blocks that are to stay as they are: keep: whatever lies in them isn't written; far: nothing of the map lies in them. -/
structure Stay where
  keep : Nat → Prop
  far : Nat → Prop

structure Emb (P : Program) (S : Stay) (m : Map) (h : Heap) (w : World) : Prop where
  lt : ∀ b L, m b = some L → (h.obj b).live = true → L.blk < w.heap.size
  inj : ∀ b c L K, m b = some L → m c = some K → (h.obj b).live = true → (h.obj c).live = true → L.blk = K.blk → b = c
  obj : ∀ b L, m b = some L → ObjR P m L w (h.obj b)
  prot : ∀ b L, m b = some L → (h.obj b).wr = true → ¬ S.keep L.blk
  far : ∀ b L, m b = some L → (h.obj b).live = true → ¬ S.far L.blk
  sLt : ∀ k, S.keep k ∨ S.far k → k < w.heap.size
  wf : ∀ b, h.next ≤ b → h.obj b = .gone

/-- What becomes of the program's world. -/
structure Wd (S : Stay) (w w' : World) : Prop where
  os : w'.os = w.os
  tape : w'.tape = w.tape
  output : w'.output = w.output
  size : w.heap.size ≤ w'.heap.size
  block : ∀ k, S.keep k ∨ S.far k → w'.heap[k]? = w.heap[k]?
theorem Wd.refl (S : Stay) (w : World) : Wd S w w := ⟨rfl, rfl, rfl, Nat.le_refl _, fun _ _ => rfl⟩
theorem Wd.trans {S : Stay} {a b c : World} (h : Wd S a b) (k : Wd S b c) : Wd S a c :=
  ⟨k.os.trans h.os, k.tape.trans h.tape, k.output.trans h.output, Nat.le_trans h.size k.size, fun i hi => (k.block i hi).trans (h.block i hi)⟩

structure Out (P : Program) (S : Stay) (m : Map) (h : Heap) (w : World) (m' : Map) (h' : Heap) (w' : World) : Prop where
  emb : Emb P S m' h' w'
  ext : Ext m m'
  dom : ∀ b, m' b ≠ none → m b ≠ none ∨ (h.next ≤ b ∧ b < h'.next)
  next : h.next ≤ h'.next
  wd : Wd S w w'
  same : ∀ b, b < h.next → m b = none → h'.obj b = h.obj b

theorem Out.refl {P : Program} {S : Stay} {m : Map} {h : Heap} {w : World} (e : Emb P S m h w) : Out P S m h w m h w :=
  ⟨e, Ext.refl m, fun _ hb => .inl hb, Nat.le_refl _, Wd.refl S w, fun _ _ _ => rfl⟩
theorem Out.trans {P : Program} {S : Stay} {m m1 m2 : Map} {h h1 h2 : Heap} {w w1 w2 : World} (a : Out P S m h w m1 h1 w1) (b : Out P S m1 h1 w1 m2 h2 w2) :
    Out P S m h w m2 h2 w2 :=
  ⟨b.emb, a.ext.trans b.ext, fun x hx => by
    rcases b.dom x hx with h | h
    · rcases a.dom x h with h | h
      · exact .inl h
      · exact .inr ⟨h.1, Nat.lt_of_lt_of_le h.2 b.next⟩
    · exact .inr ⟨Nat.le_trans a.next h.1, h.2⟩, Nat.le_trans a.next b.next, a.wd.trans b.wd, fun x hx hm => by
    have h1 : m1 x = none := by
      cases hq : m1 x with
      | none => rfl
      | some L =>
        exfalso
        rcases a.dom x (by simp [hq]) with h | h
        · exact h hm
        · omega
    rw [b.same x (Nat.lt_of_lt_of_le hx a.next) h1, a.same x hx hm]⟩

/-- No number of those to be given out is taken. -/
def Free (m : Map) (a b : Nat) : Prop := ∀ x, a ≤ x → x < b → m x = none
theorem Free.mono {m : Map} {a b c d : Nat} (h : Free m a b) (h1 : a ≤ c) (h2 : d ≤ b) : Free m c d := fun x hx hy => h x (by omega) (by omega)
theorem Free.out {P : Program} {S : Stay} {m m1 : Map} {h h1 : Heap} {w w1 : World} {b : Nat} (o : Out P S m h w m1 h1 w1) (f : Free m h.next b) : Free m1 h1.next b := by
  intro x hx hy
  cases hm : m1 x with
  | none => rfl
  | some L =>
    exfalso
    rcases o.dom x (by simp [hm]) with k | k
    · exact k (f x (Nat.le_trans o.next hx) hy)
    · omega

/-! ### worlds alike but for what was drawn -/
theorem ObjR.ext {P : Program} {m m' : Map} (hm : Ext m m') {L : Loc} {w : World} {o : Obj} (h : ObjR P m L w o) : ObjR P m' L w o := by
  cases o with
  | gone => trivial
  | cells c e g =>
    rcases h with h | ⟨c', fr, h1, h2, h3, h4, h5⟩
    · exact .inl h
    · exact .inr ⟨c', fr, h1, h2, h3, h4.ext hm, h5⟩
  | map es clock => obtain ⟨es', h1, h2, h3⟩ := h; exact ⟨es', h1, h2, fun i x y hx hy => ⟨(h3 i x y hx hy).1, (h3 i x y hx hy).2.1.ext hm, (h3 i x y hx hy).2.2.ext hm⟩⟩
  | siter s pos => exact h
  | miter r since seen st =>
    cases r with
    | none => exact h
    | some r => obtain ⟨K, h1, h2, h3⟩ := h; exact ⟨K, hm _ _ h1, h2, h3⟩
theorem ObjR.of_block {P : Program} {m : Map} {L : Loc} {w w' : World} {o : Obj} (hb : w'.heap[L.blk]? = w.heap[L.blk]?) (h : ObjR P m L w o) : ObjR P m L w' o := by
  cases o with
  | gone => trivial
  | cells c e g =>
    rcases h with h | ⟨c', fr, h1, h2⟩
    · exact .inl h
    · exact .inr ⟨c', fr, by rw [hb]; exact h1, h2⟩
  | map es clock => obtain ⟨es', h1, h2⟩ := h; exact ⟨es', by rw [hb]; exact h1, h2⟩
  | siter s pos => exact ⟨by rw [hb]; exact h.1, h.2⟩
  | miter r since seen st =>
    cases r with
    | none => exact ⟨by rw [hb]; exact h.1, h.2⟩
    | some r => obtain ⟨K, h1, h2, h3⟩ := h; exact ⟨K, h1, by rw [hb]; exact h2, h3⟩

/-- A world with the same heap. -/
theorem Emb.of_heap {P : Program} {S : Stay} {m : Map} {h : Heap} {w w' : World} (e : Emb P S m h w) (hw : w'.heap = w.heap) : Emb P S m h w' :=
  ⟨fun b L hb hl => by rw [hw]; exact e.lt b L hb hl, e.inj, fun b L hb => (e.obj b L hb).of_block (by rw [hw]), e.prot, e.far, fun k hk => by rw [hw]; exact e.sLt k hk, e.wf⟩
theorem Out.drew {P : Program} {S : Stay} {m : Map} {h : Heap} {w : World} (e : Emb P S m h w) (n : Nat) : Out P S m h w m h { w with drawn := n } :=
  ⟨e.of_heap rfl, Ext.refl m, fun _ hb => .inl hb, Nat.le_refl _, ⟨rfl, rfl, rfl, Nat.le_refl _, fun _ _ => rfl⟩, fun _ _ _ => rfl⟩

/-! ### a new object -/
def Map.put (m : Map) (b : Nat) (L : Loc) : Map := fun x => if x = b then some L else m x
theorem Map.put_ext {m : Map} {b : Nat} {L : Loc} (hb : m b = none) : Ext m (m.put b L) := by
  intro x K hx
  unfold Map.put
  split
  · rename_i e; subst e; rw [hb] at hx; simp at hx
  · exact hx

/-- A new object in a new block. -/
theorem Out.new {P : Program} {S : Stay} {m : Map} {h : Heap} {w w1 : World} (e : Emb P S m h w) (o : Obj) (g : Go.Obj) (L : Loc)
    (hfree : m h.next = none) (hb : L.blk = w.heap.size) (hw : w1.heap = w.heap.push g) (hos : w1.os = w.os) (ht : w1.tape = w.tape) (ho : w1.output = w.output)
    (hobj : ∀ w', w'.heap[w.heap.size]? = some g → ObjR P (m.put h.next L) L w' o) :
    Out P S m h w (m.put h.next L) (h.new o) w1 := by
  have hx : Ext m (m.put h.next L) := Map.put_ext hfree
  have hold : ∀ k, k < w.heap.size → w1.heap[k]? = w.heap[k]? := fun k hk => by rw [hw, Array.getElem?_push, if_neg (by omega)]
  have hnew : w1.heap[w.heap.size]? = some g := by rw [hw]; simp
  have hsz : w1.heap.size = w.heap.size + 1 := by rw [hw]; simp
  have hobjn : ∀ b, b ≠ h.next → (h.new o).obj b = h.obj b := fun b hb => by simp [Heap.new, hb]
  have hputn : ∀ b, b ≠ h.next → m.put h.next L b = m b := fun b hb => by simp [Map.put, hb]
  have hputs : m.put h.next L h.next = some L := by simp [Map.put]
  have hobjs : (h.new o).obj h.next = o := by simp [Heap.new]
  refine ⟨⟨?_, ?_, ?_, ?_, ?_, ?_, ?_⟩, hx, ?_, Nat.le_succ _, ⟨hos, ht, ho, by omega, fun k hk => hold k (e.sLt k hk)⟩, fun b hb3 _ => hobjn b (by omega)⟩
  · intro b K hbK hlb
    by_cases hbn : b = h.next
    · subst hbn; rw [hputs] at hbK; obtain rfl := Option.some.inj hbK; omega
    · rw [hputn b hbn] at hbK; rw [hobjn b hbn] at hlb; have := e.lt b K hbK hlb; omega
  · intro b c K J hbK hcJ hlb hlc heq
    by_cases hbn : b = h.next
    · by_cases hcn : c = h.next
      · rw [hbn, hcn]
      · exfalso
        subst hbn; rw [hputs] at hbK; obtain rfl := Option.some.inj hbK
        rw [hputn c hcn] at hcJ; rw [hobjn c hcn] at hlc; have := e.lt c J hcJ hlc; omega
    · by_cases hcn : c = h.next
      · exfalso
        subst hcn; rw [hputs] at hcJ; obtain rfl := Option.some.inj hcJ
        rw [hputn b hbn] at hbK; rw [hobjn b hbn] at hlb; have := e.lt b K hbK hlb; omega
      · rw [hputn b hbn] at hbK; rw [hputn c hcn] at hcJ; rw [hobjn b hbn] at hlb; rw [hobjn c hcn] at hlc
        exact e.inj b c K J hbK hcJ hlb hlc heq
  · intro b K hbK
    by_cases hbn : b = h.next
    · subst hbn; rw [hputs] at hbK; obtain rfl := Option.some.inj hbK; rw [hobjs]; exact hobj w1 hnew
    · rw [hputn b hbn] at hbK; rw [hobjn b hbn]
      by_cases hl : (h.obj b).live = true
      · exact ((e.obj b K hbK).of_block (hold _ (e.lt b K hbK hl))).ext hx
      · cases hy : h.obj b with
        | gone => trivial
        | _ => rw [hy] at hl; exact absurd rfl hl
  · intro b K hbK hwr hs
    by_cases hbn : b = h.next
    · subst hbn; rw [hputs] at hbK; obtain rfl := Option.some.inj hbK; have := e.sLt _ (.inl hs); omega
    · rw [hputn b hbn] at hbK; rw [hobjn b hbn] at hwr; exact e.prot b K hbK hwr hs
  · intro b K hbK hwr hs
    by_cases hbn : b = h.next
    · subst hbn; rw [hputs] at hbK; obtain rfl := Option.some.inj hbK; have := e.sLt _ (.inr hs); omega
    · rw [hputn b hbn] at hbK; rw [hobjn b hbn] at hwr; exact e.far b K hbK hwr hs
  · intro k hk; have := e.sLt k hk; omega
  · intro b hb2
    have hb3 : h.next + 1 ≤ b := hb2
    rw [hobjn b (by omega)]; exact e.wf b (by omega)
  · intro b hb2
    by_cases hbn : b = h.next
    · exact .inr ⟨by omega, by show b < h.next + 1; omega⟩
    · rw [hputn b hbn] at hb2; exact .inl hb2

/-- An object that may be written is written. -/
theorem Out.upd {P : Program} {S : Stay} {m : Map} {h : Heap} {w w1 : World} (e : Emb P S m h w) (b : Nat) (L : Loc) (o : Obj) (hb : m b = some L)
    (hwr : (h.obj b).wr = true) (hw : ∀ k, k ≠ L.blk → w1.heap[k]? = w.heap[k]?) (hsz : w1.heap.size = w.heap.size) (hos : w1.os = w.os) (ht : w1.tape = w.tape) (ho : w1.output = w.output)
    (hobj : ObjR P m L w1 o) : Out P S m h w m (h.upd b o) w1 := by
  have hlv : (h.obj b).live = true := by
    cases hx : h.obj b with
    | gone => rw [hx] at hwr; simp [Obj.wr] at hwr
    | _ => rfl
  have hobjn : ∀ c, c ≠ b → (h.upd b o).obj c = h.obj c := fun c hc => by simp [Heap.upd, hc]
  have hobjs : (h.upd b o).obj b = o := by simp [Heap.upd]
  refine ⟨⟨?_, ?_, ?_, ?_, ?_, ?_, ?_⟩, Ext.refl m, fun _ hb => .inl hb, Nat.le_refl _, ⟨hos, ht, ho, by omega, fun k hk => hw k ?_⟩, fun c _ hc => hobjn c fun hcb => by rw [hcb, hb] at hc; simp at hc⟩
  · intro c K hc hlc
    rw [hsz]
    refine e.lt c K hc ?_
    by_cases hcb : c = b
    · subst hcb; exact hlv
    · rw [hobjn c hcb] at hlc; exact hlc
  · intro c d K J hc hd hlc hld heq
    refine e.inj c d K J hc hd ?_ ?_ heq
    · by_cases hcb : c = b
      · subst hcb; exact hlv
      · rw [hobjn c hcb] at hlc; exact hlc
    · by_cases hdb : d = b
      · subst hdb; exact hlv
      · rw [hobjn d hdb] at hld; exact hld
  · intro c K hc
    by_cases hcb : c = b
    · subst hcb; rw [hb] at hc; obtain rfl := Option.some.inj hc; rw [hobjs]; exact hobj
    · rw [hobjn c hcb]
      by_cases hlc : (h.obj c).live = true
      · exact (e.obj c K hc).of_block (hw _ fun heq => hcb (e.inj c b K L hc hb hlc hlv heq))
      · cases hx : h.obj c with
        | gone => trivial
        | _ => rw [hx] at hlc; exact absurd rfl hlc
  · intro c K hc hwc hs
    by_cases hcb : c = b
    · subst hcb; exact e.prot c K hc hwr hs
    · rw [hobjn c hcb] at hwc; exact e.prot c K hc hwc hs
  · intro c K hc hwc hs
    by_cases hcb : c = b
    · subst hcb; exact e.far c K hc hlv hs
    · rw [hobjn c hcb] at hwc; exact e.far c K hc hwc hs
  · intro k hk; rw [hsz]; exact e.sLt k hk
  · intro c hc
    have hcb : c ≠ b := by
      intro hcb; subst hcb
      have := e.wf c hc; rw [this] at hwr; simp [Obj.wr] at hwr
    rw [hobjn c hcb]; exact e.wf c hc
  · intro heq; subst heq
    rcases hk with hk | hk
    · exact e.prot b L hb hwr hk
    · exact e.far b L hb hlv hk
/-- An object given up. -/
theorem Out.kill {P : Program} {S : Stay} {m : Map} {h : Heap} {w : World} (e : Emb P S m h w) (b : Nat) (hmb : m b ≠ none) : Out P S m h w m (h.upd b .gone) w := by
  have hobj : ∀ c, (h.upd b .gone).obj c = .gone ∨ (h.upd b .gone).obj c = h.obj c := fun c => by
    by_cases hc : c = b
    · left; simp [Heap.upd, hc]
    · right; simp [Heap.upd, hc]
  refine ⟨⟨fun c K hc hl => e.lt c K hc (by
      rcases hobj c with h1 | h1
      · rw [h1] at hl; simp [Obj.live] at hl
      · rw [h1] at hl; exact hl), ?_, ?_, ?_, ?_, e.sLt, ?_⟩, Ext.refl m, fun _ hb => .inl hb, Nat.le_refl _, Wd.refl S w, fun c _ hc => by
    have hcb : c ≠ b := fun hcb => hmb (hcb ▸ hc)
    simp [Heap.upd, hcb]⟩
  · intro c d K J hc hd hlc hld heq
    rcases hobj c with h1 | h1
    · rw [h1] at hlc; simp [Obj.live] at hlc
    · rcases hobj d with h2 | h2
      · rw [h2] at hld; simp [Obj.live] at hld
      · rw [h1] at hlc; rw [h2] at hld; exact e.inj c d K J hc hd hlc hld heq
  · intro c K hc
    rcases hobj c with h1 | h1
    · rw [h1]; trivial
    · rw [h1]; exact e.obj c K hc
  · intro c K hc hw
    rcases hobj c with h1 | h1
    · rw [h1] at hw; simp [Obj.wr] at hw
    · rw [h1] at hw; exact e.prot c K hc hw
  · intro c K hc hw
    rcases hobj c with h1 | h1
    · rw [h1] at hw; simp [Obj.live] at hw
    · rw [h1] at hw; exact e.far c K hc hw
  · intro c hc
    rcases hobj c with h1 | h1
    · exact h1
    · rw [h1]; exact e.wf c hc

/-- A new object in the block of one that is given up. -/
theorem Out.take {P : Program} {S : Stay} {m : Map} {h : Heap} {w w1 : World} (e : Emb P S m h w) (b : Nat) (L K : Loc) (o : Obj) (hb : m b = some L) (hwr : (h.obj b).wr = true)
    (hfree : m h.next = none) (hK : K.blk = L.blk) (hw : ∀ k, k ≠ L.blk → w1.heap[k]? = w.heap[k]?) (hsz : w1.heap.size = w.heap.size) (hos : w1.os = w.os) (ht : w1.tape = w.tape) (ho : w1.output = w.output)
    (hobj : ObjR P (m.put h.next K) K w1 o) : Out P S m h w (m.put h.next K) ((h.upd b .gone).new o) w1 := by
  have hlv : (h.obj b).live = true := by
    cases hx : h.obj b with
    | gone => rw [hx] at hwr; simp [Obj.wr] at hwr
    | _ => rfl
  have hbn : b ≠ h.next := by
    intro hbn; rw [hbn, e.wf h.next (Nat.le_refl _)] at hwr; simp [Obj.wr] at hwr
  have hx : Ext m (m.put h.next K) := Map.put_ext hfree
  have hputn : ∀ c, c ≠ h.next → m.put h.next K c = m c := fun c hc => by simp [Map.put, hc]
  have hputs : m.put h.next K h.next = some K := by simp [Map.put]
  have hos' : ((h.upd b .gone).new o).obj h.next = o := by simp [Heap.new, Heap.upd]
  have hob : ((h.upd b .gone).new o).obj b = .gone := by simp [Heap.new, Heap.upd, hbn]
  have hon : ∀ c, c ≠ h.next → c ≠ b → ((h.upd b .gone).new o).obj c = h.obj c := fun c h1 h2 => by simp [Heap.new, Heap.upd, h1, h2]
  -- what lives beside b lies elsewhere
  have hne : ∀ c J, m c = some J → (h.obj c).live = true → c ≠ b → J.blk ≠ L.blk := fun c J hc hl hcb heq => hcb (e.inj c b J L hc hb hl hlv heq)
  refine ⟨⟨?_, ?_, ?_, ?_, ?_, ?_, ?_⟩, hx, ?_, Nat.le_succ _, ⟨hos, ht, ho, by omega, fun k hk => hw k fun heq => by
    rcases hk with hk | hk
    · exact e.prot b L hb hwr (heq ▸ hk)
    · exact e.far b L hb hlv (heq ▸ hk)⟩, fun c hc3 hc => hon c (by omega) fun hcb => by rw [hcb, hb] at hc; simp at hc⟩
  · intro c J hc hlc
    by_cases hcn : c = h.next
    · subst hcn; rw [hputs] at hc; obtain rfl := Option.some.inj hc; rw [hsz, hK]; exact e.lt b L hb hlv
    · rw [hputn c hcn] at hc; rw [hsz]
      by_cases hcb : c = b
      · subst hcb; rw [hob] at hlc; simp [Obj.live] at hlc
      · rw [hon c hcn hcb] at hlc; exact e.lt c J hc hlc
  · intro c d J I hc hd hlc hld heq
    by_cases hcn : c = h.next
    · subst hcn
      by_cases hdn : d = h.next
      · exact hdn.symm
      · exfalso
        rw [hputs] at hc; obtain rfl := Option.some.inj hc
        rw [hputn d hdn] at hd
        by_cases hdb : d = b
        · subst hdb; rw [hob] at hld; simp [Obj.live] at hld
        · rw [hon d hdn hdb] at hld; exact hne d I hd hld hdb (by rw [← heq, hK])
    · rw [hputn c hcn] at hc
      by_cases hcb : c = b
      · subst hcb; rw [hob] at hlc; simp [Obj.live] at hlc
      · rw [hon c hcn hcb] at hlc
        by_cases hdn : d = h.next
        · subst hdn; exfalso
          rw [hputs] at hd; obtain rfl := Option.some.inj hd
          exact hne c J hc hlc hcb (by rw [heq, hK])
        · rw [hputn d hdn] at hd
          by_cases hdb : d = b
          · subst hdb; rw [hob] at hld; simp [Obj.live] at hld
          · rw [hon d hdn hdb] at hld; exact e.inj c d J I hc hd hlc hld heq
  · intro c J hc
    by_cases hcn : c = h.next
    · subst hcn; rw [hputs] at hc; obtain rfl := Option.some.inj hc; rw [hos']; exact hobj
    · rw [hputn c hcn] at hc
      by_cases hcb : c = b
      · subst hcb; rw [hob]; trivial
      · rw [hon c hcn hcb]
        by_cases hlc : (h.obj c).live = true
        · exact ((e.obj c J hc).of_block (hw _ (hne c J hc hlc hcb))).ext hx
        · cases hx : h.obj c with
          | gone => trivial
          | _ => rw [hx] at hlc; exact absurd rfl hlc
  · intro c J hc hwc hs
    by_cases hcn : c = h.next
    · subst hcn; rw [hputs] at hc; obtain rfl := Option.some.inj hc; exact e.prot b L hb hwr (hK ▸ hs)
    · rw [hputn c hcn] at hc
      by_cases hcb : c = b
      · subst hcb; rw [hob] at hwc; simp [Obj.wr] at hwc
      · rw [hon c hcn hcb] at hwc; exact e.prot c J hc hwc hs
  · intro c J hc hwc hs
    by_cases hcn : c = h.next
    · subst hcn; rw [hputs] at hc; obtain rfl := Option.some.inj hc; exact e.far b L hb hlv (hK ▸ hs)
    · rw [hputn c hcn] at hc
      by_cases hcb : c = b
      · subst hcb; rw [hob] at hwc; simp [Obj.live] at hwc
      · rw [hon c hcn hcb] at hwc; exact e.far c J hc hwc hs
  · intro k hk; rw [hsz]; exact e.sLt k hk
  · intro c hc
    have hc2 : h.next + 1 ≤ c := hc
    by_cases hcb : c = b
    · subst hcb; exact hob
    · rw [hon c (by omega) hcb]; exact e.wf c (by omega)
  · intro c hc
    by_cases hcn : c = h.next
    · exact .inr ⟨by omega, by show c < h.next + 1; omega⟩
    · rw [hputn c hcn] at hc; exact .inl hc
end Go.Proofs.Ytekojjilbchkgaa.Can
