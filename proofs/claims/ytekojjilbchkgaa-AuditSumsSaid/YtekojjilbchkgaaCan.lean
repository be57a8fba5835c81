/- A canonical machine over the program's own operations: one order, one capacity, memory as objects. What it computes the Go code computes (told in the texts behind). No condition. -/
import Derived.Orders
namespace Go.Proofs.Ytekojjilbchkgaa.Can
open Go
set_option linter.unusedVariables false

/-! ### memory -/
/-- May the object be written? May a slice of it grow? -/
inductive How where
  | ro | fix | grow
  deriving DecidableEq

inductive Obj where
  | gone
  | cells (c : List Value) (e : TypeId) (g : How)
  | map (es : List MapEntry) (clock : Nat)
  | siter (s : ByteArray) (pos : Nat)
  | miter (m : Option Nat) (since : Nat) (seen : List Nat) (stepped : Nat)

structure Heap where
  obj : Nat → Obj
  next : Nat

def Heap.upd (h : Heap) (b : Nat) (o : Obj) : Heap := ⟨fun x => if x = b then o else h.obj x, h.next⟩
def Heap.new (h : Heap) (o : Obj) : Heap := ⟨fun x => if x = h.next then o else h.obj x, h.next + 1⟩

def Obj.read : Obj → Nat → Nat → Option (List Value)
  | .cells c _ _, o, n => if o + n ≤ c.length then some ((c.drop o).take n) else none
  | _, _, _ => none

/-- What may grow holds elements of this type. -/
def Obj.elemOk : Obj → TypeId → Bool
  | .cells _ e .grow, t => e == t
  | .cells _ _ _, _ => true
  | _, _ => false
def Obj.stiff : Obj → Bool
  | .cells _ _ .grow => false
  | .cells _ _ _ => true
  | _ => false

def setAt : List Value → Nat → List Value → List Value
  | c, _, [] => c
  | c, o, v :: vs => setAt (c.set o v) (o + 1) vs

def Obj.get : Obj → Nat → Option Value
  | .cells c _ _, o => c[o]?
  | _, _ => none

def Obj.write : Obj → Nat → List Value → Option Obj
  | .cells c e g, o, vs => if g = .ro then none else if o + vs.length ≤ c.length then some (.cells (setAt c o vs) e g) else none
  | _, _, _ => none

def scalar : Value → Bool
  | .agg _ | .tuple _ => false
  | _ => true

/-- A value's cells, if they may lie in memory. -/
def flat : Value → Option (List Value)
  | .agg cs => if cs.toList.all scalar then some cs.toList else none
  | .tuple _ => none
  | v => some [v]

/-! ### operations, with what the types say of them -/
/-- What is compared. -/
inductive EqK where
  | bool | ptr | slice | map | func
  deriving DecidableEq

inductive SK where
  | int | str | bool
  deriving DecidableEq
/-- A key's kind. -/
inductive KK where
  | one (k : SK)
  | agg (l : List SK)
  deriving DecidableEq

inductive COp where
  | mv (x : Value)
  | pick (c a b : Value)
  | alloc (e : TypeId) (zero : List Value)
  | box (e : TypeId) (x : Value)
  | build (zero : List Value) (parts : List (Nat × Nat × Value))
  | buildSlice (e : TypeId) (len : Nat) (zero : List Value) (parts : List (Nat × Nat × Value))
  | load (agg : Option Nat) (a : Value)
  | store (size : Nat) (a x : Value)
  | nilCheck (x : Value)
  | bin (op : BinOp) (x y : Value)
  | eqK (kd : EqK) (neg : Bool) (x y : Value)
  | eqAgg (neg : Bool) (ks : List SK) (x y : Value)
  | un (op : UnOp) (x : Value)
  | conv (k : IntKind) (x : Value)
  | convSame (x : Value)
  | toStr (x : Value)
  | toBytes (e : TypeId) (x : Value)
  | makeFunc (f : FuncId) (first captured : List Value)
  | makeMap
  | makeSlice (e : TypeId) (size bytes : Nat) (zero : List Value) (len cap : Value)
  | sliceStr (x : Value) (lo hi : Option Value)
  | slice (e : TypeId) (size : Nat) (x : Value) (lo hi : Option Value)
  | sliceArr (n size : Nat) (x : Value) (lo hi : Option Value)
  | fieldAddr (off : Nat) (x : Value)
  | field (off : Nat) (agg : Option Nat) (x : Value)
  | indexSl (size : Nat) (x i : Value)
  | indexArr (n size : Nat) (x i : Value)
  | indexStr (x i : Value)
  | indexAgg (n size : Nat) (agg : Option Nat) (x i : Value)
  | extract (x : Value) (i : Nat)
  | ptrSame (t : TypeId) (n : Nat) (x : Value)
  | sliceData (x : Value)
  | unsafeStr (t : TypeId) (x n : Value)
  | lenStr (x : Value)
  | lenSl (x : Value)
  | lenMap (x : Value)
  | cap (x : Value)
  | const (v : Value)
  | append (e : TypeId) (size bytes : Nat) (x y : Value)
  | copy (size : Nat) (x y : Value)
  | clearSl (zero : List Value) (x : Value)
  | minmax (big : Bool) (xs : List Value)
  | lookup (kk : KK) (zero : Value) (ok : Bool) (m k : Value)
  | mapUpdate (kk : KK) (m k v : Value)
  | mapEntry (kk : KK) (zero : Value) (m k : Value)
  | entryStore (m s v : Value)
  | range (x : Value)
  | rangeMap (x : Value)
  | nextStr (x : Value)
  | call (f : FuncId) (args : List Value)
  | callv (f : Value) (args : List Value)
  | bad

abbrev Env := Nat → Value
def Env.upd (e : Env) (t : Nat) (v : Value) : Env := fun x => if x = t then v else e x
def initE (args : List Value) : Env := fun t => args.getD t (.tuple #[])

/-! ### what each computes -/
def goInt (n : Int) : Value := .int .i64 n

def binInt (op : BinOp) (k : IntKind) (a b : Int) : Option Value :=
  match op with
  | .add => some (.int k (k.wrap (a + b)))
  | .sub => some (.int k (k.wrap (a - b)))
  | .mul => some (.int k (k.wrap (a * b)))
  | .quo => if b = 0 then none else some (.int k (k.wrap (a.tdiv b)))
  | .rem => if b = 0 then none else some (.int k (a.tmod b))
  | .and => some (.int k (k.wrap (BitVec.ofInt k.bits a &&& BitVec.ofInt k.bits b).toNat))
  | .or => some (.int k (k.wrap (BitVec.ofInt k.bits a ||| BitVec.ofInt k.bits b).toNat))
  | .xor => some (.int k (k.wrap (BitVec.ofInt k.bits a ^^^ BitVec.ofInt k.bits b).toNat))
  | .andNot => some (.int k (k.wrap (BitVec.ofInt k.bits a &&& ~~~ BitVec.ofInt k.bits b).toNat))
  | .eql => some (.bool (a == b))
  | .neq => some (.bool (a != b))
  | .lss => some (.bool (decide (a < b)))
  | .leq => some (.bool (decide (a ≤ b)))
  | .gtr => some (.bool (decide (a > b)))
  | .geq => some (.bool (decide (a ≥ b)))
  | _ => none

def shiftInt (op : BinOp) (k : IntKind) (a b : Int) : Option Value :=
  if b < 0 then none else
  match op with
  | .shl => some (.int k (k.wrap (a * 2 ^ (min b.toNat k.bits))))
  | .shr => some (.int k (a.fdiv (2 ^ (min b.toNat k.bits))))
  | _ => none

def binStr (op : BinOp) (a b : ByteArray) : Option Value :=
  match op with
  | .add => if a.size + b.size ≤ 9223372036854775807 then some (.string (a ++ b)) else none
  | .eql => some (.bool (a.toList == b.toList))
  | .neq => some (.bool (!(a.toList == b.toList)))
  | .lss => some (.bool (Op.bytesLess a.toList b.toList))
  | .geq => some (.bool (!(Op.bytesLess a.toList b.toList)))
  | .leq => some (.bool (Op.bytesLess a.toList b.toList || a.toList == b.toList))
  | .gtr => some (.bool (!(Op.bytesLess a.toList b.toList || a.toList == b.toList)))
  | _ => none

/-- Of two values (of references: one of which is nil): are they alike? -/
def eqK : EqK → Value → Value → Option Bool
  | .bool, .bool a, .bool b => some (a == b)
  | .ptr, .pointer none, .pointer b => some b.isNone
  | .ptr, .pointer (some _), .pointer none => some false
  | .ptr, .pointer (some ⟨a, o, none⟩), .pointer (some ⟨b, o', none⟩) => if a = b ∧ o = o' then some true else none
  | .slice, .slice none _ _, .slice b _ _ => some b.isNone
  | .slice, .slice (some _) _ _, .slice none _ _ => some false
  | .map, .map none, .map b => some b.isNone
  | .map, .map (some _), .map none => some false
  | .func, .nilFunc, .nilFunc => some true
  | .func, .nilFunc, .func _ _ _ => some false
  | .func, .func _ _ _, .nilFunc => some false
  | _, _, _ => none

def bin (op : BinOp) (x y : Value) : Option Value :=
  match x, y with
  | .int k a, .int k' b =>
    match op with
    | .shl | .shr => shiftInt op k a b
    | _ => if k = k' then binInt op k a b else none
  | .string a, .string b => binStr op a b
  | _, _ => none

def un (op : UnOp) (x : Value) : Option Value :=
  match op, x with
  | .neg, .int k n => some (.int k (k.wrap (0 - n)))
  | .xor, .int k n => some (.int k (k.wrap (BitVec.ofInt k.bits (if k.signed then -1 else k.max) ^^^ BitVec.ofInt k.bits n).toNat))
  | .not, .bool b => some (.bool (!b))
  | _, _ => none

def eqS : SK → Value → Value → Option Bool
  | .int, .int k a, .int k' b => if k = k' then some (a == b) else none
  | .str, .string a, .string b => some (a.toList == b.toList)
  | .bool, .bool a, .bool b => some (a == b)
  | _, _, _ => none

def eqL : List SK → List Value → List Value → Option Bool
  | [], [], [] => some true
  | k :: ks, a :: x, b :: y => (eqS k a b).bind fun r => (eqL ks x y).map fun s => r && s
  | _, _, _ => none

def fillIn (z : List Value) : List (Nat × Nat × Value) → Option (List Value)
  | [] => some z
  | (off, size, x) :: rest =>
    match flat x with
    | some cs => if cs.length = size ∧ off + size ≤ z.length then fillIn (setAt z off cs) rest else none
    | none => none

def bound (x : Option Value) (dflt : Nat) (most : Nat) : Option Nat :=
  match x with
  | none => some dflt
  | some (.int _ n) => if 0 ≤ n ∧ n ≤ most then some n.toNat else none
  | _ => none

def reps (n : Nat) (zero : List Value) : List Value :=
  match n with
  | 0 => []
  | n + 1 => zero ++ reps n zero

def bytesOf : List Value → Option (List UInt8)
  | [] => some []
  | .int .u8 n :: r => (bytesOf r).map fun l => UInt8.ofNat n.toNat :: l
  | _ => none

def byteVals (l : List UInt8) : List Value := l.map fun b => .int .u8 b.toNat

/-- What is read to be copied (of what is handed in: plain cells alone). -/
def Obj.src : Obj → Nat → Nat → Option (List Value)
  | .cells c _ .ro, o, n => if o + n ≤ c.length ∧ ((c.drop o).take n).all scalar = true then some ((c.drop o).take n) else none
  | .cells c _ .fix, o, n => if o + n ≤ c.length then some ((c.drop o).take n) else none
  | .cells c _ .grow, o, n => if o + n ≤ c.length then some ((c.drop o).take n) else none
  | _, _, _ => none

/-- The cells of n elements of a slice or a string. -/
def srcCells (h : Heap) (size : Nat) : Value → Option (List Value × Nat)
  | .slice none n _ => if n = 0 then some ([], 0) else none
  | .slice (some a) n _ => if a.spot = none then ((h.obj a.block).src a.off (n * size)).map fun c => (c, n) else none
  | .string s => if size = 1 then some (byteVals s.data.toList, s.size) else none
  | _ => none

def minmax2 (big : Bool) : Value → Value → Option Value
  | .int k x, .int k' y => if k = k' then some (.int k (if big then (if y > x then y else x) else (if y < x then y else x))) else none
  | _, _ => none

def minmaxL (big : Bool) : Value → List Value → Option Value
  | v, [] => match v with | .int k n => some (.int k n) | _ => none
  | v, x :: xs => (minmax2 big v x).bind fun u => minmaxL big u xs

def keyEq : KK → Value → Value → Option Bool
  | .one k, a, b => eqS k a b
  | .agg l, .agg xs, .agg ys => eqL l xs.toList ys.toList
  | _, _, _ => none

/-- A key's entry: its place, if there is one. -/
def findEntry (kk : KK) (k : Value) : List MapEntry → Nat → Option (Option Nat)
  | [], _ => some none
  | e :: es, i => (keyEq kk k e.key).bind fun b => if b then some (some i) else findEntry kk k es (i + 1)

/-- What is appended to, in place or in a new one. -/
def copAppend (t : TypeId) (size bytes : Nat) (x y : Value) (h : Heap) : Option (Value × Heap) :=
  match x, srcCells h size y with
  | .slice base n c, some (new, m) =>
    if n + m ≤ c then match base with
      | some a => if a.spot = none then ((h.obj a.block).write (a.off + n * size) new).map fun ob => (.slice base (n + m) c, h.upd a.block ob) else none
      | none => if n + m = 0 then some (.slice none 0 c, h) else none
    else if (n + m) * bytes ≤ 140737488355328 ∧ n + m ≤ 9223372036854775807 then match base with
      | none => if n = 0 then some (.slice (some ⟨h.next, 0, none⟩) m m, h.new (.cells new t .grow)) else none
      | some a => match h.obj a.block with
        | .cells cs t' .grow => if a.spot = none ∧ t' = t ∧ a.off + c * size = cs.length ∧ n ≤ c then
            some (.slice (some ⟨h.next, 0, none⟩) (n + m) (n + m), (h.upd a.block .gone).new (.cells ((cs.drop a.off).take (n * size) ++ new) t .grow)) else none
        | _ => none
    else none
  | _, _ => none

def cop (o : COp) (h : Heap) : Option (Value × Heap) :=
  match o with
  | .mv x => some (x, h)
  | .const v => some (v, h)
  | .pick c a b => match c with
    | .bool t => some (if t then a else b, h)
    | _ => none
  | .alloc t zero => some (.pointer (some ⟨h.next, 0, none⟩), h.new (.cells zero t .fix))
  | .box t x => match flat x with
    | some cs => some (.pointer (some ⟨h.next, 0, none⟩), h.new (.cells cs t .fix))
    | none => none
  | .build zero parts => (fillIn zero parts).map fun cs => (.agg cs.toArray, h)
  | .buildSlice t n zero parts => (fillIn (reps n zero) parts).map fun cs => (.slice (some ⟨h.next, 0, none⟩) n n, h.new (.cells cs t .grow))
  | .load agg a => match a with
    | .pointer (some ⟨b, o, none⟩) => match agg with
      | some n => ((h.obj b).read o n).map fun cs => (.agg cs.toArray, h)
      | none => ((h.obj b).get o).map fun v => (v, h)
    | _ => none
  | .store size a x => match a, flat x with
    | .pointer (some ⟨b, o, none⟩), some cs => if cs.length = size then ((h.obj b).write o cs).map fun ob => (.tuple #[], h.upd b ob) else none
    | _, _ => none
  | .nilCheck x => match x with
    | .pointer (some a) => some (.pointer (some a), h)
    | _ => none
  | .bin op x y => (bin op x y).map fun v => (v, h)
  | .eqK kd neg x y => (eqK kd x y).map fun b => (.bool (if neg then !b else b), h)
  | .eqAgg neg ks x y => match x, y with
    | .agg xs, .agg ys => (eqL ks xs.toList ys.toList).map fun b => (.bool (if neg then !b else b), h)
    | _, _ => none
  | .un op x => (un op x).map fun v => (v, h)
  | .conv k x => match x with
    | .int _ n => some (.int k (k.wrap n), h)
    | _ => none
  | .convSame x => match x with
    | .string s => some (.string s, h)
    | _ => none
  | .toStr x => match x with
    | .slice none _ _ => some (.string .empty, h)
    | .slice (some a) n _ => if a.spot = none then
        ((h.obj a.block).read a.off n).bind fun cs => (bytesOf cs).map fun l => (.string ⟨l.toArray⟩, h) else none
    | _ => none
  | .toBytes t x => match x with
    | .string s => some (.slice (some ⟨h.next, 0, none⟩) s.size s.size, h.new (.cells (byteVals s.data.toList) t .grow))
    | _ => none
  | .ptrSame t n x => match x with
    | .pointer (some ⟨b, 0, none⟩) => match h.obj b with
      | .cells c t' .fix => if t' = t ∧ c.length = n then some (.pointer (some ⟨b, 0, none⟩), h) else none
      | _ => none
    | _ => none
  | .sliceData x => match x with
    | .slice none _ _ => some (.pointer none, h)
    | .slice (some ⟨b, o, none⟩) _ c => if 0 < c then some (.pointer (some ⟨b, o, none⟩), h) else none
    | _ => none
  | .unsafeStr t x n => match n with
    | .int .i64 k => match x with
      | .pointer none => if k = 0 then some (.string .empty, h) else none
      | .pointer (some ⟨b, 0, none⟩) => match h.obj b with
        | .cells c t' .grow => if t' = t ∧ 0 < k ∧ k.toNat ≤ c.length ∧ k ≤ 9223372036854775807 then (bytesOf (c.take k.toNat)).map fun l => (.string ⟨l.toArray⟩, h.upd b .gone) else none
        | _ => none
      | _ => none
    | _ => none
  | .makeFunc f first captured => some (.func (.func f) first.toArray captured.toArray, h)
  | .makeMap => some (.map (some h.next), h.new (.map [] 0))
  | .makeSlice t size bytes zero len cap => match len, cap with
    | .int .i64 n, .int .i64 c => if 0 ≤ n ∧ n ≤ c ∧ c * bytes ≤ 140737488355328 ∧ c ≤ 9223372036854775807 ∧ zero.length = size then
        some (.slice (some ⟨h.next, 0, none⟩) n.toNat c.toNat, h.new (.cells (reps c.toNat zero) t .grow)) else none
    | _, _ => none
  | .sliceStr x lo hi => match x with
    | .string s => (bound hi s.size s.size).bind fun b => (bound lo 0 b).map fun a => (.string (s.extract a b), h)
    | _ => none
  | .slice t size x lo hi => match x with
    | .slice none n c => (bound hi n c).bind fun b => (bound lo 0 b).map fun l => (.slice none (b - l) (c - l), h)
    | .slice (some a) n c => if (h.obj a.block).elemOk t then (bound hi n c).bind fun b => (bound lo 0 b).map fun l =>
        (.slice (some (a.add (l * size))) (b - l) (c - l), h) else none
    | _ => none
  | .sliceArr n size x lo hi => match x with
    | .pointer (some a) => if (h.obj a.block).stiff then (bound hi n n).bind fun b => (bound lo 0 b).map fun l =>
        (.slice (some (a.add (l * size))) (b - l) (n - l), h) else none
    | _ => none
  | .fieldAddr off x => match x with
    | .pointer (some a) => some (.pointer (some (a.add off)), h)
    | _ => none
  | .field off agg x => match x with
    | .agg cs => match agg with
      | some n => if off + n ≤ cs.size then some (.agg (cs.extract off (off + n)), h) else none
      | none => cs[off]?.map fun v => (v, h)
    | _ => none
  | .indexSl size x i => match x, i with
    | .slice (some a) n _, .int _ j => if 0 ≤ j ∧ j < n then some (.pointer (some (a.add (j.toNat * size))), h) else none
    | _, _ => none
  | .indexArr n size x i => match x, i with
    | .pointer (some a), .int _ j => if 0 ≤ j ∧ j < n then some (.pointer (some (a.add (j.toNat * size))), h) else none
    | _, _ => none
  | .indexStr x i => match x, i with
    | .string s, .int _ j => if 0 ≤ j then s.data[j.toNat]?.map fun b => (.int .u8 b.toNat, h) else none
    | _, _ => none
  | .indexAgg n size agg x i => match x, i with
    | .agg cs, .int _ j => if 0 ≤ j ∧ j < n then match agg with
        | some m => if j.toNat * size + m ≤ cs.size then some (.agg (cs.extract (j.toNat * size) (j.toNat * size + m)), h) else none
        | none => cs[j.toNat * size]?.map fun v => (v, h)
      else none
    | _, _ => none
  | .extract x i => match x with
    | .tuple vs => if vs.size ≤ 1 then (match (vs[0]? : Option Value) with
        | some (Value.bool b) => if i = 0 then some (.bool b, h) else none
        | _ => none)
      else vs[i]?.map fun v => (v, h)
    | _ => none
  | .lenStr x => match x with
    | .string s => some (goInt s.size, h)
    | _ => none
  | .lenSl x => match x with
    | .slice _ n _ => some (goInt n, h)
    | _ => none
  | .lenMap x => match x with
    | .map none => some (goInt 0, h)
    | .map (some r) => match h.obj r with
      | .map es _ => some (goInt es.length, h)
      | _ => none
    | _ => none
  | .cap _ => none
  | .append t size bytes x y => copAppend t size bytes x y h
  | .copy size x y => match x, y with
    | .slice base n _, src =>
      match (match src with
        | .slice b m c => srcCells h size (.slice b (min m n) c)
        | .string s => srcCells h size (.string (s.extract 0 (min s.size n)))
        | _ => none) with
      | some (new, m) => match base with
        | some a => if a.spot = none then ((h.obj a.block).write a.off new).map fun ob => (goInt m, h.upd a.block ob) else none
        | none => some (goInt m, h)
      | none => none
    | _, _ => none
  | .clearSl zero x => match x with
    | .slice none _ _ => some (.tuple #[], h)
    | .slice (some a) n _ => if a.spot = none then ((h.obj a.block).write a.off (reps n zero)).map fun ob => (.tuple #[], h.upd a.block ob) else none
    | _ => none
  | .minmax big xs => match xs with
    | [] => none
    | x :: xs => (minmaxL big x xs).map fun v => (v, h)
  | .lookup kk zero ok m k => match m with
    | .map none => (keyEq kk k k).map fun _ => (if ok then .tuple #[zero, .bool false] else zero, h)
    | .map (some r) => match h.obj r with
      | .map es _ => (keyEq kk k k).bind fun _ => (findEntry kk k es 0).map fun
        | some i => ((if ok then .tuple #[((es[i]?).map (·.val)).getD zero, .bool true] else ((es[i]?).map (·.val)).getD zero), h)
        | none => ((if ok then .tuple #[zero, .bool false] else zero), h)
      | _ => none
    | _ => none
  | .mapUpdate kk m k v => match m with
    | .map (some r) => match h.obj r with
      | .map es clock => (keyEq kk k k).bind fun _ => (findEntry kk k es 0).map fun
        | some i => (.tuple #[], h.upd r (.map (es.modify i fun x => { x with key := k, val := v }) clock))
        | none => (.tuple #[], h.upd r (.map (es ++ [⟨k, v, clock⟩]) (clock + 1)))
      | _ => none
    | _ => none
  | .mapEntry kk zero m k => match m with
    | .map (some r) => match h.obj r with
      | .map es clock => (keyEq kk k k).bind fun _ => (findEntry kk k es 0).map fun
        | some i => (.tuple #[((es[i]?).map (·.val)).getD zero, goInt (((es[i]?).map (·.born)).getD 0)], h.upd r (.map (es.modify i fun x => { x with key := k }) clock))
        | none => (.tuple #[zero, goInt clock], h.upd r (.map (es ++ [⟨k, zero, clock⟩]) (clock + 1)))
      | _ => none
    | _ => none
  | .entryStore m s v => match m, s with
    | .map (some r), .int _ born => match h.obj r with
      | .map es clock => match es.findIdx? (fun x => (x.born : Int) == born) with
        | some i => some (.tuple #[], h.upd r (.map (es.modify i fun x => { x with val := v }) clock))
        | none => none
      | _ => none
    | _, _ => none
  | .range x => match x with
    | .string s => some (.pointer (some ⟨h.next, 0, none⟩), h.new (.siter s 0))
    | _ => none
  | .rangeMap x => match x with
    | .map none => some (.pointer (some ⟨h.next, 0, none⟩), h.new (.miter none 0 [] 0))
    | .map (some m) => match h.obj m with
      | .map _ clock => some (.pointer (some ⟨h.next, 0, none⟩), h.new (.miter (some m) clock [] clock))
      | _ => none
    | _ => none
  | .nextStr x => match x with
    | .pointer (some ⟨r, 0, _⟩) => match h.obj r with
      | .siter s pos =>
        if pos < s.size then
          some (.tuple #[.bool true, goInt pos, .int .i32 (Utf8.decode s pos).1], h.upd r (.siter s (pos + (Utf8.decode s pos).2)))
        else some (.tuple #[.bool false], h)
      | _ => none
    | _ => none
  | .call _ _ | .callv _ _ | .bad => none

/-! ### code -/
/-- A statement's operations, the values of those ahead put in. -/
inductive Reg where
  | done (e : Env)
  | op (o : COp) (k : Value → Reg)
  | opg (g : Value) (w : Bool) (o : COp) (k : Value → Reg)
  | snap (k : Heap → Reg)
  | chk (g : Option (Value × Bool)) (h : Option Heap) (o : COp) (v : Value) (k : Reg)

inductive CC where
  | skip
  | region (r : Env → Reg)
  | seq (a b : CC)
  | cond (c : Env → Value) (t e : CC)
  | block (id : Nat) (b : CC)
  | loop (b : CC)
  | exit (id : Nat)
  | ret
  | bad

inductive X where
  | normal
  | exit (id : Nat)
  | ret
  deriving DecidableEq

/-- A result: in a slot, or where a slot points to. -/
inductive RV where
  | t (n : Nat)
  | c (n : Nat) (agg : Option Nat)
structure CFn where
  body : CC
  results : List RV

abbrev CallFn := FuncId → List Value → Heap → Option (Value × Heap)

def wantV (g : Value) (w : Bool) : Option Bool :=
  match g with
  | .bool x => some (x == w)
  | .tuple vs => if vs.size = 0 then some false else none
  | _ => none

def evOp (call : CallFn) (o : COp) (h : Heap) : Option (Value × Heap) :=
  match o with
  | .call f args => call f args h
  | .callv (.func (.func g) first captured) args => call g (first.toList ++ args ++ captured.toList) h
  | o => cop o h

/-- The operation reads this in that memory (if it is wanted at all). -/
def Holds (g : Option (Value × Bool)) (h : Heap) (o : COp) (v : Value) : Prop :=
  match g with
  | none => cop o h = some (v, h)
  | some (x, w) => wantV x w = some false ∨ cop o h = some (v, h)

open Classical in
noncomputable def evR (call : CallFn) : Reg → Heap → Option (Env × Heap)
  | .done e, h => some (e, h)
  | .op o k, h => match evOp call o h with
    | some (v, h') => evR call (k v) h'
    | none => none
  | .opg g w o k, h => match wantV g w with
    | some true => match evOp call o h with
      | some (v, h') => evR call (k v) h'
      | none => none
    | some false => evR call (k (.tuple #[])) h
    | none => none
  | .snap k, h => evR call (k h) h
  | .chk g hj o v k, h => if Holds g (hj.getD h) o v then evR call k h else none

def iter (f : Env → Heap → Option (X × Env × Heap)) : Nat → Env → Heap → Option (X × Env × Heap)
  | 0, _, _ => none
  | n + 1, e, h => match f e h with
    | some (.normal, e', h') => iter f n e' h'
    | r => r

noncomputable def evC (call : CallFn) (N : Nat) : CC → Env → Heap → Option (X × Env × Heap)
  | .skip, e, h => some (.normal, e, h)
  | .region r, e, h => (evR call (r e) h).map fun r => (.normal, r.1, r.2)
  | .seq a b, e, h => match evC call N a e h with
    | some (.normal, e', h') => evC call N b e' h'
    | r => r
  | .cond c t f, e, h => match c e with
    | .bool true => evC call N t e h
    | .bool false => evC call N f e h
    | _ => none
  | .block id b, e, h => match evC call N b e h with
    | some (.exit i, e', h') => if i = id then some (.normal, e', h') else some (.exit i, e', h')
    | r => r
  | .loop b, e, h => iter (evC call N b) N e h
  | .exit id, e, h => some (.exit id, e, h)
  | .ret, e, h => some (.ret, e, h)
  | .bad, _, _ => none

def resV (e : Env) (h : Heap) : RV → Option Value
  | .t n => some (e n)
  | .c n agg => (cop (.load agg (e n)) h).map fun r => r.1
def resL : List (Option Value) → Option (List Value)
  | [] => some []
  | none :: _ => none
  | some v :: r => (resL r).map fun l => v :: l
def resultsV (e : Env) (h : Heap) : List RV → Option Value
  | [r] => resV e h r
  | rs => (resL (rs.map (resV e h))).map fun l => .tuple l.toArray

abbrev CProg := FuncId → Option CFn

noncomputable def evF (CP : CProg) : Nat → CallFn
  | 0, _, _, _ => none
  | n + 1, f, args, h => match CP f with
    | none => none
    | some fn => match evC (evF CP n) n fn.body (initE args) h with
      | some (.normal, e, h') => (resultsV e h' fn.results).map fun v => (v, h')
      | some (.ret, e, h') => (resultsV e h' fn.results).map fun v => (v, h')
      | _ => none

/-! ### what the program's own code comes to -/
/-- A value of which nothing is known. -/
def unk : Value := .tuple #[.tuple #[.tuple #[]]]
def isAggT (P : Program) (t : TypeId) : Bool :=
  match P.underlying t with
  | some (.struct _) | some (.array _ _) => true
  | _ => false
def aggT (P : Program) (t : TypeId) : Option Nat := if isAggT P t then some (P.cellsOf t) else none
def zeroV (P : Program) (t : TypeId) : Option Value := (P.info? t).bind (·.zero)
/-- A value without addresses. -/
def selfS : Value → Bool
  | .bool _ | .int _ _ | .string _ | .pointer none | .slice none _ _ | .map none | .nilFunc | .nilIface => true
  | _ => false
def selfV : Value → Bool
  | .agg cs => cs.toList.all selfS
  | .tuple vs => vs.size == 0
  | v => selfS v
/-- A type's zero value's cells, if there are none with addresses. -/
def zeroC (P : Program) (t : TypeId) : Option (List Value) :=
  match zeroV P t with
  | some v => if selfV v && v.cells.toList.all selfS && (v.cells.size == P.cellsOf t) then some v.cells.toList else none
  | none => none
def zeroS (P : Program) (t : TypeId) : Option Value :=
  match zeroV P t with
  | some v => if selfV v then some v else none
  | none => none
def hasT (P : Program) (t : TypeId) : Bool := (P.underlying t).isSome
def skT (P : Program) (t : TypeId) : Option SK :=
  match P.underlying t with
  | some .bool => some .bool
  | some (.int _) => some .int
  | some .string => some .str
  | _ => none
def skList (P : Program) : List Field → Option (List SK)
  | [] => some []
  | f :: fs => (skT P f.type).bind fun k => (skList P fs).map fun l => k :: l
/-- A struct of plain fields that may be compared cell by cell. -/
def structK (P : Program) (t : TypeId) : Option (List SK) :=
  match P.underlying t with
  | some (.struct fs) =>
    if (fs.toList.all fun f => f.name != "_") && (fs.toList.map (·.offset) == List.range fs.size) && !P.stoodInHeld t && !P.eqGuardType P.depth t then skList P fs.toList else none
  | _ => none
def keyK (P : Program) (t : TypeId) : Option KK :=
  match skT P t with
  | some k => some (.one k)
  | none => (structK P t).map .agg

def structPlaces (P : Program) (fs : Array Field) : List (Nat × Value) → Option (List (Nat × Nat × Value))
  | [] => some []
  | (i, v) :: r => match fs[i]? with
    | some f => (structPlaces P fs r).map fun l => (f.offset, P.cellsOf f.type, v) :: l
    | none => none

/-- A variable of this type may be seen as unsafe memory and as itself again. -/
def ptrOK (P : Program) (t : TypeId) : Bool := match P.info? t with
  | some j => j.size != 0 && P.cellsOf t != 0 && liesAt P P.depth t 1 0 t 1
  | none => false
def resP (P : Program) (o : Oper) (ρ : Operand → Value) : COp :=
  match o.op with
  | .move x | .assign x => .mv (ρ x)
  | .pick c a b => .pick (ρ c) (ρ a) (ρ b)
  | .alloc t => match zeroC P t with
    | some z => .alloc t z
    | none => .bad
  | .box t x => .box t (ρ x)
  | .build t ps => match zeroC P t, P.underlying t with
    | some z, some (.struct fs) => if fs.toList.all fun f => (P.info? f.type).isSome then match structPlaces P fs (ps.toList.map fun (i, x) => (i, ρ x)) with
      | some l => .build z l
      | none => .bad
      else .bad
    | some z, some (.array _ e) => if hasT P e then .build z (ps.toList.map fun (i, x) => (i * P.cellsOf e, P.cellsOf e, ρ x)) else .bad
    | _, _ => .bad
  | .buildSlice t n ps => match P.underlying t with
    | some (.slice e) => match zeroC P e with
      | some z => if n * P.cellsOf e ≤ 16777216 ∧ z.length = P.cellsOf e then .buildSlice e n z (ps.toList.map fun (i, x) => (i * P.cellsOf e, P.cellsOf e, ρ x)) else .bad
      | none => .bad
    | _ => .bad
  | .load t a => if hasT P t then .load (aggT P t) (ρ a) else .bad
  | .store t a x => if hasT P t then .store (P.cellsOf t) (ρ a) (ρ x) else .bad
  | .nilCheck x => .nilCheck (ρ x)
  | .binOp op t x y _ => match P.underlying t with
    | some (.int _) | some .string => .bin op (ρ x) (ρ y)
    | some .bool => match op with
      | .eql => .eqK .bool false (ρ x) (ρ y)
      | .neq => .eqK .bool true (ρ x) (ρ y)
      | _ => .bad
    | some (.pointer e) => if (P.info? e).isSome then match op with
      | .eql => .eqK .ptr false (ρ x) (ρ y)
      | .neq => .eqK .ptr true (ρ x) (ρ y)
      | _ => .bad
      else .bad
    | some (.slice _) => match op with
      | .eql => .eqK .slice false (ρ x) (ρ y)
      | .neq => .eqK .slice true (ρ x) (ρ y)
      | _ => .bad
    | some (.map _ _) => match op with
      | .eql => .eqK .map false (ρ x) (ρ y)
      | .neq => .eqK .map true (ρ x) (ρ y)
      | _ => .bad
    | some (.func _ _ _) => match op with
      | .eql => .eqK .func false (ρ x) (ρ y)
      | .neq => .eqK .func true (ρ x) (ρ y)
      | _ => .bad
    | some (.struct _) => match structK P t with
      | some ks => match op with
        | .eql => .eqAgg false ks (ρ x) (ρ y)
        | .neq => .eqAgg true ks (ρ x) (ρ y)
        | _ => .bad
      | none => .bad
    | _ => .bad
  | .unOp op _ x => .un op (ρ x)
  | .convert s d x => match P.underlying s, P.underlying d with
    | some (.int _), some (.int k) => .conv k (ρ x)
    | some .string, some .string => .convSame (ρ x)
    | some .string, some (.slice e) => match P.underlying e with
      | some (.int .u8) => if P.cellsOf e = 1 then .toBytes e (ρ x) else .bad
      | _ => .bad
    | some (.slice e), some .string => match P.underlying e with
      | some (.int .u8) => .toStr (ρ x)
      | _ => .bad
    | some (.pointer t), some .unsafePointer => if ptrOK P t then .ptrSame t (P.cellsOf t) (ρ x) else .bad
    | some .unsafePointer, some (.pointer t) => if ptrOK P t then .ptrSame t (P.cellsOf t) (ρ x) else .bad
    | _, _ => .bad
  | .makeFunc (.func f) first captured => .makeFunc f (first.toList.map ρ) (captured.toList.map ρ)
  | .makeMap _ none => .makeMap
  | .makeMap t (some (.const (.int _ _))) => match P.underlying t with
    | some (.map _ _) => .makeMap
    | _ => .bad
  | .makeSlice t l c => match P.underlying t with
    | some (.slice e) => match zeroC P e with
      | some z => .makeSlice e (P.cellsOf e) (P.bytesOf e) z (ρ l) (ρ c)
      | none => .bad
    | _ => .bad
  | .slice t x lo hi none => match P.underlying t with
    | some .string => .sliceStr (ρ x) (lo.map ρ) (hi.map ρ)
    | some (.slice e) => if hasT P e then .slice e (P.cellsOf e) (ρ x) (lo.map ρ) (hi.map ρ) else .bad
    | some (.array n e) => if hasT P e then .sliceArr n (P.cellsOf e) (ρ x) (lo.map ρ) (hi.map ρ) else .bad
    | _ => .bad
  | .fieldAddr t x i => match P.underlying t with
    | some (.struct fs) => match fs[i]? with
      | some f => if P.cellsOf f.type = 0 then .bad else .fieldAddr f.offset (ρ x)
      | none => .bad
    | _ => .bad
  | .field t x i => match P.underlying t with
    | some (.struct fs) => match fs[i]? with
      | some f => if hasT P f.type then .field f.offset (aggT P f.type) (ρ x) else .bad
      | none => .bad
    | _ => .bad
  | .indexAddr t x i => match P.underlying t with
    | some (.slice e) => if hasT P e then .indexSl (P.cellsOf e) (ρ x) (ρ i) else .bad
    | some (.array n e) => if hasT P e then .indexArr n (P.cellsOf e) (ρ x) (ρ i) else .bad
    | _ => .bad
  | .index t x i => match P.underlying t with
    | some .string => .indexStr (ρ x) (ρ i)
    | some (.array n e) => if hasT P e then .indexAgg n (P.cellsOf e) (aggT P e) (ρ x) (ρ i) else .bad
    | _ => .bad
  | .extract x i => .extract (ρ x) i
  | .lookup t m k ok => match P.underlying t with
    | some (.map q e) => match zeroS P e, keyK P q with
      | some z, some kk => .lookup kk z ok (ρ m) (ρ k)
      | _, _ => .bad
    | _ => .bad
  | .mapUpdate t m k v => match P.underlying t with
    | some (.map q _) => match keyK P q with
      | some kk => .mapUpdate kk (ρ m) (ρ k) (ρ v)
      | none => .bad
    | _ => .bad
  | .mapEntry t m k => match P.underlying t with
    | some (.map q e) => match zeroS P e, keyK P q with
      | some z, some kk => .mapEntry kk z (ρ m) (ρ k)
      | _, _ => .bad
    | _ => .bad
  | .entryStore _ m s v => .entryStore (ρ m) (ρ s) (ρ v)
  | .range t x => match P.underlying t with
    | some .string => .range (ρ x)
    | some (.map _ _) => .rangeMap (ρ x)
    | _ => .bad
  | .next x true => .nextStr (ρ x)
  | .call ⟨.builtin b, args, ts⟩ => match b, args.toList, ts.toList with
    | .len, [x], t :: _ => match P.underlying t with
      | some .string => .lenStr (ρ x)
      | some (.slice _) => .lenSl (ρ x)
      | some (.map _ _) => .lenMap (ρ x)
      | some (.array n _) => .const (.int .i64 n)
      | _ => .bad
    | .append, [x, y], [t, u] => match P.underlying t, P.underlying u with
      | some (.slice _), some (.int _) => .bad
      | some (.slice e), some _ => match zeroC P e with
        | some _ => .append e (P.cellsOf e) (P.bytesOf e) (ρ x) (ρ y)
        | none => .bad
      | _, _ => .bad
    | .copy, [x, y], t :: _ => match P.underlying t with
      | some (.slice e) => if hasT P e then .copy (P.cellsOf e) (ρ x) (ρ y) else .bad
      | _ => .bad
    | .clear, [x], t :: _ => match P.underlying t with
      | some (.slice e) => match zeroC P e with
        | some z => .clearSl z (ρ x)
        | none => .bad
      | _ => .bad
    | .unsafeSliceData, [x], t :: _ => match P.underlying t with
      | some (.slice _) => .sliceData (ρ x)
      | _ => .bad
    | .unsafeString, [x, y], [t, _] => match P.underlying t with
      | some (.pointer e) => match P.underlying e with
        | some (.int .u8) => if P.cellsOf e = 1 then .unsafeStr e (ρ x) (ρ y) else .bad
        | _ => .bad
      | _ => .bad
    | .min, xs, _ => .minmax false (xs.map ρ)
    | .max, xs, _ => .minmax true (xs.map ρ)
    | _, _, _ => .bad
  | _ => .bad

def COp.plain : COp → COp
  | .call _ _ | .callv _ _ => .bad
  | o => o
/-- The function that hides a pointer from the compiler alone. -/
def noEsc (P : Program) (f : FuncId) : Bool := match P.funcs[f]? with
  | some F => F.body.isNone && F.name == "internal/abi.NoEscape" && F.origin == ""
  | none => false
def noEscOp : List Value → COp
  | [x] => .mv x
  | _ => .bad
def resOp (P : Program) (o : Oper) (ρ : Operand → Value) : COp :=
  match o.op with
  | .call ⟨.value (.func f), args, _⟩ => if noEsc P f then noEscOp (args.toList.map ρ) else .call f (args.toList.map ρ)
  | .call ⟨.value f, args, _⟩ => .callv (ρ f) (args.toList.map ρ)
  | _ => (resP P o ρ).plain

/-- The slots that outlive a statement: given as numbers from 0 on, and others. -/
structure Pers where
  base : Nat
  more : List Nat
  size : Nat
def Pers.has (p : Pers) (t : Nat) : Bool := Nat.blt t p.base || p.more.elem t

/-- So many package-level variables are read. -/
def GLN : Nat := 0
def lookE (p : Pers) (e l : Env) : Operand → Value
  | .tmp t => if p.has t then e t else l t
  | .const v => if selfV v then v else unk
  | .global g => if Nat.blt g GLN then .pointer (some ⟨g, 0, none⟩) else unk
  | .func f => .func (.func f) #[] #[]

/-- An operation's reads and writes, for operations of one statement that may change places. -/
inductive Kind where
  | pure | alloc | read | write
  deriving DecidableEq
def kindC : COp → Kind
  | .alloc _ _ | .box _ _ | .buildSlice _ _ _ _ | .makeMap | .makeSlice _ _ _ _ _ _ | .toBytes _ _ => .alloc
  | .load _ _ | .ptrSame _ _ _ | .toStr _ | .lookup _ _ _ _ _ | .lenMap _ | .slice _ _ _ _ _ | .sliceArr _ _ _ _ _ => .read
  | .store _ _ _ | .append _ _ _ _ _ | .copy _ _ _ | .clearSl _ _ | .mapUpdate _ _ _ _ | .mapEntry _ _ _ _ | .entryStore _ _ _ | .range _ | .rangeMap _ | .nextStr _
  | .call _ _ | .callv _ _ | .bad | .unsafeStr _ _ _ => .write
  | _ => .pure

def putE (p : Pers) (e l : Env) (d : Option Tmp) (v : Value) : Env × Env :=
  match d with
  | none => (e, l)
  | some t => if p.has t then (e.upd t v, l) else (e, l.upd t v)

def dstOk (p : Pers) (d : Option Tmp) : Bool :=
  match d with
  | none => true
  | some t => Nat.blt t p.size

/-- One operation, then what is behind it. -/
def opReg (P : Program) (p : Pers) (all : Array Oper) (o : Oper) (e l : Env) (k : Value → Reg) : Reg :=
  if dstOk p o.dst then
    match o.guard with
    | none => .op (resOp P o (lookE p e l)) k
    | some (j, w) => match (all[j]?).bind (·.dst) with
      | some t => .opg (lookE p e l (.tmp t)) w (resOp P o (lookE p e l)) k
      | none => .op .bad k
  else .op .bad k

/-- The statement's operations in the text's order. -/
def toReg (P : Program) (p : Pers) (all : Array Oper) : List Oper → Env → Env → Reg
  | [], e, _ => .done e
  | o :: rest, e, l => opReg P p all o e l fun v => toReg P p all rest (putE p e l o.dst v).1 (putE p e l o.dst v).2

/-! ### statements whose operations may change places -/
/-- Who stands ahead of whom, whatever the order. -/
def aheadOf (ops : Array Oper) : List (List Nat) :=
  ops.toList.foldl (fun acc o => acc ++ [((o.after.toList.filter (Region.binds .any)).flatMap fun e => e.on :: acc.getD e.on []).eraseDups]) []
/-- It is so: each is ahead by an edge, or by one that is; and no edge leads forward. -/
def aheadOk (ops : Array Oper) (ah : List (List Nat)) : Bool :=
  (List.range ops.size).all fun j => match ops[j]? with
    | some o => ((ah.getD j []).all fun i => Nat.blt i j && o.after.toList.any fun e => Region.binds .any e && (e.on == i || (ah.getD e.on []).elem i)) &&
      o.after.toList.all fun e => !Region.binds .any e || Nat.blt e.on j
    | none => false
/-- Those that may change places share no slot. -/
def apartOk (ops : Array Oper) (ah : List (List Nat)) : Bool :=
  (List.range ops.size).all fun j => (List.range j).all fun i => (ah.getD j []).elem i ||
    match ops[i]?, ops[j]? with
    | some a, some b => a.apart ops b
    | _, _ => false

structure Hist where
  no : Nat
  g : Option (Value × Bool)
  o : COp
  v : Value

def chks : List Hist → Reg → Reg
  | [], k => k
  | x :: l, k => .chk x.g none x.o x.v (chks l k)
def chksAt (x : Hist) : List (Nat × Heap) → Reg → Reg
  | [], k => k
  | s :: l, k => .chk x.g (some s.2) x.o x.v (chksAt x l k)

def guardV (p : Pers) (all : Array Oper) (o : Oper) (e l : Env) : Option (Value × Bool) :=
  match o.guard with
  | none => none
  | some (j, w) => match (all[j]?).bind (·.dst) with
    | some t => some (lookE p e l (.tmp t), w)
    | none => none

/-- The text's order, with what shows that another order comes to the same. -/
def toRegD (P : Program) (p : Pers) (all : Array Oper) (ah : List (List Nat)) : List Oper → Nat → Env → Env → List Hist → List (Nat × Heap) → Reg
  | [], _, e, _, _, _ => .done e
  | o :: rest, i, e, l, hist, snaps =>
    match kindC (resOp P o (lookE p e l)) with
    | .write =>
      if snaps.all fun s => (ah.getD i []).elem s.1 then
        .snap fun h => opReg P p all o e l fun v => chks (hist.filter fun r => !(ah.getD i []).elem r.no)
          (toRegD P p all ah rest (i + 1) (putE p e l o.dst v).1 (putE p e l o.dst v).2 hist ((i, h) :: snaps))
      else .op .bad fun _ => .done e
    | .read => opReg P p all o e l fun v => chksAt ⟨i, guardV p all o e l, resOp P o (lookE p e l), v⟩ (snaps.filter fun s => !(ah.getD i []).elem s.1)
        (toRegD P p all ah rest (i + 1) (putE p e l o.dst v).1 (putE p e l o.dst v).2 (⟨i, guardV p all o e l, resOp P o (lookE p e l), v⟩ :: hist) snaps)
    | _ => opReg P p all o e l fun v => toRegD P p all ah rest (i + 1) (putE p e l o.dst v).1 (putE p e l o.dst v).2 hist snaps

def toCC (P : Program) (p : Pers) : Code → CC
  | .skip => .skip
  | .region _ ops false => .region fun e => toReg P p ops ops.toList e fun _ => unk
  | .region _ ops true =>
    if aheadOk ops (aheadOf ops) && apartOk ops (aheadOf ops) && P.follows .mixedOrders then
      .region fun e => toRegD P p ops (aheadOf ops) ops.toList 0 e (fun _ => unk) [] []
    else .bad
  | .seq a b => .seq (toCC P p a) (toCC P p b)
  | .cond c a b => .cond (fun e => lookE p e (fun _ => unk) c) (toCC P p a) (toCC P p b)
  | .block id b => .block id (toCC P p b)
  | .loop b => .loop (toCC P p b)
  | .exit id => .exit id
  | .ret => .ret
  | _ => .bad

def resT (P : Program) : ResultVar → Option RV
  | .tmp t => some (.t t)
  | .cell a t => if hasT P t then some (.c a (aggT P t)) else none
def RV.slot : RV → Nat
  | .t n => n
  | .c n _ => n

def toFn (P : Program) (p : Pers) (f : Func) : Option CFn :=
  match f.body, f.results.toList.mapM (resT P) with
  | some c, some rs => if Nat.ble p.size f.ntmps && (rs.all fun r => p.has r.slot) && Nat.ble rs.length 3 && !(f.name == "runtime.NumGoroutine") then some ⟨toCC P p c, rs⟩ else none
  | _, _ => none
end Go.Proofs.Ytekojjilbchkgaa.Can
