/- Part 1 of 6 of the proof of the row RowWholePeeks: whatever the input, the law returns true. No condition. -/
import Derived.Below
import Derived.ChangeKeysEq
import Derived.Defers
import Derived.KernelRfl
import Derived.LaidEql
import Derived.Laws.Cells
import Derived.Laws.Entries
import Derived.Laws.Externs
import Derived.Laws.NewFold
import Derived.Laws.StructEq
import Derived.Laws.Tables
import Derived.Lib.Builder
import Derived.Lib.UnsafeStr
import Derived.Orders
import Derived.OrdersIn
import Derived.RangeFuncCalls
import Derived.RangeFuncRecord
import Derived.Tactics
import Derived.TacticsIn
set_option linter.unusedSimpArgs false
set_option linter.unusedVariables false
set_option linter.defProp false
set_option maxHeartbeats 4000000
open Nat renaming lt_of_lt_of_le → uzN, le_refl → uzP, le_trans → uzR, lt_succ_self → vpz, zero_add → vsz, mul_le_mul_right → vzz, add_mul → vDz, le_of_not_lt → vGz, zero_le → vJz, sub_self → vKz, le_succ → vLz, lt_or_ge → vMz
open Option renaming some.inj → uzA, some.injEq → uzC, map_eq_some_iff → uzD, bind_eq_some_iff → vhz, map_some → vlz, getD_some → vFz
open Prod renaming mk.injEq → uzB
open List renaming getElem?_eq_getElem → uzF, length_append → uzG, getElem?_map → uzJ, length_cons → uzM, replicate → vaz, getD_eq_getElem?_getD → vcz, getElem?_append_right → vfz, getElem?_eq_none → vmz, take_of_length_le → vnz, getElem?_take → voz, length_take → vqz, nil_append → vrz, append_nil → vtz, getElem?_append_left → vuz, append_assoc → vvz, drop_zero → vwz, mem_cons → vxz, mem_cons_self → vyz, getElem?_cons_succ → vBz, cons_append → vCz, getElem?_drop → vEz, mem_or_eq_of_mem_set → vIz
open Bool renaming false_eq_true → vgz, and_eq_true → vjz
namespace Go.Proofs.YtlakhgibjfmjjaaGreat.Can
theorem dFz {p : Prop} [Decidable p] (h : ¬p) : decide p = false := decide_eq_false h
theorem dTz {p : Prop} [Decidable p] (h : p) : decide p = true := decide_eq_true h
end Go.Proofs.YtlakhgibjfmjjaaGreat.Can
namespace Go.Proofs.YtlakhgibjfmjjaaGreat.Can
open Go
inductive How where
 |ro|fix|grow
 deriving DecidableEq
inductive X where
 |normal
 |exit (id:Nat)
 |ret
 deriving DecidableEq
inductive Obj where
 |gone
 |loop (st:Nat) (pend:Option X)
 |cells (c:List Value) (e:TypeId) (g:How)
 |map (es:List MapEntry) (clock:Nat)
 |siter (s:ByteArray) (pos:Nat)
 |miter (m:Option Nat) (since:Nat) (seen:List Nat) (stepped:Nat)
structure Heap where
 obj:Nat->Obj
 next:Nat
def Heap.upd(h:Heap)(b:Nat)(o:Obj):Heap:=⟨fun x=>if x=b then o else h.obj x,h.next⟩
def Heap.new(h:Heap)(o:Obj):Heap:=⟨fun x=>if x=h.next then o else h.obj x,h.next+1⟩
def Obj.read:Obj->Nat->Nat->Option (List Value)
 | .cells c _ _,o,n=>if o+n<=c.length then some ((c.drop o).take n)else none
 |_,_,_=>none
def Obj.elemOk:Obj->TypeId->Bool
 | .cells _ e .grow,t=>e==t
 | .cells _ _ _,_=>true
 |_,_=>false
def Obj.stiff:Obj->Bool
 | .cells _ _ .grow=>false
 | .cells _ _ _=>true
 |_=>false
def setAt:List Value->Nat->List Value->List Value
 |c,_,[]=>c
 |c,o,v::vs=>setAt (c.set o v) (o+1) vs
def Obj.get:Obj->Nat->Option Value
 | .cells c _ _,o=>c[o]?
 |_,_=>none
def Obj.write:Obj->Nat->List Value->Option Obj
 | .cells c e g,o,vs=>if g=.ro then none else if o+vs.length<=c.length then some (.cells (setAt c o vs) e g)else none
 |_,_,_=>none
def E9:Value->Bool
 | .agg _| .tuple _=>false
 |_=>true
def flat:Value->Option (List Value)
 | .agg cs=>if cs.toList.all E9 then some cs.toList else none
 | .tuple _=>none
 |v=>some [v]
inductive EqK where
 |bool|ptr|slice|map|func
 deriving DecidableEq
inductive SK where
 |int|str|bool
 deriving DecidableEq
inductive KK where
 |one (k:SK)
 |agg (l:List SK)
 deriving DecidableEq
inductive COp where
 |mv (x:Value)
 |pick (c a b:Value)
 |alloc (e:TypeId) (zero:List Value)
 |box (e:TypeId) (x:Value)
 |build (zero:List Value) (parts:List (Nat×Nat×Value))
 |buildSlice (e:TypeId) (len:Nat) (zero:List Value) (parts:List (Nat×Nat×Value))
 |load (agg:Option Nat) (a:Value)
 |store (size:Nat) (a x:Value)
 |nilCheck (x:Value)
 |bin (op:BinOp) (x y:Value)
 |eqK (kd:EqK) (neg:Bool) (x y:Value)
 |eqAgg (neg:Bool) (ks:List SK) (x y:Value)
 |un (op:UnOp) (x:Value)
 |conv (k:IntKind) (x:Value)
 |convSame (x:Value)
 |toStr (x:Value)
 |toBytes (e:TypeId) (x:Value)
 |makeFunc (f:FuncId) (first captured:List Value)
 |makeMap
 |makeSlice (e:TypeId) (size bytes:Nat) (zero:List Value) (len cap:Value)
 |sliceStr (x:Value) (lo hi:Option Value)
 |slice (e:TypeId) (size:Nat) (x:Value) (lo hi:Option Value)
 |sliceArr (n size:Nat) (x:Value) (lo hi:Option Value)
 |sliceArr3 (n size:Nat) (x:Value) (lo hi:Option Value) (mx:Value)
 |slice3 (e:TypeId) (size:Nat) (x:Value) (lo hi:Option Value) (mx:Value)
 |assertI (n:Nat) (yes:List TypeId) (zero x:Value)
 |fieldAddr (off:Nat) (x:Value)
 |field (off:Nat) (agg:Option Nat) (x:Value)
 |indexSl (size:Nat) (x i:Value)
 |indexArr (n size:Nat) (x i:Value)
 |indexStr (x i:Value)
 |indexAgg (n size:Nat) (agg:Option Nat) (x i:Value)
 |extract (x:Value) (i:Nat)
 |ptrSame (t:TypeId) (n:Nat) (x:Value)
 |sliceData (x:Value)
 |unsafeStr (t:TypeId) (x n:Value)
 |lenStr (x:Value)
 |lenSl (x:Value)
 |lenMap (x:Value)
 |cap (x:Value)
 |const (v:Value)
 |append (e:TypeId) (size bytes:Nat) (x y:Value)
 |copy (size:Nat) (x y:Value)
 |clearSl (zero:List Value) (x:Value)
 |minmax (big:Bool) (xs:List Value)
 |lookup (kk:KK) (zero:Value) (ok:Bool) (m k:Value)
 |mapUpdate (kk:KK) (m k v:Value)
 |mapEntry (kk:KK) (zero:Value) (m k:Value)
 |entryStore (m s v:Value)
 |range (x:Value)
 |rangeMap (x:Value)
 |nextStr (x:Value)
 |call (f:FuncId) (args:List Value)
 |callv (f:Value) (args:List Value)
 |bad
abbrev a7:=Nat->Value
def a7.upd(e:a7)(t:Nat)(v:Value):a7:=fun x=>if x=t then v else e x
def T6(args:List Value):a7:=fun t=>args.getD t (.tuple #[])
def goInt(n:Int):Value:=.int .i64 n
def b5W(op:BinOp)(k:IntKind)(a b:Int):Option Value:=
 match op with
 | .add=>some (.int k (k.wrap (a+b)))
 | .sub=>some (.int k (k.wrap (a-b)))
 | .mul=>some (.int k (k.wrap (a*b)))
 | .quo=>if b=0 then none else some (.int k (k.wrap (a.tdiv b)))
 | .rem=>if b=0 then none else some (.int k (a.tmod b))
 | .and=>some (.int k (k.wrap (BitVec.ofInt k.bits a &&& BitVec.ofInt k.bits b).toNat))
 | .or=>some (.int k (k.wrap (BitVec.ofInt k.bits a |||BitVec.ofInt k.bits b).toNat))
 | .xor=>some (.int k (k.wrap (BitVec.ofInt k.bits a ^^^ BitVec.ofInt k.bits b).toNat))
 | .andNot=>some (.int k (k.wrap (BitVec.ofInt k.bits a &&& ~~~ BitVec.ofInt k.bits b).toNat))
 | .eql=>some (.bool (a==b))
 | .neq=>some (.bool (a !=b))
 | .lss=>some (.bool (decide (a<b)))
 | .leq=>some (.bool (decide (a<=b)))
 | .gtr=>some (.bool (decide (a>b)))
 | .geq=>some (.bool (decide (a>=b)))
 |_=>none
def a3j(op:BinOp)(k:IntKind)(a b:Int):Option Value:=
 if b<0 then none else
 match op with
 | .shl=>some (.int k (k.wrap (a*2 ^ (min b.toNat k.bits))))
 | .shr=>some (.int k (a.fdiv (2 ^ (min b.toNat k.bits))))
 |_=>none
def a5J(op:BinOp)(a b:ByteArray):Option Value:=
 match op with
 | .add=>if a.size+b.size<=9223372036854775807 then some (.string (a++b))else none
 | .eql=>some (.bool (a.toList==b.toList))
 | .neq=>some (.bool (!(a.toList==b.toList)))
 | .lss=>some (.bool (Op.bytesLess a.toList b.toList))
 | .geq=>some (.bool (!(Op.bytesLess a.toList b.toList)))
 | .leq=>some (.bool (Op.bytesLess a.toList b.toList ||a.toList==b.toList))
 | .gtr=>some (.bool (!(Op.bytesLess a.toList b.toList ||a.toList==b.toList)))
 |_=>none
def eqK:EqK->Value->Value->Option Bool
 | .bool,.bool a,.bool b=>some (a==b)
 | .ptr,.pointer none,.pointer b=>some b.isNone
 | .ptr,.pointer (some _),.pointer none=>some false
 | .ptr,.pointer (some ⟨a,o,none⟩),.pointer (some ⟨b,o',none⟩)=>if a=b/\o=o' then some true else none
 | .slice,.slice none _ _,.slice b _ _=>some b.isNone
 | .slice,.slice (some _) _ _,.slice none _ _=>some false
 | .map,.map none,.map b=>some b.isNone
 | .map,.map (some _),.map none=>some false
 | .func,.nilFunc,.nilFunc=>some true
 | .func,.nilFunc,.func _ _ _=>some false
 | .func,.func _ _ _,.nilFunc=>some false
 |_,_,_=>none
def bin(op:BinOp)(x y:Value):Option Value:=
 match x,y with
 | .int k a,.int k' b=>
  match op with
  | .shl| .shr=>a3j op k a b
  |_=>if k=k' then b5W op k a b else none
 | .string a,.string b=>a5J op a b
 |_,_=>none
def un(op:UnOp)(x:Value):Option Value:=
 match op,x with
 | .neg,.int k n=>some (.int k (k.wrap (0-n)))
 | .xor,.int k n=>some (.int k (k.wrap (BitVec.ofInt k.bits (if k.signed then-1 else k.max) ^^^ BitVec.ofInt k.bits n).toNat))
 | .not,.bool b=>some (.bool (!b))
 |_,_=>none
def E5:SK->Value->Value->Option Bool
 | .int,.int k a,.int k' b=>if k=k' then some (a==b)else none
 | .str,.string a,.string b=>some (a.toList==b.toList)
 | .bool,.bool a,.bool b=>some (a==b)
 |_,_,_=>none
def eqL:List SK->List Value->List Value->Option Bool
 | [],[],[]=>some true
 |k::ks,a::x,b::y=>(E5 k a b).bind fun r=>(eqL ks x y).map fun s=>r && s
 |_,_,_=>none
def y6(z:List Value):List (Nat×Nat×Value)->Option (List Value)
 | []=>some z
 | (off,size,x)::rest=>
  match flat x with
  |some cs=>if cs.length=size/\off+size<=z.length then y6 (setAt z off cs) rest else none
  |none=>none
def a5d(n:Nat)(yes:List TypeId)(z:Value)(v:Value):Option Value:=
 match v with
 | .nilIface=>some (.tuple #[z,.bool false])
 | .iface t x=>if yes.any fun y=>Nat.beq y t then some (.tuple #[.iface t x,.bool true])else if Nat.blt t n then some (.tuple #[z,.bool false])else none
 |_=>none
def J6(x:Option Value)(dflt:Nat)(most:Nat):Option Nat:=
 match x with
 |none=>some dflt
 |some (.int _ n)=>if 0<=n/\n<=most then some n.toNat else none
 |_=>none
def G0(n:Nat)(zero:List Value):List Value:=
 match n with
 |0=>[]
 |n+1=>zero++G0 n zero
def bytesOf:List Value->Option (List UInt8)
 | []=>some []
 | .int .u8 n::r=>(bytesOf r).map fun l=>UInt8.ofNat n.toNat::l
 |_=>none
def B6(l:List UInt8):List Value:=l.map fun b=> .int .u8 b.toNat
def Obj.src:Obj->Nat->Nat->Option (List Value)
 | .cells c _ .ro,o,n=>if o+n<=c.length/\((c.drop o).take n).all E9=true then some ((c.drop o).take n)else none
 | .cells c _ .fix,o,n=>if o+n<=c.length then some ((c.drop o).take n)else none
 | .cells c _ .grow,o,n=>if o+n<=c.length then some ((c.drop o).take n)else none
 |_,_,_=>none
def D1(h:Heap)(size:Nat):Value->Option (List Value×Nat)
 | .slice none n _=>if n=0 then some ([],0)else none
 | .slice (some a) n _=>if a.spot=none then((h.obj a.block).src a.off (n*size)).map fun c=>(c,n)else none
 | .string s=>if size=1 then some (B6 s.data.toList,s.size)else none
 |_=>none
def a1L(big:Bool):Value->Value->Option Value
 | .int k x,.int k' y=>if k=k' then some (.int k (if big then(if y>x then y else x)else(if y<x then y else x)))else none
 |_,_=>none
def S0(big:Bool):Value->List Value->Option Value
 |v,[]=>match v with| .int k n=>some (.int k n)|_=>none
 |v,x::xs=>(a1L big v x).bind fun u=>S0 big u xs
def Y3:KK->Value->Value->Option Bool
 | .one k,a,b=>E5 k a b
 | .agg l,.agg xs,.agg ys=>eqL l xs.toList ys.toList
 |_,_,_=>none
def I9(kk:KK)(k:Value):List MapEntry->Nat->Option (Option Nat)
 | [],_=>some none
 |e::es,i=>(Y3 kk k e.key).bind fun b=>if b then some (some i)else I9 kk k es (i+1)
def M8(t:TypeId)(size bytes:Nat)(x y:Value)(h:Heap):Option (Value×Heap):=
 match x,D1 h size y with
 | .slice base n c,some (new,m)=>
  if n+m<=c then match base with
   |some a=>if a.spot=none then((h.obj a.block).write (a.off+n*size) new).map fun ob=>(.slice base (n+m) c,h.upd a.block ob)else none
   |none=>if n+m=0 then some (.slice none 0 c,h)else none
  else if(n+m)*bytes<=140737488355328/\n+m<=9223372036854775807 then match base with
   |none=>if n=0 then some (.slice (some ⟨h.next,0,none⟩) m m,h.new (.cells new t .grow))else none
   |some a=>match h.obj a.block with
    | .cells cs t' .grow=>if a.spot=none/\t' =t/\a.off+c*size=cs.length/\n<=c then
      some (.slice (some ⟨h.next,0,none⟩) (n+m) (n+m),(h.upd a.block .gone).new (.cells ((cs.drop a.off).take (n*size)++new) t .grow))else none
    |_=>none
  else none
 |_,_=>none
def C7(o:COp)(h:Heap):Option (Value×Heap):=
 match o with
 | .mv x=>some (x,h)
 | .const v=>some (v,h)
 | .pick c a b=>match c with
  | .bool t=>some (if t then a else b,h)
  |_=>none
 | .alloc t zero=>some (.pointer (some ⟨h.next,0,none⟩),h.new (.cells zero t .fix))
 | .box t x=>match flat x with
  |some cs=>some (.pointer (some ⟨h.next,0,none⟩),h.new (.cells cs t .fix))
  |none=>none
 | .build zero parts=>(y6 zero parts).map fun cs=>(.agg cs.toArray,h)
 | .buildSlice t n zero parts=>(y6 (G0 n zero) parts).map fun cs=>(.slice (some ⟨h.next,0,none⟩) n n,h.new (.cells cs t .grow))
 | .load agg a=>match a with
  | .pointer (some ⟨b,o,none⟩)=>match agg with
   |some n=>((h.obj b).read o n).map fun cs=>(.agg cs.toArray,h)
   |none=>((h.obj b).get o).map fun v=>(v,h)
  |_=>none
 | .store size a x=>match a,flat x with
  | .pointer (some ⟨b,o,none⟩),some cs=>if cs.length=size then((h.obj b).write o cs).map fun ob=>(.tuple #[],h.upd b ob)else none
  |_,_=>none
 | .nilCheck x=>match x with
  | .pointer (some a)=>some (.pointer (some a),h)
  |_=>none
 | .bin op x y=>(bin op x y).map fun v=>(v,h)
 | .eqK kd neg x y=>(eqK kd x y).map fun b=>(.bool (if neg then !b else b),h)
 | .eqAgg neg ks x y=>match x,y with
  | .agg xs,.agg ys=>(eqL ks xs.toList ys.toList).map fun b=>(.bool (if neg then !b else b),h)
  |_,_=>none
 | .un op x=>(un op x).map fun v=>(v,h)
 | .conv k x=>match x with
  | .int _ n=>some (.int k (k.wrap n),h)
  |_=>none
 | .convSame x=>match x with
  | .string s=>some (.string s,h)
  |_=>none
 | .toStr x=>match x with
  | .slice none _ _=>some (.string .empty,h)
  | .slice (some a) n _=>if a.spot=none then
    ((h.obj a.block).read a.off n).bind fun cs=>(bytesOf cs).map fun l=>(.string ⟨l.toArray⟩,h)else none
  |_=>none
 | .toBytes t x=>match x with
  | .string s=>some (.slice (some ⟨h.next,0,none⟩) s.size s.size,h.new (.cells (B6 s.data.toList) t .grow))
  |_=>none
 | .ptrSame t n x=>match x with
  | .pointer (some ⟨b,0,none⟩)=>match h.obj b with
   | .cells c t' .fix=>if t' =t/\c.length=n then some (.pointer (some ⟨b,0,none⟩),h)else none
   |_=>none
  |_=>none
 | .sliceData x=>match x with
  | .slice none _ _=>some (.pointer none,h)
  | .slice (some ⟨b,o,none⟩) _ c=>if 0<c then some (.pointer (some ⟨b,o,none⟩),h)else none
  |_=>none
 | .unsafeStr t x n=>match n with
  | .int .i64 k=>match x with
   | .pointer none=>if k=0 then some (.string .empty,h)else none
   | .pointer (some ⟨b,0,none⟩)=>match h.obj b with
    | .cells c t' .grow=>if t' =t/\0<k/\k.toNat<=c.length/\k<=9223372036854775807 then(bytesOf (c.take k.toNat)).map fun l=>(.string ⟨l.toArray⟩,h.upd b .gone)else none
    |_=>none
   |_=>none
  |_=>none
 | .makeFunc f first captured=>some (.func (.func f) first.toArray captured.toArray,h)
 | .makeMap=>some (.map (some h.next),h.new (.map [] 0))
 | .makeSlice t size bytes zero len cap=>match len,cap with
  | .int .i64 n,.int .i64 c=>if 0<=n/\n<=c/\c*bytes<=140737488355328/\c<=9223372036854775807/\zero.length=size then
    some (.slice (some ⟨h.next,0,none⟩) n.toNat c.toNat,h.new (.cells (G0 c.toNat zero) t .grow))else none
  |_,_=>none
 | .sliceStr x lo hi=>match x with
  | .string s=>(J6 hi s.size s.size).bind fun b=>(J6 lo 0 b).map fun a=>(.string (s.extract a b),h)
  |_=>none
 | .slice t size x lo hi=>match x with
  | .slice none n c=>(J6 hi n c).bind fun b=>(J6 lo 0 b).map fun l=>(.slice none (b-l) (c-l),h)
  | .slice (some a) n c=>if(h.obj a.block).elemOk t then(J6 hi n c).bind fun b=>(J6 lo 0 b).map fun l=>
    (.slice (some (a.add (l*size))) (b-l) (c-l),h)else none
  |_=>none
 | .sliceArr n size x lo hi=>match x with
  | .pointer (some a)=>if(h.obj a.block).stiff then(J6 hi n n).bind fun b=>(J6 lo 0 b).map fun l=>
    (.slice (some (a.add (l*size))) (b-l) (n-l),h)else none
  |_=>none
 | .assertI n yes z x=>(a5d n yes z x).map fun v=>(v,h)
 | .slice3 t size x lo hi mx=>match x,hi with
  | .slice none n c,some y=>(J6 (some mx) c c).bind fun m=>(J6 (some y) m m).bind fun b=>(J6 lo 0 b).map fun l=>(.slice none (b-l) (m-l),h)
  | .slice (some a) n c,some y=>if(h.obj a.block).elemOk t then(J6 (some mx) c c).bind fun m=>(J6 (some y) m m).bind fun b=>(J6 lo 0 b).map fun l=>
    (.slice (some (a.add (l*size))) (b-l) (m-l),h)else none
  |_,_=>none
 | .sliceArr3 n size x lo hi mx=>match x,hi with
  | .pointer (some a),some y=>if(h.obj a.block).stiff then(J6 (some mx) n n).bind fun m=>(J6 (some y) m m).bind fun b=>(J6 lo 0 b).map fun l=>
    (.slice (some (a.add (l*size))) (b-l) (m-l),h)else none
  |_,_=>none
 | .fieldAddr off x=>match x with
  | .pointer (some a)=>some (.pointer (some (a.add off)),h)
  |_=>none
 | .field off agg x=>match x with
  | .agg cs=>match agg with
   |some n=>if off+n<=cs.size then some (.agg (cs.extract off (off+n)),h)else none
   |none=>cs[off]?.map fun v=>(v,h)
  |_=>none
 | .indexSl size x i=>match x,i with
  | .slice (some a) n _,.int _ j=>if 0<=j/\j<n then some (.pointer (some (a.add (j.toNat*size))),h)else none
  |_,_=>none
 | .indexArr n size x i=>match x,i with
  | .pointer (some a),.int _ j=>if 0<=j/\j<n then some (.pointer (some (a.add (j.toNat*size))),h)else none
  |_,_=>none
 | .indexStr x i=>match x,i with
  | .string s,.int _ j=>if 0<=j then s.data[j.toNat]?.map fun b=>(.int .u8 b.toNat,h)else none
  |_,_=>none
 | .indexAgg n size agg x i=>match x,i with
  | .agg cs,.int _ j=>if 0<=j/\j<n then match agg with
    |some m=>if j.toNat*size+m<=cs.size then some (.agg (cs.extract (j.toNat*size) (j.toNat*size+m)),h)else none
    |none=>cs[j.toNat*size]?.map fun v=>(v,h)
   else none
  |_,_=>none
 | .extract x i=>match x with
  | .tuple vs=>if vs.size<=1 then(match(vs[0]? :Option Value)with
    |some (Value.bool b)=>if i=0 then some (.bool b,h)else none
    |_=>none)
   else vs[i]?.map fun v=>(v,h)
  |_=>none
 | .lenStr x=>match x with
  | .string s=>some (goInt s.size,h)
  |_=>none
 | .lenSl x=>match x with
  | .slice _ n _=>some (goInt n,h)
  |_=>none
 | .lenMap x=>match x with
  | .map none=>some (goInt 0,h)
  | .map (some r)=>match h.obj r with
   | .map es _=>some (goInt es.length,h)
   |_=>none
  |_=>none
 | .cap _=>none
 | .append t size bytes x y=>M8 t size bytes x y h
 | .copy size x y=>match x,y with
  | .slice base n _,src=>
   match(match src with
    | .slice b m c=>D1 h size (.slice b (min m n) c)
    | .string s=>D1 h size (.string (s.extract 0 (min s.size n)))
    |_=>none)with
   |some (new,m)=>match base with
    |some a=>if a.spot=none then((h.obj a.block).write a.off new).map fun ob=>(goInt m,h.upd a.block ob)else none
    |none=>some (goInt m,h)
   |none=>none
  |_,_=>none
 | .clearSl zero x=>match x with
  | .slice none _ _=>some (.tuple #[],h)
  | .slice (some a) n _=>if a.spot=none then((h.obj a.block).write a.off (G0 n zero)).map fun ob=>(.tuple #[],h.upd a.block ob)else none
  |_=>none
 | .minmax big xs=>match xs with
  | []=>none
  |x::xs=>(S0 big x xs).map fun v=>(v,h)
 | .lookup kk zero ok m k=>match m with
  | .map none=>(Y3 kk k k).map fun _=>(if ok then .tuple #[zero,.bool false]else zero,h)
  | .map (some r)=>match h.obj r with
   | .map es _=>(Y3 kk k k).bind fun _=>(I9 kk k es 0).map fun
    |some i=>((if ok then .tuple #[((es[i]?).map (·.val)).getD zero,.bool true]else((es[i]?).map (·.val)).getD zero),h)
    |none=>((if ok then .tuple #[zero,.bool false]else zero),h)
   |_=>none
  |_=>none
 | .mapUpdate kk m k v=>match m with
  | .map (some r)=>match h.obj r with
   | .map es clock=>(Y3 kk k k).bind fun _=>(I9 kk k es 0).map fun
    |some i=>(.tuple #[],h.upd r (.map (es.modify i fun x=>{ x with key:=k,val:=v }) clock))
    |none=>(.tuple #[],h.upd r (.map (es++[⟨k,v,clock⟩]) (clock+1)))
   |_=>none
  |_=>none
 | .mapEntry kk zero m k=>match m with
  | .map (some r)=>match h.obj r with
   | .map es clock=>(Y3 kk k k).bind fun _=>(I9 kk k es 0).map fun
    |some i=>(.tuple #[((es[i]?).map (·.val)).getD zero,goInt (((es[i]?).map (·.born)).getD 0)],h.upd r (.map (es.modify i fun x=>{ x with key:=k }) clock))
    |none=>(.tuple #[zero,goInt clock],h.upd r (.map (es++[⟨k,zero,clock⟩]) (clock+1)))
   |_=>none
  |_=>none
 | .entryStore m s v=>match m,s with
  | .map (some r),.int _ born=>match h.obj r with
   | .map es clock=>match es.findIdx? (fun x=>(x.born:Int)==born)with
    |some i=>some (.tuple #[],h.upd r (.map (es.modify i fun x=>{ x with val:=v }) clock))
    |none=>none
   |_=>none
  |_,_=>none
 | .range x=>match x with
  | .string s=>some (.pointer (some ⟨h.next,0,none⟩),h.new (.siter s 0))
  |_=>none
 | .rangeMap x=>match x with
  | .map none=>some (.pointer (some ⟨h.next,0,none⟩),h.new (.miter none 0 [] 0))
  | .map (some m)=>match h.obj m with
   | .map _ clock=>some (.pointer (some ⟨h.next,0,none⟩),h.new (.miter (some m) clock [] clock))
   |_=>none
  |_=>none
 | .nextStr x=>match x with
  | .pointer (some ⟨r,0,_⟩)=>match h.obj r with
   | .siter s pos=>
    if pos<s.size then
     some (.tuple #[.bool true,goInt pos,.int .i32 (Utf8.decode s pos).1],h.upd r (.siter s (pos+(Utf8.decode s pos).2)))
    else some (.tuple #[.bool false],h)
   |_=>none
  |_=>none
 | .call _ _| .callv _ _| .bad=>none
inductive Reg where
 |done (e:a7)
 |op (o:COp) (k:Value->Reg)
 |opg (g:Value) (w:Bool) (o:COp) (k:Value->Reg)
 |snap (k:Heap->Reg)
 |chk (g:Option (Value×Bool)) (h:Option Heap) (o:COp) (v:Value) (k:Reg)
inductive CC where
 |skip
 |region (r:a7->Reg)
 |seq (a b:CC)
 |cond (c:a7->Value) (t e:CC)
 |block (id:Nat) (b:CC)
 |loop (b:CC)
 |exit (id:Nat)
 |ret
 |bad
 |dfr (pre:CC) (g:FuncId) (caps:a7->List Value) (post:CC)
 |rng (pre:CC) (id:Nat) (g:a7->Value) (ps:List Nat) (asg body post:CC)
inductive RV where
 |t (n:Nat)
 |c (n:Nat) (agg:Option Nat)
structure CFn where
 body:CC
 results:List RV
inductive Tgt where
 |fn (f:FuncId)
 |yl (b:Nat)
abbrev YF:=List Value->Heap->Option (Value×Heap)
abbrev z8:=Tgt->List Value->Heap->Option (Value×Heap)
def U3(g:Value)(w:Bool):Option Bool:=
 match g with
 | .bool x=>some (x==w)
 | .tuple vs=>if vs.size=0 then some false else none
 |_=>none
def I0(call:z8)(o:COp)(h:Heap):Option (Value×Heap):=
 match o with
 | .call f args=>call (.fn f) args h
 | .callv (.func (.func g) first captured) args=>call (.fn g) (first.toList++args++captured.toList) h
 | .callv (.func (.yield b) _ _) args=>call (.yl b) args h
 |o=>C7 o h
def W5(g:Option (Value×Bool))(h:Heap)(o:COp)(v:Value):Prop:=
 match g with
 |none=>C7 o h=some (v,h)
 |some (x,w)=>U3 x w=some false\/C7 o h=some (v,h)
open Classical in
noncomputable def M2 (call:z8):Reg->Heap->Option (a7×Heap)
 | .done e,h=>some (e,h)
 | .op o k,h=>match I0 call o h with
  |some (v,h')=>M2 call (k v) h'
  |none=>none
 | .opg g w o k,h=>match U3 g w with
  |some true=>match I0 call o h with
   |some (v,h')=>M2 call (k v) h'
   |none=>none
  |some false=>M2 call (k (.tuple #[])) h
  |none=>none
 | .snap k,h=>M2 call (k h) h
 | .chk g hj o v k,h=>if W5 g (hj.getD h) o v then M2 call k h else none
def Y2(f:a7->Heap->Option (X×a7×Heap)):Nat->a7->Heap->Option (X×a7×Heap)
 |0,_,_=>none
 |n+1,e,h=>match f e h with
  |some (.normal,e',h')=>Y2 f n e' h'
  |r=>r
def a3h(e:a7):List Nat->List Value->a7
 |p::ps,v::vs=>a3h (e.upd p v) ps vs
 |_,_=>e
def a3R:Obj->Bool
 | .loop 0 none=>true
 |_=>false
def b2X:Obj->Bool
 | .loop 1 none=>true
 |_=>false
def M0(fa fb:a7->Heap->Option (X×a7×Heap))(b:Nat)(ps:List Nat)(e1:a7):YF:=fun args h=>
 if args.length=ps.length/\a3R (h.obj b)=true then match fa (a3h e1 ps args) h with
  |some (.normal,e2,h2)=>if a3R (h2.obj b)=true then match fb e2 (h2.upd b (.loop 1 none))with
   |some (x,_,h3)=>if b2X (h3.obj b)=true then some (.bool (decide (x=.normal)),h3.upd b (if x=.normal then .loop 0 none else .loop 2 (some x)))else none
   |none=>none
   else none
  |_=>none
 else none
def Z6(cy:Nat->YF->z8)(y:YF)(b:Nat)(g:Value)(h:Heap):Option (Value×Heap):=
 match g with
 | .func (.func f) first captured=>cy b y (.fn f) (first.toList++[.func (.yield b) #[] #[]]++captured.toList) h
 |_=>none
def a1n(id:Nat):Obj->Option X
 | .loop 0 none=>some .normal
 | .loop 2 (some .ret)=>some .ret
 | .loop 2 (some (.exit i))=>if i=id then some .normal else none
 |_=>none
noncomputable def D3 (call:z8) (cy:Nat->YF->z8) (N:Nat):CC->a7->Heap->Option (X×a7×Heap)
 | .skip,e,h=>some (.normal,e,h)
 | .region r,e,h=>(M2 call (r e) h).map fun r=>(.normal,r.1,r.2)
 | .seq a b,e,h=>match D3 call cy N a e h with
  |some (.normal,e',h')=>D3 call cy N b e' h'
  |r=>r
 | .cond c t f,e,h=>match c e with
  | .bool true=>D3 call cy N t e h
  | .bool false=>D3 call cy N f e h
  |_=>none
 | .block id b,e,h=>match D3 call cy N b e h with
  |some (.exit i,e',h')=>if i=id then some (.normal,e',h')else some (.exit i,e',h')
  |r=>r
 | .loop b,e,h=>Y2 (D3 call cy N b) N e h
 | .exit id,e,h=>some (.exit id,e,h)
 | .ret,e,h=>some (.ret,e,h)
 | .bad,_,_=>none
 | .dfr pre g caps post,e,h=>match D3 call cy N pre e h with
  |some (.normal,e1,h1)=>match D3 call cy N post e1 h1 with
   |some (.normal,e2,h2)|some (.ret,e2,h2)=>(call (.fn g) (caps e1) h2).map fun r=>(.ret,e2,r.2)
   |_=>none
  |some (.ret,e1,h1)=>some (.ret,e1,h1)
  |_=>none
 | .rng pre id g ps asg body post,e,h=>match D3 call cy N pre e h with
  |some (.normal,e1,h1)=>match Z6 cy (M0 (D3 call cy N asg) (D3 call cy N body) h1.next ps e1) h1.next (g e1) (h1.new (.loop 0 none))with
   |some (_,h2)=>match a1n id (h2.obj h1.next)with
    |some .normal=>D3 call cy N post e1 (h2.upd h1.next .gone)
    |some .ret=>some (.ret,e1,h2.upd h1.next .gone)
    |_=>none
   |none=>none
  |some (.ret,e1,h1)=>some (.ret,e1,h1)
  |_=>none
def a3U(e:a7)(h:Heap):RV->Option Value
 | .t n=>some (e n)
 | .c n agg=>(C7 (.load agg (e n)) h).map fun r=>r.1
def a3T:List (Option Value)->Option (List Value)
 | []=>some []
 |none::_=>none
 |some v::r=>(a3T r).map fun l=>v::l
def G3(e:a7)(h:Heap):List RV->Option Value
 | [r]=>a3U e h r
 |rs=>(a3T (rs.map (a3U e h))).map fun l=> .tuple l.toArray
structure CProg where
 fn:FuncId->Option CFn
 yl:Option (Nat×YF)
instance:CoeFun CProg fun _=>FuncId->Option CFn:=⟨CProg.fn⟩
def CProg.put(CP:CProg)(b:Nat)(y:YF):CProg:=⟨CP.fn,some (b,y)⟩
def ylF(CP:CProg)(b:Nat)(args:List Value)(h:Heap):Option (Value×Heap):=match CP.yl with
 |some (c,y)=>if b=c then y args h else none
 |none=>none
noncomputable def Q3:CProg->Nat->z8
 |_,0,_,_,_=>none
 |CP,_+1,.yl b,args,h=>ylF CP b args h
 |CP,n+1,.fn f,args,h=>match CP f with
  |none=>none
  |some fn=>match D3 (Q3 CP n) (fun b y=>Q3 (CP.put b y) n) n fn.body (T6 args) h with
   |some (.normal,e,h')=>(G3 e h' fn.results).map fun v=>(v,h')
   |some (.ret,e,h')=>(G3 e h' fn.results).map fun v=>(v,h')
   |_=>none
noncomputable def cyF (CP:CProg) (n:Nat):Nat->YF->z8:=fun b y=>Q3 (CP.put b y) n
def unk:Value:=.tuple #[.tuple #[.tuple #[]]]
def a0h(P:Program)(t:TypeId):Bool:=
 match P.underlying t with
 |some (.struct _)|some (.array _ _)=>true
 |_=>false
def a3s(P:Program)(t:TypeId):Option Nat:=if a0h P t then some (P.cellsOf t)else none
def a4P(P:Program)(t:TypeId):Option Value:=(P.info? t).bind (·.zero)
def selfS:Value->Bool
 | .bool _| .int _ _| .string _| .pointer none| .slice none _ _| .map none| .nilFunc| .nilIface=>true
 |_=>false
def selfV:Value->Bool
 | .agg cs=>cs.toList.all selfS
 | .tuple vs=>vs.size==0
 |v=>selfS v
def W6(P:Program)(t:TypeId):Option (List Value):=
 match a4P P t with
 |some v=>if selfV v && v.cells.toList.all selfS && (v.cells.size==P.cellsOf t)then some v.cells.toList else none
 |none=>none
def a8G(P:Program)(t:TypeId):Option Value:=
 match a4P P t with
 |some v=>if selfV v then some v else none
 |none=>none
def N3(P:Program)(t:TypeId):Bool:=(P.underlying t).isSome
def skT(P:Program)(t:TypeId):Option SK:=
 match P.underlying t with
 |some .bool=>some .bool
 |some (.int _)=>some .int
 |some .string=>some .str
 |_=>none
def a2B(P:Program):List Field->Option (List SK)
 | []=>some []
 |f::fs=>(skT P f.type).bind fun k=>(a2B P fs).map fun l=>k::l
def a0a(P:Program)(t:TypeId):Option (List SK):=
 match P.underlying t with
 |some (.struct fs)=>
  if(fs.toList.all fun f=>f.name != "_") && (fs.toList.map (·.offset)==List.range fs.size) && !P.stoodInHeld t && !P.eqGuardType P.depth t then a2B P fs.toList else none
 |_=>none
def a4S(P:Program)(t:TypeId):Option KK:=
 match skT P t with
 |some k=>some (.one k)
 |none=>(a0a P t).map .agg
def X1(P:Program)(fs:Array Field):List (Nat×Value)->Option (List (Nat×Nat×Value))
 | []=>some []
 | (i,v)::r=>match fs[i]? with
  |some f=>(X1 P fs r).map fun l=>(f.offset,P.cellsOf f.type,v)::l
  |none=>none
def b6O(P:Program)(name:String)(t:TypeId):Option FuncId:=
 match P.info? t,P.underlying t with
 |some i,some (.pointer _)=>match i.methods.find? (·.name==name)with
  |some m=>if m.path.isEmpty then match m.func with
   |some (f,true)=>some f
   |_=>none
   else none
  |none=>none
 |_,_=>none
def c7m(P:Program)(name:String):List (TypeId×FuncId):=(List.range P.types.size).filterMap fun t=>(b6O P name t).map fun f=>(t,f)
def a3c(tab:List (TypeId×FuncId))(v:Value):Value:=
 match v with
 | .iface t x=>match tab.find? fun p=>Nat.beq p.1 t with
  |some p=> .func (.func p.2) #[x] #[]
  |none=>unk
 |_=>unk
def a3H(want:Array (String×TypeId))(got:Array Method):Bool:=want.toList.all fun x=>got.any fun m=>m.name==x.1 && m.sig==x.2
def b7t(P:Program)(want:Array (String×TypeId)):List TypeId:=(List.range P.types.size).filter fun t=>match P.info? t with
 |some i=>a3H want i.methods
 |none=>false
def a8m(P:Program)(t:TypeId):Bool:=match P.info? t with
 |some j=>j.size !=0 && P.cellsOf t !=0 && liesAt P P.depth t 1 0 t 1
 |none=>false
def D9(P:Program)(o:Oper)(ρ:Operand->Value):COp:=
 match o.op with
 | .move x| .assign x=> .mv (ρ x)
 | .pick c a b=> .pick (ρ c) (ρ a) (ρ b)
 | .alloc t=>match W6 P t with
  |some z=> .alloc t z
  |none=> .bad
 | .box t x=> .box t (ρ x)
 | .build t ps=>match W6 P t,P.underlying t with
  |some z,some (.struct fs)=>if fs.toList.all fun f=>(P.info? f.type).isSome then match X1 P fs (ps.toList.map fun(i,x)=>(i,ρ x))with
   |some l=> .build z l
   |none=> .bad
   else .bad
  |some z,some (.array _ e)=>if N3 P e then .build z (ps.toList.map fun(i,x)=>(i*P.cellsOf e,P.cellsOf e,ρ x))else .bad
  |_,_=> .bad
 | .buildSlice t n ps=>match P.underlying t with
  |some (.slice e)=>match W6 P e with
   |some z=>if n*P.cellsOf e<=16777216/\z.length=P.cellsOf e then .buildSlice e n z (ps.toList.map fun(i,x)=>(i*P.cellsOf e,P.cellsOf e,ρ x))else .bad
   |none=> .bad
  |_=> .bad
 | .load t a=>if N3 P t then .load (a3s P t) (ρ a)else .bad
 | .store t a x=>if N3 P t then .store (P.cellsOf t) (ρ a) (ρ x)else .bad
 | .nilCheck x=> .nilCheck (ρ x)
 | .binOp op t x y _=>match P.underlying t with
  |some (.int _)|some .string=> .bin op (ρ x) (ρ y)
  |some .bool=>match op with
   | .eql=> .eqK .bool false (ρ x) (ρ y)
   | .neq=> .eqK .bool true (ρ x) (ρ y)
   |_=> .bad
  |some (.pointer e)=>if(P.info? e).isSome then match op with
   | .eql=> .eqK .ptr false (ρ x) (ρ y)
   | .neq=> .eqK .ptr true (ρ x) (ρ y)
   |_=> .bad
   else .bad
  |some (.slice _)=>match op with
   | .eql=> .eqK .slice false (ρ x) (ρ y)
   | .neq=> .eqK .slice true (ρ x) (ρ y)
   |_=> .bad
  |some (.map _ _)=>match op with
   | .eql=> .eqK .map false (ρ x) (ρ y)
   | .neq=> .eqK .map true (ρ x) (ρ y)
   |_=> .bad
  |some (.func _ _ _)=>match op with
   | .eql=> .eqK .func false (ρ x) (ρ y)
   | .neq=> .eqK .func true (ρ x) (ρ y)
   |_=> .bad
  |some (.struct _)=>match a0a P t with
   |some ks=>match op with
    | .eql=> .eqAgg false ks (ρ x) (ρ y)
    | .neq=> .eqAgg true ks (ρ x) (ρ y)
    |_=> .bad
   |none=> .bad
  |_=> .bad
 | .unOp op _ x=> .un op (ρ x)
 | .convert s d x=>match P.underlying s,P.underlying d with
  |some (.int _),some (.int k)=> .conv k (ρ x)
  |some .string,some .string=> .convSame (ρ x)
  |some .string,some (.slice e)=>match P.underlying e with
   |some (.int .u8)=>if P.cellsOf e=1 then .toBytes e (ρ x)else .bad
   |_=> .bad
  |some (.slice e),some .string=>match P.underlying e with
   |some (.int .u8)=> .toStr (ρ x)
   |_=> .bad
  |some (.pointer t),some .unsafePointer=>if a8m P t then .ptrSame t (P.cellsOf t) (ρ x)else .bad
  |some .unsafePointer,some (.pointer t)=>if a8m P t then .ptrSame t (P.cellsOf t) (ρ x)else .bad
  |_,_=> .bad
 | .makeFunc (.func f) first captured=> .makeFunc f (first.toList.map ρ) (captured.toList.map ρ)
 | .makeMap _ none=> .makeMap
 | .makeMap t (some (.const (.int _ _)))=>match P.underlying t with
  |some (.map _ _)=> .makeMap
  |_=> .bad
 | .makeSlice t l c=>match P.underlying t with
  |some (.slice e)=>match W6 P e with
   |some z=> .makeSlice e (P.cellsOf e) (P.bytesOf e) z (ρ l) (ρ c)
   |none=> .bad
  |_=> .bad
 | .slice t x lo hi none=>match P.underlying t with
  |some .string=> .sliceStr (ρ x) (lo.map ρ) (hi.map ρ)
  |some (.slice e)=>if N3 P e then .slice e (P.cellsOf e) (ρ x) (lo.map ρ) (hi.map ρ)else .bad
  |some (.array n e)=>if N3 P e then .sliceArr n (P.cellsOf e) (ρ x) (lo.map ρ) (hi.map ρ)else .bad
  |_=> .bad
 | .slice t x lo hi (some mx)=>match P.underlying t with
  |some (.array n e)=>if N3 P e then .sliceArr3 n (P.cellsOf e) (ρ x) (lo.map ρ) (hi.map ρ) (ρ mx)else .bad
  |some (.slice e)=>if N3 P e then .slice3 e (P.cellsOf e) (ρ x) (lo.map ρ) (hi.map ρ) (ρ mx)else .bad
  |_=> .bad
 | .makeInterface t x=>match P.underlying t with
  |some (.interface _)=> .bad
  |some _=> .mv (.iface t (ρ x))
  |none=> .bad
 | .typeAssert x _ t true=>match P.underlying t,a8G P t with
  |some (.interface want),some z=> .assertI P.types.size (b7t P want) z (ρ x)
  |_,_=> .bad
 | .fieldAddr t x i=>match P.underlying t with
  |some (.struct fs)=>match fs[i]? with
   |some f=>if P.cellsOf f.type=0 then .bad else .fieldAddr f.offset (ρ x)
   |none=> .bad
  |_=> .bad
 | .field t x i=>match P.underlying t with
  |some (.struct fs)=>match fs[i]? with
   |some f=>if N3 P f.type then .field f.offset (a3s P f.type) (ρ x)else .bad
   |none=> .bad
  |_=> .bad
 | .indexAddr t x i=>match P.underlying t with
  |some (.slice e)=>if N3 P e then .indexSl (P.cellsOf e) (ρ x) (ρ i)else .bad
  |some (.array n e)=>if N3 P e then .indexArr n (P.cellsOf e) (ρ x) (ρ i)else .bad
  |_=> .bad
 | .index t x i=>match P.underlying t with
  |some .string=> .indexStr (ρ x) (ρ i)
  |some (.array n e)=>if N3 P e then .indexAgg n (P.cellsOf e) (a3s P e) (ρ x) (ρ i)else .bad
  |_=> .bad
 | .extract x i=> .extract (ρ x) i
 | .lookup t m k ok=>match P.underlying t with
  |some (.map q e)=>match a8G P e,a4S P q with
   |some z,some kk=> .lookup kk z ok (ρ m) (ρ k)
   |_,_=> .bad
  |_=> .bad
 | .mapUpdate t m k v=>match P.underlying t with
  |some (.map q _)=>match a4S P q with
   |some kk=> .mapUpdate kk (ρ m) (ρ k) (ρ v)
   |none=> .bad
  |_=> .bad
 | .mapEntry t m k=>match P.underlying t with
  |some (.map q e)=>match a8G P e,a4S P q with
   |some z,some kk=> .mapEntry kk z (ρ m) (ρ k)
   |_,_=> .bad
  |_=> .bad
 | .entryStore _ m s v=> .entryStore (ρ m) (ρ s) (ρ v)
 | .range t x=>match P.underlying t with
  |some .string=> .range (ρ x)
  |some (.map _ _)=> .rangeMap (ρ x)
  |_=> .bad
 | .next x true=> .nextStr (ρ x)
 | .call ⟨.builtin b,args,ts⟩=>match b,args.toList,ts.toList with
  | .len,[x],t::_=>match P.underlying t with
   |some .string=> .lenStr (ρ x)
   |some (.slice _)=> .lenSl (ρ x)
   |some (.map _ _)=> .lenMap (ρ x)
   |some (.array n _)=> .const (.int .i64 n)
   |_=> .bad
  | .append,[x,y],[t,u]=>match P.underlying t,P.underlying u with
   |some (.slice _),some (.int _)=> .bad
   |some (.slice e),some _=>match W6 P e with
    |some _=> .append e (P.cellsOf e) (P.bytesOf e) (ρ x) (ρ y)
    |none=> .bad
   |_,_=> .bad
  | .copy,[x,y],t::_=>match P.underlying t with
   |some (.slice e)=>if N3 P e then .copy (P.cellsOf e) (ρ x) (ρ y)else .bad
   |_=> .bad
  | .clear,[x],t::_=>match P.underlying t with
   |some (.slice e)=>match W6 P e with
    |some z=> .clearSl z (ρ x)
    |none=> .bad
   |_=> .bad
  | .unsafeSliceData,[x],t::_=>match P.underlying t with
   |some (.slice _)=> .sliceData (ρ x)
   |_=> .bad
  | .unsafeString,[x,y],[t,_]=>match P.underlying t with
   |some (.pointer e)=>match P.underlying e with
    |some (.int .u8)=>if P.cellsOf e=1 then .unsafeStr e (ρ x) (ρ y)else .bad
    |_=> .bad
   |_=> .bad
  | .min,xs,_=> .minmax false (xs.map ρ)
  | .max,xs,_=> .minmax true (xs.map ρ)
  |_,_,_=> .bad
 |_=> .bad
def COp.plain:COp->COp
 | .call _ _| .callv _ _=> .bad
 |o=>o
def b1c(P:Program)(f:FuncId):Bool:=match P.funcs[f]? with
 |some F=>F.body.isNone && F.name== "internal/abi.NoEscape" && F.origin== ""
 |none=>false
def b2o:List Value->COp
 | [x]=> .mv x
 |_=> .bad
def F0(P:Program)(o:Oper)(ρ:Operand->Value):COp:=
 match o.op with
 | .call ⟨.value (.func f),args,_⟩=>if b1c P f then b2o (args.toList.map ρ)else .call f (args.toList.map ρ)
 | .call ⟨.value f,args,_⟩=> .callv (ρ f) (args.toList.map ρ)
 | .call ⟨.invoke r name,args,_⟩=> .callv (a3c (c7m P name) (ρ r)) (args.toList.map ρ)
 |_=>(D9 P o ρ).plain
structure Pers where
 base:Nat
 more:List Nat
 size:Nat
 ds:List Deferred
def Pers.has(p:Pers)(t:Nat):Bool:=Nat.blt t p.base ||p.more.elem t
def GLN:Nat:=0
def D4(p:Pers)(e l:a7):Operand->Value
 | .tmp t=>if p.has t then e t else l t
 | .const v=>if selfV v then v else unk
 | .global g=>if Nat.blt g GLN then .pointer (some ⟨g,0,none⟩)else unk
 | .func f=> .func (.func f) #[] #[]
inductive Kind where
 |pure|alloc|read|write
 deriving DecidableEq
def D7:COp->Kind
 | .alloc _ _| .box _ _| .buildSlice _ _ _ _| .makeMap| .makeSlice _ _ _ _ _ _| .toBytes _ _=> .alloc
 | .load _ _| .ptrSame _ _ _| .toStr _| .lookup _ _ _ _ _| .lenMap _| .slice _ _ _ _ _| .sliceArr _ _ _ _ _| .sliceArr3 _ _ _ _ _ _| .slice3 _ _ _ _ _ _=> .read
 | .store _ _ _| .append _ _ _ _ _| .copy _ _ _| .clearSl _ _| .mapUpdate _ _ _ _| .mapEntry _ _ _ _| .entryStore _ _ _| .range _| .rangeMap _| .nextStr _
 | .call _ _| .callv _ _| .bad| .unsafeStr _ _ _=> .write
 |_=> .pure
def M4(p:Pers)(e l:a7)(d:Option Tmp)(v:Value):a7×a7:=
 match d with
 |none=>(e,l)
 |some t=>if p.has t then(e.upd t v,l)else(e,l.upd t v)
def a0H(p:Pers)(d:Option Tmp):Bool:=
 match d with
 |none=>true
 |some t=>Nat.blt t p.size
def a2f(P:Program)(p:Pers)(all:Array Oper)(o:Oper)(e l:a7)(k:Value->Reg):Reg:=
 if a0H p o.dst then
  match o.guard with
  |none=> .op (F0 P o (D4 p e l)) k
  |some (j,w)=>match(all[j]?).bind (·.dst)with
   |some t=> .opg (D4 p e l (.tmp t)) w (F0 P o (D4 p e l)) k
   |none=> .op .bad k
 else .op .bad k
def a0O(P:Program)(p:Pers)(all:Array Oper):List Oper->a7->a7->Reg
 | [],e,_=> .done e
 |o::rest,e,l=>a2f P p all o e l fun v=>a0O P p all rest (M4 p e l o.dst v).1 (M4 p e l o.dst v).2
def a5b(ops:Array Oper):List (List Nat):=
 ops.toList.foldl (fun acc o=>acc++[((o.after.toList.filter (Region.binds .any)).flatMap fun e=>e.on::acc.getD e.on []).eraseDups]) []
def a2L(ops:Array Oper)(ah:List (List Nat)):Bool:=
 (List.range ops.size).all fun j=>match ops[j]? with
  |some o=>((ah.getD j []).all fun i=>Nat.blt i j && o.after.toList.any fun e=>Region.binds .any e && (e.on==i || (ah.getD e.on []).elem i)) &&
   o.after.toList.all fun e=> !Region.binds .any e ||Nat.blt e.on j
  |none=>false
def a5c(ops:Array Oper)(ah:List (List Nat)):Bool:=
 (List.range ops.size).all fun j=>(List.range j).all fun i=>(ah.getD j []).elem i ||
  match ops[i]?,ops[j]? with
  |some a,some b=>a.apart ops b
  |_,_=>false
structure Hist where
 no:Nat
 g:Option (Value×Bool)
 o:COp
 v:Value
def e1z:List Hist->Reg->Reg
 | [],k=>k
 |x::l,k=> .chk x.g none x.o x.v (e1z l k)
def b1V(x:Hist):List (Nat×Heap)->Reg->Reg
 | [],k=>k
 |s::l,k=> .chk x.g (some s.2) x.o x.v (b1V x l k)
def a0D(p:Pers)(all:Array Oper)(o:Oper)(e l:a7):Option (Value×Bool):=
 match o.guard with
 |none=>none
 |some (j,w)=>match(all[j]?).bind (·.dst)with
  |some t=>some (D4 p e l (.tmp t),w)
  |none=>none
def W4(P:Program)(p:Pers)(all:Array Oper)(ah:List (List Nat)):List Oper->Nat->a7->a7->List Hist->List (Nat×Heap)->Reg
 | [],_,e,_,_,_=> .done e
 |o::rest,i,e,l,hist,snaps=>
  match D7 (F0 P o (D4 p e l))with
  | .write=>
   if snaps.all fun s=>(ah.getD i []).elem s.1 then
    .snap fun h=>a2f P p all o e l fun v=>e1z (hist.filter fun r=> !(ah.getD i []).elem r.no)
     (W4 P p all ah rest (i+1) (M4 p e l o.dst v).1 (M4 p e l o.dst v).2 hist ((i,h)::snaps))
   else .op .bad fun _=> .done e
  | .read=>a2f P p all o e l fun v=>b1V ⟨i,a0D p all o e l,F0 P o (D4 p e l),v⟩ (snaps.filter fun s=> !(ah.getD i []).elem s.1)
    (W4 P p all ah rest (i+1) (M4 p e l o.dst v).1 (M4 p e l o.dst v).2 (⟨i,a0D p all o e l,F0 P o (D4 p e l),v⟩::hist) snaps)
  |_=>a2f P p all o e l fun v=>W4 P p all ah rest (i+1) (M4 p e l o.dst v).1 (M4 p e l o.dst v).2 hist snaps
def I8(P:Program)(p:Pers):Code->CC
 | .skip=> .skip
 | .region _ ops false=> .region fun e=>a0O P p ops ops.toList e fun _=>unk
 | .region _ ops true=>
  if a2L ops (a5b ops) && a5c ops (a5b ops) && P.follows .mixedOrders then
   .region fun e=>W4 P p ops (a5b ops) ops.toList 0 e (fun _=>unk) [] []
  else .bad
 | .seq a b=> .seq (I8 P p a) (I8 P p b)
 | .cond c a b=> .cond (fun e=>D4 p e (fun _=>unk) c) (I8 P p a) (I8 P p b)
 | .block id b=> .block id (I8 P p b)
 | .loop b=> .loop (I8 P p b)
 | .exit id=> .exit id
 | .ret=> .ret
 | .scope b=>I8 P p b
 | .label _=> .skip
 |_=> .bad
def a8T(P:Program):ResultVar->Option RV
 | .tmp t=>some (.t t)
 | .cell a t=>if N3 P t then some (.c a (a3s P t))else none
def RV.slot:RV->Nat
 | .t n=>n
 | .c n _=>n
def d9o(c:Code):Option (FuncId×Array Operand×Nat):=
 match c with
 | .region _ ops false=>match ops.toList with
  | [mk,df]=>match mk.op,mk.guard,mk.dst,df.op,df.guard,df.dst with
   | .makeFunc (.func g) first caps,none,some t,.defer ⟨.value (.tmp t'),args,_⟩,none,none=>if first.isEmpty && args.isEmpty && Nat.beq t t' then some (g,caps,t)else none
   |_,_,_,_,_,_=>none
  |_=>none
 |_=>none
def a0t:Code->Option (Code×(FuncId×Array Operand×Nat)×Code)
 | .seq a b=>match d9o a with
  |some r=>some (.skip,r,b)
  |none=>(a0t b).map fun r=>(.seq a r.1,r.2)
 |_=>none
structure RngI where
 id:Nat
 g:Operand
 ps:Array Tmp
 asg:Code
 body:Code
def N6:Code->Option (List Code×RngI×List Code)
 | .block id (.rangeFunc g ps asg body)=>some ([],⟨id,g,ps,asg,body⟩,[])
 | .seq a b=>match N6 a with
  |some (pre,r,post)=>some (pre,r,post++[b])
  |none=>(N6 b).map fun r=>(a::r.1,r.2.1,r.2.2)
 |_=>none
def b2s(P:Program)(g:FuncId):Bool:=match P.funcs[g]? with
 |some F=>match F.body with
  |some c=>(a0t c).isNone && (N6 c).isNone
  |none=>false
 |none=>false
def a1A(P:Program)(p:Pers):List Code->CC
 | []=> .skip
 |c::cs=> .seq (I8 P p c) (a1A P p cs)
def d0u(P:Program)(p:Pers)(c:Code):CC:=match a0t c with
 |some (pre,(g,caps,t),post)=>if b2s P g && Nat.blt t p.size && !(p.has t)then .dfr (I8 P p pre) g (fun e=>caps.toList.map (D4 p e (fun _=>unk))) (I8 P p post)else .bad
 |none=>match N6 c with
  |some (pre,r,post)=>if r.ps.toList.all fun t=>Nat.blt t p.size && p.has t then .rng (a1A P p pre) r.id (fun e=>D4 p e (fun _=>unk) r.g) r.ps.toList (I8 P p r.asg) (I8 P p r.body) (a1A P p post)else .bad
  |none=>I8 P p c
def z7(P:Program)(p:Pers)(f:Func):Option CFn:=
 match f.body,f.results.toList.mapM (a8T P)with
 |some c,some rs=>if Nat.ble p.size f.ntmps && (rs.all fun r=>p.has r.slot) && Nat.ble rs.length 3 && !(f.name== "runtime.NumGoroutine") && p.ds.isEmpty then some ⟨d0u P p c,rs⟩else none
 |_,_=>none
structure Loc where
 blk:Nat
 sh:Nat
 tot:Nat
 unit:Nat
 grow:Bool
abbrev Map:=Nat->Option Loc
inductive VR (m:Map):Value->Value->Prop
 |bool (b:Bool):VR m (.bool b) (.bool b)
 |int (k:IntKind) (n:Int):VR m (.int k n) (.int k n)
 |float (k:FloatKind) (n:Nat):VR m (.float k n) (.float k n)
 |complex (k:FloatKind) (a b:Nat):VR m (.complex k a b) (.complex k a b)
 |string (s:ByteArray):VR m (.string s) (.string s)
 |nilPtr:VR m (.pointer none) (.pointer none)
 |ptr (b o:Nat) (L:Loc) (h:m b=some L):VR m (.pointer (some ⟨b,o,none⟩)) (.pointer (some ⟨L.blk,L.sh+o,none⟩))
 |nilSlice (n c:Nat):VR m (.slice none n c) (.slice none n c)
 |slice (b o n c c' :Nat) (L:Loc) (h:m b=some L) (hn:n<=c) (hc:c<=c') (hg:L.grow=true->L.sh+o+c' *L.unit<=L.tot):
   VR m (.slice (some ⟨b,o,none⟩) n c) (.slice (some ⟨L.blk,L.sh+o,none⟩) n c')
 |slice0 (b o:Nat) (L:Loc) (a' :Addr) (h:m b=some L):VR m (.slice (some ⟨b,o,none⟩) 0 0) (.slice (some a') 0 0)
 |nilMap:VR m (.map none) (.map none)
 |map (r:Nat) (L:Loc) (h:m r=some L):VR m (.map (some r)) (.map (some L.blk))
 |nilFunc:VR m .nilFunc .nilFunc
 |func (f:FuncId) (a a' c c' :Array Value) (ha:a.size=a'.size) (hav:∀(i:Nat) (x y:Value),a[i]? =some x->a'[i]? =some y->VR m x y)
   (hc:c.size=c'.size) (hcv:∀(i:Nat) (x y:Value),c[i]? =some x->c'[i]? =some y->VR m x y):VR m (.func (.func f) a c) (.func (.func f) a' c')
 |yield (b:Nat) (L:Loc) (h:m b=some L):VR m (.func (.yield b) #[] #[]) (.func (.yield L.blk) #[] #[])
 |nilIface:VR m .nilIface .nilIface
 |iface (t:TypeId) (v v' :Value) (h:VR m v v'):VR m (.iface t v) (.iface t v')
 |agg (a a' :Array Value) (ha:a.size=a'.size) (hav:∀(i:Nat) (x y:Value),a[i]? =some x->a'[i]? =some y->VR m x y):VR m (.agg a) (.agg a')
 |tuple (a a' :Array Value) (ha:a.size=a'.size) (hav:∀(i:Nat) (x y:Value),a[i]? =some x->a'[i]? =some y->VR m x y):VR m (.tuple a) (.tuple a')
 |unk (v:Value):VR m unk v
def Ext(m m' :Map):Prop:=∀b L,m b=some L->m' b=some L
theorem Ext.refl(m:Map):Ext m m:=fun _ _ h=>h
theorem Ext.trans{a b c:Map}(h:Ext a b)(k:Ext b c):Ext a c:=fun x L e=>k x L (h x L e)
theorem VR.ext{m m' :Map}(hm:Ext m m'){v v' :Value}(h:VR m v v'):VR m' v v' :=by
 induction h with
 |bool b=>exact .bool b
 |int k n=>exact .int k n
 |float k n=>exact .float k n
 |complex k a b=>exact .complex k a b
 |string s=>exact .string s
 |nilPtr=>exact .nilPtr
 |ptr b o L h=>exact .ptr b o L (hm _ _ h)
 |nilSlice n c=>exact .nilSlice n c
 |slice b o n c c' L h hn hc hg=>exact .slice b o n c c' L (hm _ _ h) hn hc hg
 |slice0 b o L a' h=>exact .slice0 b o L a' (hm _ _ h)
 |nilMap=>exact .nilMap
 |map r L h=>exact .map r L (hm _ _ h)
 |nilFunc=>exact .nilFunc
 |func f a a' c c' ha hav hc hcv ih1 ih2=>exact .func f a a' c c' ha ih1 hc ih2
 |yield b L h=>exact .yield b L (hm _ _ h)
 |nilIface=>exact .nilIface
 |iface t v v' h ih=>exact .iface t v v' ih
 |agg a a' ha hav ih=>exact .agg a a' ha ih
 |tuple a a' ha hav ih=>exact .tuple a a' ha ih
 |unk v=>exact .unk v
def VL(m:Map)(a b:List Value):Prop:=a.length=b.length/\∀(i:Nat) (x y:Value),a[i]? =some x->b[i]? =some y->VR m x y
theorem VL.nil(m:Map):VL m [] []:=⟨rfl,fun i x y h=>by simp at h⟩
theorem VL.cons{m:Map}{a b:Value}{x y:List Value}(h:VR m a b)(k:VL m x y):VL m (a::x) (b::y):=by
 refine⟨by simp[k.1],fun i u v hu hv=>?_⟩
 cases i with
 |zero=>simp at hu hv;subst hu;subst hv;exact h
 |succ i=>exact k.2 i u v (by simpa using hu) (by simpa using hv)
theorem VL.head{m:Map}{a b:Value}{x y:List Value}(h:VL m (a::x) (b::y)):VR m a b:=h.2 0 a b rfl rfl
theorem VL.tail{m:Map}{a b:Value}{x y:List Value}(h:VL m (a::x) (b::y)):VL m x y:=
 ⟨by have:=h.1;simpa using this,fun i u v hu hv=>h.2 (i+1) u v (by simpa using hu) (by simpa using hv)⟩
theorem VL.of_cons{m:Map}{a:Value}{x:List Value}{l:List Value}(h:VL m (a::x) l):∃b y,l=b::y/\VR m a b/\VL m x y:=by
 cases l with
 |nil=>have:=h.1;simp at this
 |cons b y=>exact⟨b,y,rfl,h.head,h.tail⟩
theorem VL.of_nil{m:Map}{l:List Value}(h:VL m [] l):l=[]:=by
 cases l with
 |nil=>rfl
 |cons b y=>have:=h.1;simp at this
theorem VL.append{m:Map}:∀{a b x y:List Value},VL m a b->VL m x y->VL m (a++x) (b++y)
 | [],b,_,_,h,k=>by rw[h.of_nil];exact k
 |a::as,l,_,_,h,k=>by
  obtain⟨b,bs,rfl,h1,h2⟩:=h.of_cons
  exact VL.cons h1 (VL.append h2 k)
theorem VL.ext{m m' :Map}(hm:Ext m m'){a b:List Value}(h:VL m a b):VL m' a b:=⟨h.1,fun i x y hx hy=>(h.2 i x y hx hy).ext hm⟩
theorem VL.drop{m:Map}{a b:List Value}(h:VL m a b)(n:Nat):VL m (a.drop n) (b.drop n):=
 ⟨by simp[h.1],fun i x y hx hy=>h.2 (n+i) x y (by simpa using hx) (by simpa using hy)⟩
theorem VL.take{m:Map}{a b:List Value}(h:VL m a b)(n:Nat):VL m (a.take n) (b.take n):=by
 refine⟨by simp[h.1],fun i x y hx hy=>?_⟩
 rw[voz]at hx hy
 split at hx
 ·rename_i hi;rw[if_pos hi]at hy;exact h.2 i x y hx hy
 ·simp at hx
theorem VL.set{m:Map}{a b:List Value}(h:VL m a b){x y:Value}(hx:VR m x y)(n:Nat):VL m (a.set n x) (b.set n y):=by
 refine⟨by simp[h.1],fun i u v hu hv=>?_⟩
 rw[List.getElem?_set]at hu hv
 by_cases hi:n=i
 ·subst hi
  simp only[if_true]at hu hv
  split at hu
  ·split at hv
   ·simp only[uzC]at hu hv;subst hu;subst hv;exact hx
   ·simp at hv
  ·simp at hu
 ·rw[if_neg hi]at hu hv;exact h.2 i u v hu hv
theorem VL.setAt{m:Map}:∀{x y:List Value} {a b:List Value} (n:Nat),VL m a b->VL m x y->VL m (setAt a n x) (setAt b n y)
 | [],l,a,b,n,h,k=>by rw[k.of_nil];exact h
 |u::us,l,a,b,n,h,k=>by
  obtain⟨v,vs,rfl,h1,h2⟩:=k.of_cons
  exact VL.setAt (n+1) (h.set h1 n) h2
theorem VL.getD{m:Map}{a b:List Value}(h:VL m a b)(i:Nat)(d:Value)(hd:VR m d d):VR m (a.getD i d) (b.getD i d):=by
 by_cases hi:i<a.length
 ·have hb:i<b.length:=by have:=h.1;omega
  simp only[vcz,uzF hi,uzF hb,vFz]
  exact h.2 i _ _ (uzF hi) (uzF hb)
 ·have hb:¬i<b.length:=by have:=h.1;omega
  simp only[vcz,vmz (vGz hi),vmz (vGz hb),Option.getD_none]
  exact hd
theorem VL.get{m:Map}{a b:List Value}(h:VL m a b){i:Nat}{x:Value}(hx:a[i]? =some x):∃y,b[i]? =some y/\VR m x y:=by
 have hi:i<a.length:=by
  rcases vMz i a.length with h|h
  ·exact h
  ·rw[vmz h]at hx;simp at hx
 have hb:i<b.length:=by have:=h.1;omega
 exact⟨_,uzF hb,h.2 i _ _ hx (uzF hb)⟩
theorem VR.selfS{m:Map}{v:Value}(h:Can.selfS v=true):VR m v v:=by
 unfold Can.selfS at h
 split at h<;>first|constructor| (exact absurd h (by simp))
theorem VL.selfS{m:Map}:∀{l:List Value},l.all Can.selfS=true->VL m l l
 | [],_=>VL.nil m
 |a::l,h=>by
  simp only[List.all_cons,vjz]at h
  exact VL.cons (VR.selfS h.1) (VL.selfS h.2)
theorem VR.selfV{m:Map}{v:Value}(h:Can.selfV v=true):VR m v v:=by
 unfold Can.selfV at h
 split at h
 ·rename_i cs
  refine .agg cs cs rfl fun i x y hx hy=>?_
  rw[hx]at hy;obtain rfl:=uzA hy
  have:=VL.selfS (m:=m) h
  exact this.2 i x x (by simpa using hx) (by simpa using hx)
 ·rename_i vs
  have hv:vs= #[]:=by simpa using h
  subst hv
  exact .tuple #[] #[] rfl (fun i x y h=>by simp at h)
 ·exact VR.selfS h
def Obj.wr:Obj->Bool
 | .gone| .cells _ _ .ro=>false
 |_=>true
def Obj.live:Obj->Bool
 | .gone=>false
 |_=>true
def b1u(m:Map)(a b:MapEntry):Prop:=a.born=b.born/\VR m a.key b.key/\VR m a.val b.val
def X5(m:Map)(a b:List MapEntry):Prop:=a.length=b.length/\∀(i:Nat) (x y:MapEntry),a[i]? =some x->b[i]? =some y->b1u m x y
def stL:Nat->LoopState
 |0=> .ready
 |1=> .busy
 |_=> .done
def pdL:Option X->Option Code
 |none=>none
 |some .normal=>none
 |some .ret=>some .ret
 |some (.exit i)=>some (.exit i)
def a3q(P:Program)(m:Map)(L:Loc)(w:World):Obj->Prop
 | .gone=>True
 | .loop st pd=>∃r:Loop,w.heap[L.blk]? =some (.loop r)/\r.state=stL st/\r.pending=pdL pd/\L.sh=0
 | .cells c e g=>(c=[]/\g=.ro/\L.grow=false)\/∃(c' :Array Value) (fr:Nat×Nat),w.heap[L.blk]? =some (.cells c' e fr)/\c'.size=L.tot/\L.sh+c.length<=L.tot/\
   VL m c ((c'.toList.drop L.sh).take c.length)/\(g≠.ro->∀i,i<L.tot->¬(fr.1<=i/\i<fr.2))/\L.unit=P.cellsOf e/\L.grow=(g==.grow)/\(g≠.ro->c.all E9=true)/\(g=.fix->L.sh=0/\L.tot=c.length)
 | .map es clock=>∃es' :Array MapEntry,w.heap[L.blk]? =some (.map es' clock)/\X5 m es es'.toList
 | .siter s pos=>w.heap[L.blk]? =some (.stringIter s pos)/\L.sh=0
 | .miter none since seen st=>w.heap[L.blk]? =some (.mapIter none since seen.toArray st)/\L.sh=0
 | .miter (some r) since seen st=>∃K,m r=some K/\w.heap[L.blk]? =some (.mapIter (some K.blk) since seen.toArray st)/\L.sh=0
def K7(m:Map):Prop:=∀g,Nat.blt g GLN=true->∃L,m g=some L/\L.blk=g/\L.sh=0
theorem K7.ext{m m' :Map}(h:K7 m)(hm:Ext m m'):K7 m' :=fun g hg=>by
 obtain⟨L,h1,h2⟩:=h g hg
 exact⟨L,hm _ _ h1,h2⟩
theorem K7.rel{m:Map}(h:K7 m)(g:Nat):VR m (if Nat.blt g GLN then .pointer (some ⟨g,0,none⟩)else unk) (.pointer (some ⟨g,0,none⟩)):=by
 split
 ·rename_i hg
  obtain⟨L,h1,h2,h3⟩:=h g hg
  have:=VR.ptr (m:=m) g 0 L h1
  rw[h2,h3]at this
  exact this
 ·exact .unk _
structure LoopI where
 L:Loc
 r:Loop
 m:Map
def e0d(a b:Loop):Prop:=a.fn=b.fn/\a.tmps=b.tmps/\a.params=b.params/\a.assign=b.assign/\a.body=b.body
structure Stay where
 keep:Nat->Prop
 far:Nat->Prop
 lp:Nat->Option LoopI
structure Emb(P:Program)(S:Stay)(m:Map)(h:Heap)(w:World):Prop where
 lt:∀b L,m b=some L->(h.obj b).live=true->L.blk<w.heap.size
 inj:∀b c L K,m b=some L->m c=some K->(h.obj b).live=true->(h.obj c).live=true->L.blk=K.blk->b=c
 obj:∀b L,m b=some L->a3q P m L w (h.obj b)
 prot:∀b L,m b=some L->(h.obj b).wr=true->¬S.keep L.blk
 far:∀b L,m b=some L->(h.obj b).live=true->¬S.far L.blk
 sLt:∀k,S.keep k\/S.far k->k<w.heap.size
 wf:∀b,h.next<=b->h.obj b=.gone
 lp:∀b I,S.lp b=some I->m b=some I.L/\Ext I.m m/\∀st pd,h.obj b=.loop st pd->∀r,w.heap[I.L.blk]? =some (.loop r)->e0d r I.r
structure Wd(S:Stay)(w w' :World):Prop where
 os:w'.os=w.os
 tape:w'.tape=w.tape
 output:w'.output=w.output
 size:w.heap.size<=w'.heap.size
 block:∀k,S.keep k\/S.far k->w'.heap[k]? =w.heap[k]?
theorem Wd.refl(S:Stay)(w:World):Wd S w w:=⟨rfl,rfl,rfl,uzP _,fun _ _=>rfl⟩
theorem Wd.trans{S:Stay}{a b c:World}(h:Wd S a b)(k:Wd S b c):Wd S a c:=
 ⟨k.os.trans h.os,k.tape.trans h.tape,k.output.trans h.output,uzR h.size k.size,fun i hi=>(k.block i hi).trans (h.block i hi)⟩
structure Out(P:Program)(S:Stay)(m:Map)(h:Heap)(w:World)(m' :Map)(h' :Heap)(w' :World):Prop where
 emb:Emb P S m' h' w'
 ext:Ext m m'
 dom:∀b,m' b≠none->m b≠none\/(h.next<=b/\b<h'.next)
 next:h.next<=h'.next
 wd:Wd S w w'
 same:∀b,b<h.next->m b=none->h'.obj b=h.obj b
theorem Out.refl{P:Program}{S:Stay}{m:Map}{h:Heap}{w:World}(e:Emb P S m h w):Out P S m h w m h w:=
 ⟨e,Ext.refl m,fun _ hb=> .inl hb,uzP _,Wd.refl S w,fun _ _ _=>rfl⟩
theorem Out.trans{P:Program}{S:Stay}{m m1 m2:Map}{h h1 h2:Heap}{w w1 w2:World}(a:Out P S m h w m1 h1 w1)(b:Out P S m1 h1 w1 m2 h2 w2):
  Out P S m h w m2 h2 w2:=
 ⟨b.emb,a.ext.trans b.ext,fun x hx=>by
  rcases b.dom x hx with h|h
  ·rcases a.dom x h with h|h
   ·exact .inl h
   ·exact .inr ⟨h.1,uzN h.2 b.next⟩
  ·exact .inr ⟨uzR a.next h.1,h.2⟩,uzR a.next b.next,a.wd.trans b.wd,fun x hx hm=>by
  have h1:m1 x=none:=by
   cases hq:m1 x with
   |none=>rfl
   |some L=>
    exfalso
    rcases a.dom x (by simp[hq])with h|h
    ·exact h hm
    ·omega
  rw[b.same x (uzN hx a.next) h1,a.same x hx hm]⟩
def K6(m:Map)(a b:Nat):Prop:=∀x,a<=x->x<b->m x=none
theorem K6.mono{m:Map}{a b c d:Nat}(h:K6 m a b)(h1:a<=c)(h2:d<=b):K6 m c d:=fun x hx hy=>h x (by omega) (by omega)
theorem K6.out{P:Program}{S:Stay}{m m1:Map}{h h1:Heap}{w w1:World}{b:Nat}(o:Out P S m h w m1 h1 w1)(f:K6 m h.next b):K6 m1 h1.next b:=by
 intro x hx hy
 cases hm:m1 x with
 |none=>rfl
 |some L=>
  exfalso
  rcases o.dom x (by simp[hm])with k|k
  ·exact k (f x (uzR o.next hx) hy)
  ·omega
theorem a3q.ext{P:Program}{m m' :Map}(hm:Ext m m'){L:Loc}{w:World}{o:Obj}(h:a3q P m L w o):a3q P m' L w o:=by
 cases o with
 |gone=>trivial
 |loop st pd=>exact h
 |cells c e g=>
  rcases h with h| ⟨c',fr,h1,h2,h3,h4,h5⟩
  ·exact .inl h
  ·exact .inr ⟨c',fr,h1,h2,h3,h4.ext hm,h5⟩
 |map es clock=>obtain⟨es',h1,h2,h3⟩:=h;exact⟨es',h1,h2,fun i x y hx hy=>⟨(h3 i x y hx hy).1,(h3 i x y hx hy).2.1.ext hm,(h3 i x y hx hy).2.2.ext hm⟩⟩
 |siter s pos=>exact h
 |miter r since seen st=>
  cases r with
  |none=>exact h
  |some r=>obtain⟨K,h1,h2,h3⟩:=h;exact⟨K,hm _ _ h1,h2,h3⟩
theorem a3q.of_block{P:Program}{m:Map}{L:Loc}{w w' :World}{o:Obj}(hb:w'.heap[L.blk]? =w.heap[L.blk]?)(h:a3q P m L w o):a3q P m L w' o:=by
 cases o with
 |gone=>trivial
 |loop st pd=>obtain⟨r,h1,h2⟩:=h;exact⟨r,by rw[hb];exact h1,h2⟩
 |cells c e g=>
  rcases h with h| ⟨c',fr,h1,h2⟩
  ·exact .inl h
  ·exact .inr ⟨c',fr,by rw[hb];exact h1,h2⟩
 |map es clock=>obtain⟨es',h1,h2⟩:=h;exact⟨es',by rw[hb];exact h1,h2⟩
 |siter s pos=>exact⟨by rw[hb];exact h.1,h.2⟩
 |miter r since seen st=>
  cases r with
  |none=>exact⟨by rw[hb];exact h.1,h.2⟩
  |some r=>obtain⟨K,h1,h2,h3⟩:=h;exact⟨K,h1,by rw[hb];exact h2,h3⟩
theorem Emb.of_heap{P:Program}{S:Stay}{m:Map}{h:Heap}{w w' :World}(e:Emb P S m h w)(hw:w'.heap=w.heap):Emb P S m h w' :=
 ⟨fun b L hb hl=>by rw[hw];exact e.lt b L hb hl,e.inj,fun b L hb=>(e.obj b L hb).of_block (by rw[hw]),e.prot,e.far,fun k hk=>by rw[hw];exact e.sLt k hk,e.wf,fun b I hI=>by rw[hw];exact e.lp b I hI⟩
theorem Out.drew{P:Program}{S:Stay}{m:Map}{h:Heap}{w:World}(e:Emb P S m h w)(n:Nat):Out P S m h w m h { w with drawn:=n }:=
 ⟨e.of_heap rfl,Ext.refl m,fun _ hb=> .inl hb,uzP _,⟨rfl,rfl,rfl,uzP _,fun _ _=>rfl⟩,fun _ _ _=>rfl⟩
def Map.put(m:Map)(b:Nat)(L:Loc):Map:=fun x=>if x=b then some L else m x
theorem Map.put_ext{m:Map}{b:Nat}{L:Loc}(hb:m b=none):Ext m (m.put b L):=by
 intro x K hx
 unfold Map.put
 split
 ·rename_i e;subst e;rw[hb]at hx;simp at hx
 ·exact hx
theorem Out.new{P:Program}{S:Stay}{m:Map}{h:Heap}{w w1:World}(e:Emb P S m h w)(o:Obj)(g:Go.Obj)(L:Loc)
  (hfree:m h.next=none) (hb:L.blk=w.heap.size) (hw:w1.heap=w.heap.push g) (hos:w1.os=w.os) (ht:w1.tape=w.tape) (ho:w1.output=w.output)
  (hobj:∀w',w'.heap[w.heap.size]? =some g->a3q P (m.put h.next L) L w' o):
  Out P S m h w (m.put h.next L) (h.new o) w1:=by
 have hx:Ext m (m.put h.next L):=Map.put_ext hfree
 have hold:∀k,k<w.heap.size->w1.heap[k]? =w.heap[k]? :=fun k hk=>by rw[hw,Array.getElem?_push,if_neg (by omega)]
 have hnew:w1.heap[w.heap.size]? =some g:=by rw[hw];simp
 have hsz:w1.heap.size=w.heap.size+1:=by rw[hw];simp
 have hobjn:∀b,b≠h.next->(h.new o).obj b=h.obj b:=fun b hb=>by simp[Heap.new,hb]
 have hputn:∀b,b≠h.next->m.put h.next L b=m b:=fun b hb=>by simp[Map.put,hb]
 have hputs:m.put h.next L h.next=some L:=by simp[Map.put]
 have hobjs:(h.new o).obj h.next=o:=by simp[Heap.new]
 refine⟨⟨?_,?_,?_,?_,?_,?_,?_,fun b I hI=>by
  obtain⟨q1,q2,q3⟩:=e.lp b I hI
  have hbn:b≠h.next:=fun e' =>by rw[e',hfree]at q1;simp at q1
  refine⟨hx _ _ q1,q2.trans hx,fun st pd ho' r hr=>?_⟩
  rw[hobjn b hbn]at ho'
  rw[hold _ (e.lt b I.L q1 (by rw[ho'];rfl))]at hr
  exact q3 st pd ho' r hr⟩,hx,?_,vLz _,⟨hos,ht,ho,by omega,fun k hk=>hold k (e.sLt k hk)⟩,fun b hb3 _=>hobjn b (by omega)⟩
 ·intro b K hbK hlb
  by_cases hbn:b=h.next
  ·subst hbn;rw[hputs]at hbK;obtain rfl:=uzA hbK;omega
  ·rw[hputn b hbn]at hbK;rw[hobjn b hbn]at hlb;have:=e.lt b K hbK hlb;omega
 ·intro b c K J hbK hcJ hlb hlc heq
  by_cases hbn:b=h.next
  ·by_cases hcn:c=h.next
   ·rw[hbn,hcn]
   ·exfalso
    subst hbn;rw[hputs]at hbK;obtain rfl:=uzA hbK
    rw[hputn c hcn]at hcJ;rw[hobjn c hcn]at hlc;have:=e.lt c J hcJ hlc;omega
  ·by_cases hcn:c=h.next
   ·exfalso
    subst hcn;rw[hputs]at hcJ;obtain rfl:=uzA hcJ
    rw[hputn b hbn]at hbK;rw[hobjn b hbn]at hlb;have:=e.lt b K hbK hlb;omega
   ·rw[hputn b hbn]at hbK;rw[hputn c hcn]at hcJ;rw[hobjn b hbn]at hlb;rw[hobjn c hcn]at hlc
    exact e.inj b c K J hbK hcJ hlb hlc heq
 ·intro b K hbK
  by_cases hbn:b=h.next
  ·subst hbn;rw[hputs]at hbK;obtain rfl:=uzA hbK;rw[hobjs];exact hobj w1 hnew
  ·rw[hputn b hbn]at hbK;rw[hobjn b hbn]
   by_cases hl:(h.obj b).live=true
   ·exact((e.obj b K hbK).of_block (hold _ (e.lt b K hbK hl))).ext hx
   ·cases hy:h.obj b with
    |gone=>trivial
    |_=>rw[hy]at hl;exact absurd rfl hl
 ·intro b K hbK hwr hs
  by_cases hbn:b=h.next
  ·subst hbn;rw[hputs]at hbK;obtain rfl:=uzA hbK;have:=e.sLt _ (.inl hs);omega
  ·rw[hputn b hbn]at hbK;rw[hobjn b hbn]at hwr;exact e.prot b K hbK hwr hs
 ·intro b K hbK hwr hs
  by_cases hbn:b=h.next
  ·subst hbn;rw[hputs]at hbK;obtain rfl:=uzA hbK;have:=e.sLt _ (.inr hs);omega
  ·rw[hputn b hbn]at hbK;rw[hobjn b hbn]at hwr;exact e.far b K hbK hwr hs
 ·intro k hk;have:=e.sLt k hk;omega
 ·intro b hb2
  have hb3:h.next+1<=b:=hb2
  rw[hobjn b (by omega)];exact e.wf b (by omega)
 ·intro b hb2
  by_cases hbn:b=h.next
  ·exact .inr ⟨by omega,by show b<h.next+1;omega⟩
  ·rw[hputn b hbn]at hb2;exact .inl hb2
theorem Out.upd{P:Program}{S:Stay}{m:Map}{h:Heap}{w w1:World}(e:Emb P S m h w)(b:Nat)(L:Loc)(o:Obj)(hb:m b=some L)
  (hwr:(h.obj b).wr=true) (hw:∀k,k≠L.blk->w1.heap[k]? =w.heap[k]?) (hsz:w1.heap.size=w.heap.size) (hos:w1.os=w.os) (ht:w1.tape=w.tape) (ho:w1.output=w.output)
  (hobj:a3q P m L w1 o) (hlp:∀st pd,o=.loop st pd->∀I,S.lp b=some I->∀r,w1.heap[L.blk]? =some (.loop r)->e0d r I.r:=by intro _ _ h;cases h):Out P S m h w m (h.upd b o) w1:=by
 have hlv:(h.obj b).live=true:=by
  cases hx:h.obj b with
  |gone=>rw[hx]at hwr;simp[Obj.wr]at hwr
  |_=>rfl
 have hobjn:∀c,c≠b->(h.upd b o).obj c=h.obj c:=fun c hc=>by simp[Heap.upd,hc]
 have hobjs:(h.upd b o).obj b=o:=by simp[Heap.upd]
 refine⟨⟨?_,?_,?_,?_,?_,?_,?_,fun c I hI=>by
  obtain⟨q1,q2,q3⟩:=e.lp c I hI
  refine⟨q1,q2,fun st pd ho' r hr=>?_⟩
  by_cases hcb:c=b
  ·subst hcb
   rw[hobjs]at ho'
   rw[hb]at q1
   have q4:=uzA q1
   exact hlp st pd ho' I hI r (by rw[q4];exact hr)
  ·rw[hobjn c hcb]at ho'
   rw[hw _ fun heq=>hcb (e.inj c b I.L L q1 hb (by rw[ho'];rfl) hlv heq)]at hr
   exact q3 st pd ho' r hr⟩,Ext.refl m,fun _ hb=> .inl hb,uzP _,⟨hos,ht,ho,by omega,fun k hk=>hw k ?_⟩,fun c _ hc=>hobjn c fun hcb=>by rw[hcb,hb]at hc;simp at hc⟩
 ·intro c K hc hlc
  rw[hsz]
  refine e.lt c K hc ?_
  by_cases hcb:c=b
  ·subst hcb;exact hlv
  ·rw[hobjn c hcb]at hlc;exact hlc
 ·intro c d K J hc hd hlc hld heq
  refine e.inj c d K J hc hd ?_ ?_ heq
  ·by_cases hcb:c=b
   ·subst hcb;exact hlv
   ·rw[hobjn c hcb]at hlc;exact hlc
  ·by_cases hdb:d=b
   ·subst hdb;exact hlv
   ·rw[hobjn d hdb]at hld;exact hld
 ·intro c K hc
  by_cases hcb:c=b
  ·subst hcb;rw[hb]at hc;obtain rfl:=uzA hc;rw[hobjs];exact hobj
  ·rw[hobjn c hcb]
   by_cases hlc:(h.obj c).live=true
   ·exact(e.obj c K hc).of_block (hw _ fun heq=>hcb (e.inj c b K L hc hb hlc hlv heq))
   ·cases hx:h.obj c with
    |gone=>trivial
    |_=>rw[hx]at hlc;exact absurd rfl hlc
 ·intro c K hc hwc hs
  by_cases hcb:c=b
  ·subst hcb;exact e.prot c K hc hwr hs
  ·rw[hobjn c hcb]at hwc;exact e.prot c K hc hwc hs
 ·intro c K hc hwc hs
  by_cases hcb:c=b
  ·subst hcb;exact e.far c K hc hlv hs
  ·rw[hobjn c hcb]at hwc;exact e.far c K hc hwc hs
 ·intro k hk;rw[hsz];exact e.sLt k hk
 ·intro c hc
  have hcb:c≠b:=by
   intro hcb;subst hcb
   have:=e.wf c hc;rw[this]at hwr;simp[Obj.wr]at hwr
  rw[hobjn c hcb];exact e.wf c hc
 ·intro heq;subst heq
  rcases hk with hk|hk
  ·exact e.prot b L hb hwr hk
  ·exact e.far b L hb hlv hk
theorem Out.kill{P:Program}{S:Stay}{m:Map}{h:Heap}{w:World}(e:Emb P S m h w)(b:Nat)(hmb:m b≠none):Out P S m h w m (h.upd b .gone) w:=by
 have hobj:∀c,(h.upd b .gone).obj c=.gone\/(h.upd b .gone).obj c=h.obj c:=fun c=>by
  by_cases hc:c=b
  ·left;simp[Heap.upd,hc]
  ·right;simp[Heap.upd,hc]
 refine⟨⟨fun c K hc hl=>e.lt c K hc (by
   rcases hobj c with h1|h1
   ·rw[h1]at hl;simp[Obj.live]at hl
   ·rw[h1]at hl;exact hl),?_,?_,?_,?_,e.sLt,?_,fun c I hI=>by
   obtain⟨q1,q2,q3⟩:=e.lp c I hI
   refine⟨q1,q2,fun st pd ho' r hr=>?_⟩
   rcases hobj c with h1|h1
   ·rw[h1]at ho';cases ho'
   ·rw[h1]at ho';exact q3 st pd ho' r hr⟩,Ext.refl m,fun _ hb=> .inl hb,uzP _,Wd.refl S w,fun c _ hc=>by
  have hcb:c≠b:=fun hcb=>hmb (hcb▸hc)
  simp[Heap.upd,hcb]⟩
 ·intro c d K J hc hd hlc hld heq
  rcases hobj c with h1|h1
  ·rw[h1]at hlc;simp[Obj.live]at hlc
  ·rcases hobj d with h2|h2
   ·rw[h2]at hld;simp[Obj.live]at hld
   ·rw[h1]at hlc;rw[h2]at hld;exact e.inj c d K J hc hd hlc hld heq
 ·intro c K hc
  rcases hobj c with h1|h1
  ·rw[h1];trivial
  ·rw[h1];exact e.obj c K hc
 ·intro c K hc hw
  rcases hobj c with h1|h1
  ·rw[h1]at hw;simp[Obj.wr]at hw
  ·rw[h1]at hw;exact e.prot c K hc hw
 ·intro c K hc hw
  rcases hobj c with h1|h1
  ·rw[h1]at hw;simp[Obj.live]at hw
  ·rw[h1]at hw;exact e.far c K hc hw
 ·intro c hc
  rcases hobj c with h1|h1
  ·exact h1
  ·rw[h1];exact e.wf c hc
theorem Out.take{P:Program}{S:Stay}{m:Map}{h:Heap}{w w1:World}(e:Emb P S m h w)(b:Nat)(L K:Loc)(o:Obj)(hb:m b=some L)(hwr:(h.obj b).wr=true)
  (hfree:m h.next=none) (hK:K.blk=L.blk) (hw:∀k,k≠L.blk->w1.heap[k]? =w.heap[k]?) (hsz:w1.heap.size=w.heap.size) (hos:w1.os=w.os) (ht:w1.tape=w.tape) (ho:w1.output=w.output)
  (hobj:a3q P (m.put h.next K) K w1 o):Out P S m h w (m.put h.next K) ((h.upd b .gone).new o) w1:=by
 have hlv:(h.obj b).live=true:=by
  cases hx:h.obj b with
  |gone=>rw[hx]at hwr;simp[Obj.wr]at hwr
  |_=>rfl
 have hbn:b≠h.next:=by
  intro hbn;rw[hbn,e.wf h.next (uzP _)]at hwr;simp[Obj.wr]at hwr
 have hx:Ext m (m.put h.next K):=Map.put_ext hfree
 have hputn:∀c,c≠h.next->m.put h.next K c=m c:=fun c hc=>by simp[Map.put,hc]
 have hputs:m.put h.next K h.next=some K:=by simp[Map.put]
 have hos' :((h.upd b .gone).new o).obj h.next=o:=by simp[Heap.new,Heap.upd]
 have hob:((h.upd b .gone).new o).obj b=.gone:=by simp[Heap.new,Heap.upd,hbn]
 have hon:∀c,c≠h.next->c≠b->((h.upd b .gone).new o).obj c=h.obj c:=fun c h1 h2=>by simp[Heap.new,Heap.upd,h1,h2]
 have hne:∀c J,m c=some J->(h.obj c).live=true->c≠b->J.blk≠L.blk:=fun c J hc hl hcb heq=>hcb (e.inj c b J L hc hb hl hlv heq)
 refine⟨⟨?_,?_,?_,?_,?_,?_,?_,fun c I hI=>by
  obtain⟨q1,q2,q3⟩:=e.lp c I hI
  have hcn:c≠h.next:=fun e' =>by rw[e',hfree]at q1;simp at q1
  refine⟨hx _ _ q1,q2.trans hx,fun st pd ho' r hr=>?_⟩
  by_cases hcb:c=b
  ·subst hcb;rw[hob]at ho';cases ho'
  ·rw[hon c hcn hcb]at ho'
   rw[hw _ (hne c I.L q1 (by rw[ho'];rfl) hcb)]at hr
   exact q3 st pd ho' r hr⟩,hx,?_,vLz _,⟨hos,ht,ho,by omega,fun k hk=>hw k fun heq=>by
  rcases hk with hk|hk
  ·exact e.prot b L hb hwr (heq▸hk)
  ·exact e.far b L hb hlv (heq▸hk)⟩,fun c hc3 hc=>hon c (by omega) fun hcb=>by rw[hcb,hb]at hc;simp at hc⟩
 ·intro c J hc hlc
  by_cases hcn:c=h.next
  ·subst hcn;rw[hputs]at hc;obtain rfl:=uzA hc;rw[hsz,hK];exact e.lt b L hb hlv
  ·rw[hputn c hcn]at hc;rw[hsz]
   by_cases hcb:c=b
   ·subst hcb;rw[hob]at hlc;simp[Obj.live]at hlc
   ·rw[hon c hcn hcb]at hlc;exact e.lt c J hc hlc
 ·intro c d J I hc hd hlc hld heq
  by_cases hcn:c=h.next
  ·subst hcn
   by_cases hdn:d=h.next
   ·exact hdn.symm
   ·exfalso
    rw[hputs]at hc;obtain rfl:=uzA hc
    rw[hputn d hdn]at hd
    by_cases hdb:d=b
    ·subst hdb;rw[hob]at hld;simp[Obj.live]at hld
    ·rw[hon d hdn hdb]at hld;exact hne d I hd hld hdb (by rw[<-heq,hK])
  ·rw[hputn c hcn]at hc
   by_cases hcb:c=b
   ·subst hcb;rw[hob]at hlc;simp[Obj.live]at hlc
   ·rw[hon c hcn hcb]at hlc
    by_cases hdn:d=h.next
    ·subst hdn;exfalso
     rw[hputs]at hd;obtain rfl:=uzA hd
     exact hne c J hc hlc hcb (by rw[heq,hK])
    ·rw[hputn d hdn]at hd
     by_cases hdb:d=b
     ·subst hdb;rw[hob]at hld;simp[Obj.live]at hld
     ·rw[hon d hdn hdb]at hld;exact e.inj c d J I hc hd hlc hld heq
 ·intro c J hc
  by_cases hcn:c=h.next
  ·subst hcn;rw[hputs]at hc;obtain rfl:=uzA hc;rw[hos'];exact hobj
  ·rw[hputn c hcn]at hc
   by_cases hcb:c=b
   ·subst hcb;rw[hob];trivial
   ·rw[hon c hcn hcb]
    by_cases hlc:(h.obj c).live=true
    ·exact((e.obj c J hc).of_block (hw _ (hne c J hc hlc hcb))).ext hx
    ·cases hx:h.obj c with
     |gone=>trivial
     |_=>rw[hx]at hlc;exact absurd rfl hlc
 ·intro c J hc hwc hs
  by_cases hcn:c=h.next
  ·subst hcn;rw[hputs]at hc;obtain rfl:=uzA hc;exact e.prot b L hb hwr (hK▸hs)
  ·rw[hputn c hcn]at hc
   by_cases hcb:c=b
   ·subst hcb;rw[hob]at hwc;simp[Obj.wr]at hwc
   ·rw[hon c hcn hcb]at hwc;exact e.prot c J hc hwc hs
 ·intro c J hc hwc hs
  by_cases hcn:c=h.next
  ·subst hcn;rw[hputs]at hc;obtain rfl:=uzA hc;exact e.far b L hb hlv (hK▸hs)
  ·rw[hputn c hcn]at hc
   by_cases hcb:c=b
   ·subst hcb;rw[hob]at hwc;simp[Obj.live]at hwc
   ·rw[hon c hcn hcb]at hwc;exact e.far c J hc hwc hs
 ·intro k hk;rw[hsz];exact e.sLt k hk
 ·intro c hc
  have hc2:h.next+1<=c:=hc
  by_cases hcb:c=b
  ·subst hcb;exact hob
  ·rw[hon c (by omega) hcb];exact e.wf c (by omega)
 ·intro c hc
  by_cases hcn:c=h.next
  ·exact .inr ⟨by omega,by show c<h.next+1;omega⟩
  ·rw[hputn c hcn]at hc;exact .inl hc
theorem I5{α:Type}(l:List α)(a n i:Nat)(h:i<n):((l.drop a).take n)[i]? =l[a+i]? :=by
 rw[voz,if_pos h,vEz]
theorem a2x{P:Program}{S:Stay}{m:Map}{h:Heap}{w:World}(e:Emb P S m h w){b:Nat}{L:Loc}(hb:m b=some L){c:List Value}{t:TypeId}{g:How}(ho:h.obj b=.cells c t g):
  (c=[]/\g=.ro/\L.grow=false)\/∃(c' :Array Value) (fr:Nat×Nat),w.heap[L.blk]? =some (.cells c' t fr)/\c'.size=L.tot/\L.sh+c.length<=L.tot/\
   VL m c ((c'.toList.drop L.sh).take c.length)/\(g≠.ro->∀i,i<L.tot->¬(fr.1<=i/\i<fr.2))/\L.unit=P.cellsOf t/\L.grow=(g==.grow)/\(g≠.ro->c.all E9=true)/\(g=.fix->L.sh=0/\L.tot=c.length):=by
 have:=e.obj b L hb
 rw[ho]at this
 exact this
theorem M9{P:Program}{S:Stay}{m:Map}{h:Heap}{w:World}(e:Emb P S m h w){b:Nat}{L:Loc}(hb:m b=some L){c:List Value}{t:TypeId}{g:How}(ho:h.obj b=.cells c t g)(hne:g≠.ro\/c≠[]):
  ∃(c' :Array Value) (fr:Nat×Nat),w.heap[L.blk]? =some (.cells c' t fr)/\c'.size=L.tot/\L.sh+c.length<=L.tot/\
   VL m c ((c'.toList.drop L.sh).take c.length)/\(g≠.ro->∀i,i<L.tot->¬(fr.1<=i/\i<fr.2))/\L.unit=P.cellsOf t/\L.grow=(g==.grow)/\(g≠.ro->c.all E9=true)/\(g=.fix->L.sh=0/\L.tot=c.length):=by
 rcases a2x e hb ho with⟨h1,h2,_⟩|h
 ·exact absurd h2 (hne.resolve_right (fun h=>h h1))
 ·exact h
theorem a3e{P:Program}{S:Stay}{m:Map}{h:Heap}{w:World}(e:Emb P S m h w){b:Nat}{L:Loc}(hb:m b=some L){c:List Value}{t:TypeId}{g:How}(ho:h.obj b=.cells c t g):L.grow=(g==.grow):=by
 rcases a2x e hb ho with⟨_,h2,h3⟩| ⟨_,_,_,_,_,_,_,_,h,_⟩
 ·rw[h3,h2];rfl
 ·exact h
theorem c7f{P:Program}{S:Stay}{m:Map}{h:Heap}{w:World}(e:Emb P S m h w){b:Nat}{L:Loc}(hb:m b=some L){o:Nat}{v:Value}(hg:(h.obj b).get o=some v):
  ∃v',w.cell? ⟨L.blk,L.sh+o,none⟩=some v' /\VR m v v' :=by
 cases ho:h.obj b with
 |cells c t g=>
  rw[ho]at hg
  obtain⟨c',fr,h1,h2,h3,h4,h5⟩:=M9 e hb ho (.inr (by rintro rfl;simp[Obj.get]at hg))
  obtain⟨v',hv',hr⟩:=h4.get hg
  refine⟨v',?_,hr⟩
  have hlt:o<c.length:=by
   rcases vMz o c.length with h|h
   ·exact h
   ·simp only[Obj.get]at hg;rw[vmz h]at hg;simp at hg
  rw[I5 _ _ _ _ hlt]at hv'
  simp only[World.cell?,h1]
  simpa using hv'
 |_=>rw[ho]at hg;simp[Obj.get]at hg
theorem a1r{P:Program}{S:Stay}{m:Map}{h:Heap}{w:World}(e:Emb P S m h w){b:Nat}{L:Loc}(hb:m b=some L){o n:Nat}{cs:List Value}(hg:(h.obj b).read o n=some cs):
  cs.length=n/\∃cs',VL m cs cs' /\∀(j:Nat) (v:Value),cs'[j]? =some v->w.cell? ⟨L.blk,L.sh+o+j,none⟩=some v:=by
 cases ho:h.obj b with
 |cells c t g=>
  rw[ho]at hg
  simp only[Obj.read]at hg
  split at hg
  ·rename_i hle
   obtain rfl:=uzA hg
   rcases a2x e hb ho with⟨rfl,_⟩| ⟨c',fr,h1,h2,h3,h4,h5⟩
   ·have hle' :o+n<=0:=hle
    exact⟨by simp;omega,[],by simpa using VL.nil m,fun j v hj=>by simp at hj⟩
   refine⟨by simp;omega,((((c'.toList.drop L.sh).take c.length).drop o).take n),(h4.drop o).take n,fun j v hj=>?_⟩
   rw[voz]at hj
   split at hj
   ·rename_i hjn
    rw[vEz,I5 _ _ _ _ (by omega)]at hj
    simp only[World.cell?,h1]
    rw[Nat.add_assoc]
    simpa using hj
   ·simp at hj
  ·simp at hg
 |_=>rw[ho]at hg;simp[Obj.read]at hg
theorem J3{P:Program}{w:World}{blk o:Nat}{cs:List Value}(h:∀(j:Nat) (v:Value),cs[j]? =some v->w.cell? ⟨blk,o+j,none⟩=some v):
  (loadCells ⟨blk,o,none⟩ cs.length).run P w=.ok cs.toArray w:=by
 refine run_loadCells_list w _ cs fun j v hj=>?_
 have hadd:(⟨blk,o,none⟩:Addr).add j=⟨blk,o+j,none⟩:=by unfold Addr.add;split<;>simp_all
 rw[hadd];exact h j v hj
theorem N9(P:Program)(g o:Nat)(t:TypeId)(fr:Nat×Nat):∀(vs:List Value) (i:Nat) (cur:Array Value) (w:World),w.heap[g]? =some (.cells cur t fr)->o+i+vs.length<=cur.size->
  (∀j,j<cur.size->¬(fr.1<=j/\j<fr.2))->(∀v∈vs,v.oneCell' =true)->
  ∃cur',(storeCells ⟨g,o,none⟩ vs i).run P w=.ok () (w.setRow g cur')/\cur'.toList=setAt cur.toList (o+i) vs
 | [],i,cur,w,hg,_,_,_=>by
  refine⟨cur,?_,rfl⟩
  simp only[storeCells]
  have:w.setRow g cur=w:=by
   simp only[World.setRow]
   have hlt:g<w.heap.size:=by
    rcases vMz g w.heap.size with h|h
    ·exact h
    ·rw[Array.getElem?_eq_none h]at hg;simp at hg
   congr 1
   apply Array.ext'
   apply List.ext_getElem?
   intro k
   simp only[Array.getElem?_toList,Array.getElem?_modify]
   split
   ·rename_i hk;subst hk;rw[hg];rfl
   ·rfl
  rw[this];rfl
 |v::rest,i,cur,w,hg,hl,hfr,h1=>by
  have hi:o+i<cur.size:=by simp at hl;omega
  have hadd:(⟨g,o,none⟩:Addr).add i=⟨g,o+i,none⟩:=by unfold Addr.add;split<;>simp_all
  have hcell:w.cell? ⟨g,o+i,none⟩=some cur[o+i]:=by simp[World.cell?,hg,hi]
  have hfro:w.frozen? ⟨g,o+i,none⟩=false:=by
   have:=hfr (o+i) hi
   simp only[World.frozen?,hg]
   simpa using this
  have hst:(store ((⟨g,o,none⟩:Addr).add i) v).run P w=.ok () (w.setRow g (cur.setIfInBounds (o+i) v)):=by
   rw[hadd,run_store P w _ v _ (h1 v (by simp)),hcell]
   simp[hfro,setCell_eq_setRow w g (o+i) cur t fr v hg]
  obtain⟨cur',hrun,hcur⟩:=N9 P g o t fr rest (i+1) (cur.setIfInBounds (o+i) v) (w.setRow g (cur.setIfInBounds (o+i) v))
   (setRow_heap w g cur _ t _ hg) (by simp at hl ⊢;omega) (by simpa using hfr) (fun x hx=>h1 x (by simp[hx]))
  refine⟨cur',?_,?_⟩
  ·simp only[storeCells,Sem.run_bind,hst,Result.andThen_ok,hrun,setRow_setRow]
  ·rw[hcur];simp[setAt,Nat.add_assoc]
theorem K4:∀(vs c:List Value) (o:Nat),(setAt c o vs).length=c.length
 | [],_,_=>rfl
 |v::vs,c,o=>by rw[setAt,K4 vs];simp
theorem W3:∀(vs l:List Value) (s o n:Nat),o+vs.length<=n->s+n<=l.length->
  ((setAt l (s+o) vs).drop s).take n=setAt ((l.drop s).take n) o vs
 | [],_,_,_,_,_,_=>rfl
 |v::vs,l,s,o,n,h1,h2=>by
  simp only[uzM]at h1
  simp only[setAt]
  rw[show s+o+1=s+(o+1)from by omega,W3 vs (l.set (s+o) v) s (o+1) n (by omega) (by simpa using h2)]
  congr 1
  apply List.ext_getElem?
  intro k
  by_cases hk:k<n
  ·rw[I5 _ _ _ _ hk,List.getElem?_set,List.getElem?_set,I5 _ _ _ _ hk]
   by_cases hko:o=k
   ·subst hko;rw[if_pos rfl,if_pos rfl,if_pos (by omega),if_pos (by simp;omega)]
   ·rw[if_neg (by omega),if_neg hko]
  ·rw[vmz (by simp;omega),vmz (by simp;omega)]
theorem a3W:∀(vs c:List Value) (o:Nat),c.all E9=true->vs.all E9=true->(setAt c o vs).all E9=true
 | [],_,_,h,_=>h
 |v::vs,c,o,h,k=>by
  simp only[List.all_cons,vjz]at k
  refine a3W vs _ _ ?_ k.2
  rw[List.all_eq_true]at h ⊢
  intro x hx
  rcases vIz hx with h1|h1
  ·exact h x h1
  ·rw[h1];exact k.1
theorem a1R{P:Program}{S:Stay}{m:Map}{h:Heap}{w:World}(e:Emb P S m h w){b:Nat}{L:Loc}(hb:m b=some L){o:Nat}{vs vs' :List Value}{ob:Obj}
  (hg:(h.obj b).write o vs=some ob) (hv:VL m vs vs') (h1:∀v∈vs',v.oneCell' =true) (hs:vs.all E9=true):
  ∃w1,(storeCells ⟨L.blk,L.sh+o,none⟩ vs').run P w=.ok () w1/\Out P S m h w m (h.upd b ob) w1:=by
 cases ho:h.obj b with
 |cells c t g=>
  rw[ho]at hg
  obtain⟨c',fr,k1,k2,k3,k4,k5,k6,k7,k8,k9⟩:=M9 e hb ho (.inl (by rintro rfl;simp[Obj.write]at hg))
  simp only[Obj.write]at hg
  split at hg
  ·simp at hg
  ·rename_i hro
   split at hg
   ·rename_i hle
    obtain rfl:=uzA hg
    have hlen:=hv.1
    obtain⟨cur',hrun,hcur⟩:=N9 P L.blk (L.sh+o) t fr vs' 0 c' w k1 (by omega) (by rw[k2];exact k5 hro) h1
    refine⟨_,hrun,Out.upd e b L _ hb (by rw[ho];cases g<;>simp_all [Obj.wr]) (fun k hk=>setRow_other w _ k _ hk) (by simp) rfl rfl rfl ?_⟩
    have hsz:cur'.size=c'.size:=by
     have:=congrArg List.length hcur
     rw[K4]at this;simpa using this
    refine .inr ⟨cur',fr,setRow_heap w _ c' _ t fr k1,by omega,by rw[K4];exact k3,?_,k5,k6,k7,fun hg' =>a3W _ _ _ (k8 hg') hs,fun hg' =>⟨(k9 hg').1,by rw[K4];exact(k9 hg').2⟩⟩
    rw[hcur,K4,Nat.add_zero]
    rw[W3 vs' c'.toList L.sh o c.length (by omega) (by simp;omega)]
    exact VL.setAt o k4 hv
   ·simp at hg
 |_=>rw[ho]at hg;simp[Obj.write]at hg
theorem a3f{m:Map}{v v' :Value}(h:VR m v v')(hs:E9 v=true):v'.oneCell' =true:=by
 cases h<;>first|rfl| (exact absurd hs Bool.false_ne_true)
theorem O1{m:Map}:∀{a b:List Value},VL m a b->a.all E9=true->∀v∈b,v.oneCell' =true
 | [],b,h,_,v,hv=>by rw[h.of_nil]at hv;simp at hv
 |a::as,l,h,hs,v,hv=>by
  obtain⟨b,bs,rfl,h1,h2⟩:=h.of_cons
  simp only[List.all_cons,vjz]at hs
  rcases List.mem_cons.1 hv with rfl|hv
  ·exact a3f h1 hs.1
  ·exact O1 h2 hs.2 v hv
theorem a7R{m:Map}{v v' :Value}(h:VR m v v'){cs:List Value}(hf:flat v=some cs):
  VL m cs v'.cells.toList/\(∀x∈v'.cells.toList,x.oneCell' =true)/\v'.cells.size=cs.length/\cs.all E9=true:=by
 have key:VL m cs v'.cells.toList/\cs.all E9=true:=by
  cases h with
  |agg a a' ha hav=>
   simp only[flat]at hf
   split at hf
   ·rename_i hs
    obtain rfl:=uzA hf
    exact⟨⟨by simpa [Value.cells]using ha,fun i x y hx hy=>hav i x y (by simpa using hx) (by simpa [Value.cells]using hy)⟩,hs⟩
   ·simp at hf
  |tuple a a' ha hav=>simp[flat]at hf
  |unk v=>simp[flat,unk]at hf
  |bool b=>obtain rfl:=uzA hf;exact⟨VL.cons (.bool b) (VL.nil m),rfl⟩
  |int k n=>obtain rfl:=uzA hf;exact⟨VL.cons (.int k n) (VL.nil m),rfl⟩
  |float k n=>obtain rfl:=uzA hf;exact⟨VL.cons (.float k n) (VL.nil m),rfl⟩
  |complex k a b=>obtain rfl:=uzA hf;exact⟨VL.cons (.complex k a b) (VL.nil m),rfl⟩
  |string s=>obtain rfl:=uzA hf;exact⟨VL.cons (.string s) (VL.nil m),rfl⟩
  |nilPtr=>obtain rfl:=uzA hf;exact⟨VL.cons .nilPtr (VL.nil m),rfl⟩
  |ptr b o L hb=>obtain rfl:=uzA hf;exact⟨VL.cons (.ptr b o L hb) (VL.nil m),rfl⟩
  |nilSlice n c=>obtain rfl:=uzA hf;exact⟨VL.cons (.nilSlice n c) (VL.nil m),rfl⟩
  |slice b o n c c' L hb hn hc hg=>obtain rfl:=uzA hf;exact⟨VL.cons (.slice b o n c c' L hb hn hc hg) (VL.nil m),rfl⟩
  |slice0 b o L a' hb=>obtain rfl:=uzA hf;exact⟨VL.cons (.slice0 b o L a' hb) (VL.nil m),rfl⟩
  |nilMap=>obtain rfl:=uzA hf;exact⟨VL.cons .nilMap (VL.nil m),rfl⟩
  |map r L hr=>obtain rfl:=uzA hf;exact⟨VL.cons (.map r L hr) (VL.nil m),rfl⟩
  |nilFunc=>obtain rfl:=uzA hf;exact⟨VL.cons .nilFunc (VL.nil m),rfl⟩
  |func f a a' c c' h1 h2 h3 h4=>obtain rfl:=uzA hf;exact⟨VL.cons (.func f a a' c c' h1 h2 h3 h4) (VL.nil m),rfl⟩
  |yield b L hb=>obtain rfl:=uzA hf;exact⟨VL.cons (.yield b L hb) (VL.nil m),rfl⟩
  |nilIface=>obtain rfl:=uzA hf;exact⟨VL.cons .nilIface (VL.nil m),rfl⟩
  |iface t a a' ha=>obtain rfl:=uzA hf;exact⟨VL.cons (.iface t a a' ha) (VL.nil m),rfl⟩
 refine⟨key.1,O1 key.1 key.2,?_,key.2⟩
 have:=key.1.1
 simpa using this.symm
theorem a1y{v:Value}(h:selfS v=true):E9 v=true:=by
 cases v<;>first|rfl| (exact absurd h Bool.false_ne_true)
theorem H5{l:List Value}(h:l.all selfS=true):l.all E9=true:=by
 rw[List.all_eq_true]at h ⊢
 exact fun x hx=>a1y (h x hx)
theorem R8{l:List Value}(h:l.all E9=true)(a n:Nat):((l.drop a).take n).all E9=true:=by
 rw[List.all_eq_true]at h ⊢
 exact fun x hx=>h x (List.mem_of_mem_drop (List.mem_of_mem_take hx))
theorem b5x{ob:Obj}{o n:Nat}{cs:List Value}(h:ob.src o n=some cs):ob.read o n=some cs:=by
 cases ob with
 |cells c t g=>
  cases g with
  |ro=>
   simp only[Obj.src]at h
   split at h
   ·rename_i hc;rw[Obj.read,if_pos hc.1];exact h
   ·simp at h
  |fix=>exact h
  |grow=>exact h
 |_=>simp[Obj.src]at h
theorem e2i{P:Program}{S:Stay}{m:Map}{h:Heap}{w:World}(e:Emb P S m h w){b:Nat}{L:Loc}(hb:m b=some L){o n:Nat}{cs:List Value}(hg:(h.obj b).src o n=some cs):cs.all E9=true:=by
 cases ho:h.obj b with
 |cells c t g=>
  rw[ho]at hg
  cases g with
  |ro=>
   simp only[Obj.src]at hg
   split at hg
   ·rename_i hc
    obtain rfl:=uzA hg
    exact hc.2
   ·simp at hg
  |fix=>
   obtain⟨c',fr,h1,h2,h3,h4,h5,h6,h7,h8,_⟩:=M9 e hb ho (.inl (by simp))
   simp only[Obj.src]at hg
   split at hg
   ·obtain rfl:=uzA hg
    exact R8 (h8 (by simp)) _ _
   ·simp at hg
  |grow=>
   obtain⟨c',fr,h1,h2,h3,h4,h5,h6,h7,h8,_⟩:=M9 e hb ho (.inl (by simp))
   simp only[Obj.src]at hg
   split at hg
   ·obtain rfl:=uzA hg
    exact R8 (h8 (by simp)) _ _
   ·simp at hg
 |_=>rw[ho]at hg;simp[Obj.src]at hg
section
variable {P:Program} (w:World)
theorem e1T{t:TypeId}{d:TypeDesc}(h:P.underlying t=some d):∃i,P.info? t=some i:=by
 unfold Program.underlying at h
 cases hi:P.info? t with
 |none=>rw[hi]at h;simp at h
 |some i=>exact⟨i,rfl⟩
theorem G9{t:TypeId}(h:N3 P t=true):∃d i,P.underlying t=some d/\P.info? t=some i:=by
 unfold N3 at h
 cases hu:P.underlying t with
 |none=>rw[hu]at h;simp at h
 |some d=>obtain⟨i,hi⟩:=e1T hu;exact⟨d,i,rfl,hi⟩
theorem run_sizeOf'{t:TypeId}{i:TypeInfo}(h:P.info? t=some i):(sizeOf t).run P w=.ok (P.cellsOf t) w:=by
 simp[sizeOf,typeInfo,h,Program.cellsOf]
theorem run_typeInfo'{t:TypeId}{i:TypeInfo}(h:P.info? t=some i):(typeInfo t).run P w=.ok i w:=by
 simp[typeInfo,h]
theorem run_underlying'{t:TypeId}{d:TypeDesc}(h:P.underlying t=some d):(underlying t).run P w=.ok d w:=by
 simp[underlying,h]
theorem run_isAgg'{t:TypeId}{d:TypeDesc}(h:P.underlying t=some d):(isAgg t).run P w=.ok (a0h P t) w:=by
 simp only[isAgg,Sem.run_bind,run_underlying' w h,Result.andThen_ok,a0h,h]
 split<;>simp_all
theorem run_zeroValue'{t:TypeId}{v:Value}(h:a4P P t=some v):(zeroValue t).run P w=.ok v w:=by
 unfold a4P at h
 cases hi:P.info? t with
 |none=>rw[hi]at h;simp at h
 |some i=>
  rw[hi]at h
  have hz:i.zero=some v:=h
  simp[zeroValue,typeInfo,hi,hz]
theorem M6{t:TypeId}{z:List Value}(h:W6 P t=some z):∃v i,a4P P t=some v/\v.cells.toList=z/\z.all selfS=true/\z.length=P.cellsOf t/\selfV v=true/\P.info? t=some i:=by
 unfold W6 at h
 split at h
 ·rename_i v hv
  split at h
  ·rename_i hc
   simp only[vjz,beq_iff_eq]at hc
   obtain rfl:=uzA h
   have:∃i,P.info? t=some i:=by
    unfold a4P at hv
    cases hi:P.info? t with
    |none=>rw[hi]at hv;simp at hv
    |some i=>exact⟨i,rfl⟩
   obtain⟨i,hi⟩:=this
   exact⟨v,i,hv,rfl,hc.1.2,by simpa using hc.2,hc.1.1,hi⟩
  ·simp at h
 ·simp at h
theorem a2E{t:TypeId}{v:Value}(h:a8G P t=some v):a4P P t=some v/\selfV v=true:=by
 unfold a8G at h
 split at h
 ·rename_i u hu
  split at h
  ·rename_i hc;obtain rfl:=uzA h;exact⟨hu,hc⟩
  ·simp at h
 ·simp at h
end
abbrev Rho:=Operand->Value
def D2(P:Program)(S:Stay)(m:Map)(h:Heap)(w:World)(s:Sem Next)(v:Value)(h1:Heap):Prop:=
 ∃n v' w1 m1,s.run P w=.ok n w1/\(n=.value v' \/(n=.skip/\v' =undef))/\VR m1 v v' /\Out P S m h w m1 h1 w1
abbrev a3m(s:Sem Value):Sem Next:=do pure (.value (<-s))
section
variable {P:Program} {S:Stay} {m:Map} {h:Heap} {w:World}
theorem D2.val{s:Sem Value}{v v' :Value}{h1:Heap}{w1:World}{m1:Map}(hs:s.run P w=.ok v' w1)(hv:VR m1 v v')(o:Out P S m h w m1 h1 w1):
  D2 P S m h w (do pure (.value (<-s))) v h1:=
 ⟨.value v',v',w1,m1,by simp[hs],.inl rfl,hv,o⟩
theorem D2.here{v v' :Value}(e:Emb P S m h w)(hv:VR m v v'):D2 P S m h w (pure (.value v')) v h:=
 ⟨.value v',v',w,m,rfl,.inl rfl,hv,Out.refl e⟩
theorem D2.same{s:Sem Value}{v v' :Value}(e:Emb P S m h w)(hs:s.run P w=.ok v' w)(hv:VR m v v'):D2 P S m h w (do pure (.value (<-s))) v h:=
 D2.val hs hv (Out.refl e)
theorem D2.unit{s:Sem Unit}{h1:Heap}{w1:World}(hs:s.run P w=.ok () w1)(o:Out P S m h w m h1 w1):
  D2 P S m h w (do s;pure .skip) (.tuple #[]) h1:=
 ⟨.skip,undef,w1,m,by simp[hs],.inr ⟨rfl,rfl⟩,.tuple _ _ rfl (fun i x y hx=>by simp at hx),o⟩
theorem VR.int_inv{k:IntKind}{n:Int}{v:Value}(h:VR m (.int k n) v):v=.int k n:=by cases h;rfl
theorem VR.bool_inv{b:Bool}{v:Value}(h:VR m (.bool b) v):v=.bool b:=by cases h;rfl
theorem VR.string_inv{s:ByteArray}{v:Value}(h:VR m (.string s) v):v=.string s:=by cases h;rfl
theorem VR.nilPtr_inv{v:Value}(h:VR m (.pointer none) v):v=.pointer none:=by cases h;rfl
theorem VR.ptr_inv{a:Addr}{v:Value}(h:VR m (.pointer (some a)) v):∃b o L,a=⟨b,o,none⟩/\m b=some L/\v=.pointer (some ⟨L.blk,L.sh+o,none⟩):=by
 cases h with
 |ptr b o L hb=>exact⟨b,o,L,rfl,hb,rfl⟩
theorem VR.slice_inv{a:Addr}{n c:Nat}{v:Value}(h:VR m (.slice (some a) n c) v):
  (∃b o c' L,a=⟨b,o,none⟩/\m b=some L/\n<=c/\c<=c' /\(L.grow=true->L.sh+o+c' *L.unit<=L.tot)/\v=.slice (some ⟨L.blk,L.sh+o,none⟩) n c')\/
  (n=0/\c=0/\a.spot=none/\∃a',v=.slice (some a') 0 0/\∃L,m a.block=some L):=by
 cases h with
 |slice b o n c c' L hb hn hc hg=>exact .inl ⟨b,o,c',L,rfl,hb,hn,hc,hg,rfl⟩
 |slice0 b o L a' hb=>exact .inr ⟨rfl,rfl,rfl,a',rfl,L,hb⟩
theorem VR.nilSlice_inv{n c:Nat}{v:Value}(h:VR m (.slice none n c) v):v=.slice none n c:=by cases h;rfl
theorem VR.nilMap_inv{v:Value}(h:VR m (.map none) v):v=.map none:=by cases h;rfl
theorem VR.map_inv{r:Nat}{v:Value}(h:VR m (.map (some r)) v):∃L,m r=some L/\v=.map (some L.blk):=by
 cases h with
 |map r L hb=>exact⟨L,hb,rfl⟩
theorem VR.agg_inv{a:Array Value}{v:Value}(h:VR m (.agg a) v):∃a',v=.agg a' /\VL m a.toList a'.toList:=by
 cases h with
 |agg a a' ha hav=>exact⟨a',rfl,by simpa using ha,fun i x y hx hy=>hav i x y (by simpa using hx) (by simpa using hy)⟩
theorem VR.agg_of{a a' :Array Value}(h:VL m a.toList a'.toList):VR m (.agg a) (.agg a'):=
 .agg a a' (by simpa using h.1) fun i x y hx hy=>h.2 i x y (by simpa using hx) (by simpa using hy)
theorem VR.tuple_of{a a' :Array Value}(h:VL m a.toList a'.toList):VR m (.tuple a) (.tuple a'):=
 .tuple a a' (by simpa using h.1) fun i x y hx hy=>h.2 i x y (by simpa using hx) (by simpa using hy)
theorem VR.func_inv{f:FuncId}{a c:Array Value}{v:Value}(h:VR m (.func (.func f) a c) v):∃a' c',v=.func (.func f) a' c' /\VL m a.toList a'.toList/\VL m c.toList c'.toList:=by
 cases h with
 |func f a a' c c' ha hav hc hcv=>
  exact⟨a',c',rfl,⟨by simpa using ha,fun i x y hx hy=>hav i x y (by simpa using hx) (by simpa using hy)⟩,by simpa using hc,fun i x y hx hy=>hcv i x y (by simpa using hx) (by simpa using hy)⟩
theorem VR.func_some{f:Fn}{a c:Array Value}{v:Value}(h:VR m (.func f a c) v):∃f' a' c',v=.func f' a' c' :=by
 cases h with
 |func f a a' c c' ha hav hc hcv=>exact⟨_,_,_,rfl⟩
 |yield b L hb=>exact⟨_,_,_,rfl⟩
theorem VR.yield_inv{b:Nat}{a c:Array Value}{v:Value}(h:VR m (.func (.yield b) a c) v):∃L,m b=some L/\v=.func (.yield L.blk) #[] #[]/\a= #[]/\c= #[]:=by
 cases h with
 |yield b L hb=>exact⟨L,hb,rfl,rfl,rfl⟩
theorem VR.func_of{f:FuncId}{a a' c c' :Array Value}(h:VL m a.toList a'.toList)(k:VL m c.toList c'.toList):VR m (.func (.func f) a c) (.func (.func f) a' c'):=
 .func f a a' c c' (by simpa using h.1) (fun i x y hx hy=>h.2 i x y (by simpa using hx) (by simpa using hy)) (by simpa using k.1) (fun i x y hx hy=>k.2 i x y (by simpa using hx) (by simpa using hy))
theorem VR.nilFunc_inv{v:Value}(h:VR m .nilFunc v):v=.nilFunc:=by cases h;rfl
theorem VR.tuple_inv{a:Array Value}{v:Value}(h:VR m (.tuple a) v):(∃a',v=.tuple a' /\VL m a.toList a'.toList)\/a= #[.tuple #[.tuple #[]]]:=by
 cases h with
 |tuple a a' ha hav=>exact .inl ⟨a',rfl,by simpa using ha,fun i x y hx hy=>hav i x y (by simpa using hx) (by simpa using hy)⟩
 |unk v=>exact .inr rfl
theorem a1o(e:Emb P S m h w)(hf:m h.next=none){c:List Value}{c' :Array Value}(t:TypeId)(g:How)(hl:c.length<=c'.size)(hv:VL m c (c'.toList.take c.length))(fr:Nat×Nat)
  (hfr:∀i,i<c'.size->¬(fr.1<=i/\i<fr.2)) (hs:c.all E9=true) (hfx:g=.fix->c'.size=c.length:=by intro hg;exact absurd hg (by simp)):
  Out P S m h w (m.put h.next ⟨w.heap.size,0,c'.size,P.cellsOf t,g==.grow⟩) (h.new (.cells c t g)) (w.alloc (.cells c' t fr)):=by
 refine Out.new e _ (.cells c' t fr) _ hf rfl rfl rfl rfl rfl fun w' hw' =>?_
 exact .inr ⟨c',fr,hw',rfl,by simpa using hl,by simpa using hv.ext (Map.put_ext hf),fun _=>hfr,rfl,rfl,fun _=>hs,fun hg=>⟨rfl,hfx hg⟩⟩
theorem a1M(e:Emb P S m h w)(hf:m h.next=none){c:List Value}{c' :Array Value}(t:TypeId)(g:How)(hv:VL m c c'.toList)(hs:c.all E9=true):
  Out P S m h w (m.put h.next ⟨w.heap.size,0,c'.size,P.cellsOf t,g==.grow⟩) (h.new (.cells c t g)) (w.alloc (.cells c' t)):=by
 have hl:=hv.1
 exact a1o e hf t g (by simp at hl;omega) (by rw[hl,vnz (by simp)];exact hv) (0,0) (fun i _=>by omega) hs (fun _=>by simp at hl;omega)
theorem a8h{b:Nat}{L:Loc}(h0:L.sh=0)(m:Map):VR (m.put b L) (.pointer (some ⟨b,0,none⟩)) (.pointer (some ⟨L.blk,0,none⟩)):=by
 have:=VR.ptr (m:=m.put b L) b 0 L (by simp[Map.put])
 rw[h0]at this;exact this
theorem a8s(t:TypeId)(v:Value):(newVar t v).run P w=.ok ⟨w.heap.size,0,none⟩ (w.alloc (.cells v.cells t)):=by
 simp[newVar,newRow]
theorem c9z(e:Emb P S m h w)(hf:m h.next=none){t:TypeId}{z:List Value}(hz:W6 P t=some z):
  D2 P S m h w (do pure (.value (<-Instr.alloc t true (.tuple #[])))) (.pointer (some ⟨h.next,0,none⟩)) (h.new (.cells z t .fix)):=by
 obtain⟨v,i,h1,h2,h3,h4,h5,h6⟩:=M6 hz
 refine D2.val (s:=Instr.alloc t true (.tuple #[])) (v' :=.pointer (some ⟨w.heap.size,0,none⟩)) (w1:=w.alloc (.cells v.cells t)) ?_ (a8h rfl m) (a1M e hf t .fix (by rw[h2];exact VL.selfS h3) (H5 h3))
 simp only[Instr.alloc,Sem.run_bind,run_zeroValue' w h1,Result.andThen_ok,a8s,Sem.run_pure]
theorem e2g(e:Emb P S m h w)(hf:m h.next=none){t:TypeId}{x x' :Value}(hx:VR m x x'){cs:List Value}(hc:flat x=some cs):
  D2 P S m h w (do pure (.value (<-Instr.box t x'))) (.pointer (some ⟨h.next,0,none⟩)) (h.new (.cells cs t .fix)):=by
 obtain⟨h1,h2,h3,h4⟩:=a7R hx hc
 refine D2.val (s:=Instr.box t x') (v' :=.pointer (some ⟨w.heap.size,0,none⟩)) (w1:=w.alloc (.cells x'.cells t)) ?_ (a8h rfl m) (a1M e hf t .fix h1 h4)
 simp only[Instr.box,Sem.run_bind,a8s,Result.andThen_ok,Sem.run_pure]
theorem e0m(e:Emb P S m h w){t:TypeId}(ht:N3 P t=true){x x' :Value}(hx:VR m x x'){v:Value}{h1:Heap}(hc:C7 (.load (a3s P t) x) h=some (v,h1)):
  D2 P S m h w (do pure (.value (<-Instr.loadAt t x'))) v h1:=by
 obtain⟨d,i,hu,hi⟩:=G9 ht
 simp only[C7]at hc
 split at hc
 ·rename_i b o
  obtain⟨b',o',L,heq,hb,rfl⟩:=hx.ptr_inv
  obtain⟨rfl,rfl, -⟩:=Addr.mk.inj heq
  unfold a3s at hc
  by_cases hagg:a0h P t=true
  ·rw[if_pos hagg]at hc
   simp only[uzD,uzB]at hc
   obtain⟨cs,hcs,rfl,rfl⟩:=hc
   obtain⟨hl,cs',hv,hcell⟩:=a1r e hb hcs
   have hl' :cs'.length=P.cellsOf t:=by rw[<-hv.1];exact hl
   refine D2.same e ?_ (VR.agg_of (a:=cs.toArray) (a' :=cs'.toArray) (by simpa using hv))
   have:=J3 (P:=P) hcell
   rw[hl']at this
   simp only[Instr.loadAt,Instr.sureAddr,loadVar,Sem.run_bind,Sem.run_pure,Result.andThen_ok,run_isAgg' w hu,hagg,if_true,run_sizeOf' w hi,this]
  ·simp only[hagg,vgz,if_false,uzD,uzB]at hc
   obtain⟨cv,hcv,rfl,rfl⟩:=hc
   obtain⟨v',hcell,hv⟩:=c7f e hb hcv
   refine D2.same e ?_ hv
   simp only[Instr.loadAt,Instr.sureAddr,loadVar,Sem.run_bind,Sem.run_pure,Result.andThen_ok,run_isAgg' w hu,hagg,vgz,if_false,run_load,hcell]
 ·simp at hc
theorem c9D(e:Emb P S m h w){t:TypeId}(ht:N3 P t=true){x x' y y' :Value}(hx:VR m x x')(hy:VR m y y'){v:Value}{h1:Heap}
  (hc:C7 (.store (P.cellsOf t) x y) h=some (v,h1)):D2 P S m h w (do Instr.storeAt t x' y';pure .skip) v h1:=by
 obtain⟨d,i,hu,hi⟩:=G9 ht
 simp only[C7]at hc
 split at hc
 ·rename_i b o cs hf
  split at hc
  ·rename_i hsz
   simp only[uzD,uzB]at hc
   obtain⟨ob,hob,rfl,rfl⟩:=hc
   obtain⟨b',o',L,heq,hb,rfl⟩:=hx.ptr_inv
   obtain⟨rfl,rfl, -⟩:=Addr.mk.inj heq
   obtain⟨k1,k2,k3,k4⟩:=a7R hy hf
   obtain⟨w1,hrun,hout⟩:=a1R e hb hob k1 k2 k4
   refine D2.unit ?_ hout
   have hne:¬(y'.cells.size≠P.cellsOf t):=by omega
   simp only[Instr.storeAt,Instr.sureAddr,storeVar,Sem.run_bind,Sem.run_pure,Result.andThen_ok,run_sizeOf' w hi,Sem.run_ite,hne,if_false,hrun]
  ·simp at hc
 ·simp at hc
theorem b2G(e:Emb P S m h w){x x' :Value}(hx:VR m x x'){a:Addr}(hp:x=.pointer (some a)){s:Sem Next}(hs:∀a',x' =.pointer (some a')->s=pure (.value x')):
  D2 P S m h w s x h:=by
 subst hp
 obtain⟨b,o,L,rfl,hb,rfl⟩:=hx.ptr_inv
 rw[hs _ rfl]
 exact D2.here e hx
theorem e0k(e:Emb P S m h w){a b:TypeId}{k0 k:IntKind}(ha:P.underlying a=some (.int k0))(hb:P.underlying b=some (.int k)){x x' :Value}(hx:VR m x x'){v:Value}{h1:Heap}
  (hc:C7 (.conv k x) h=some (v,h1)):D2 P S m h w (do pure (.value (<-convert a b x'))) v h1:=by
 simp only[C7]at hc
 split at hc
 ·rename_i k1 n
  simp only[uzC,uzB]at hc
  obtain⟨rfl,rfl⟩:=hc
  obtain rfl:=hx.int_inv
  refine D2.same e ?_ (.int k _)
  simp[convert,run_underlying' w ha,run_underlying' w hb,Conv.intToInt]
 ·simp at hc
theorem b2B(e:Emb P S m h w){a b:TypeId}(ha:P.underlying a=some .string)(hb:P.underlying b=some .string){x x' :Value}(hx:VR m x x'){v:Value}{h1:Heap}
  (hc:C7 (.convSame x) h=some (v,h1)):D2 P S m h w (do pure (.value (<-convert a b x'))) v h1:=by
 simp only[C7]at hc
 split at hc
 ·simp only[uzC,uzB]at hc
  obtain⟨rfl,rfl⟩:=hc
  obtain rfl:=hx.string_inv
  refine D2.same e ?_ (.string _)
  simp[convert,run_underlying' w ha,run_underlying' w hb]
 ·simp at hc
theorem b2t{b o:Nat}{L:Loc}(hb:m b=some L)(n:Nat):VR m (.pointer (some ((⟨b,o,none⟩:Addr).add n))) (.pointer (some ((⟨L.blk,L.sh+o,none⟩:Addr).add n))):=by
 have e1:∀b o:Nat,(⟨b,o,none⟩:Addr).add n=⟨b,o+n,none⟩:=fun b o=>by
  unfold Addr.add;split
  ·rename_i h;subst h;rfl
  ·rfl
 rw[e1,e1,Nat.add_assoc];exact .ptr b (o+n) L hb
theorem a8U(e:Emb P S m h w){t:TypeId}{fs:Array Field}(ht:P.underlying t=some (.struct fs)){i:Nat}{f:Field}(hf:fs[i]? =some f)(hz:P.cellsOf f.type≠0){x x' :Value}(hx:VR m x x'){v:Value}{h1:Heap}
  (hc:C7 (.fieldAddr f.offset x) h=some (v,h1)):D2 P S m h w (do pure (.value (<-Instr.fieldAt t x' i))) v h1:=by
 simp only[C7]at hc
 split at hc
 ·rename_i a
  simp only[uzC,uzB]at hc
  obtain⟨rfl,rfl⟩:=hc
  obtain⟨b,o,L,rfl,hb,rfl⟩:=hx.ptr_inv
  refine D2.same e ?_ (b2t hb f.offset)
  have hsz:∃j,P.info? f.type=some j:=by
   cases hj:P.info? f.type with
   |none=>exfalso;apply hz;simp[Program.cellsOf,hj]
   |some j=>exact⟨j,rfl⟩
  obtain⟨j,hj⟩:=hsz
  simp only[Instr.fieldAt,Instr.sureAddr,fieldPlace,Sem.run_bind,run_underlying' w ht,Result.andThen_ok,hf,Sem.run_pure,run_sizeOf' w hj,Sem.run_ite,hz,if_false]
 ·simp at hc
theorem b2y{t:TypeId}(ht:N3 P t=true)(hagg:a0h P t=true)(cs:Array Value)(off:Nat):(part t cs off).run P w=.ok (.agg (cs.extract off (off+P.cellsOf t))) w:=by
 obtain⟨d,i,hu,hi⟩:=G9 ht
 simp only[part,Sem.run_bind,run_isAgg' w hu,Result.andThen_ok,hagg,if_true,run_sizeOf' w hi,Sem.run_pure]
theorem N0{t:TypeId}(ht:N3 P t=true)(hagg:a0h P t=false){cs:Array Value}{off:Nat}{v:Value}(hv:cs[off]? =some v):(part t cs off).run P w=.ok v w:=by
 obtain⟨d,i,hu,hi⟩:=G9 ht
 simp only[part,Sem.run_bind,run_isAgg' w hu,Result.andThen_ok,hagg,vgz,if_false,hv,Sem.run_pure]
theorem b5a{t:TypeId}(ht:N3 P t=true){cs cs' :Array Value}(hv:VL m cs.toList cs'.toList)(off:Nat){v:Value}
  (hc:(match a3s P t with
   |some n=>if off+n<=cs.size then some (Value.agg (cs.extract off (off+n)))else none
   |none=>cs[off]?)=some v):∃v',(part t cs' off).run P w=.ok v' w/\VR m v v' :=by
 unfold a3s at hc
 by_cases hagg:a0h P t=true
 ·rw[if_pos hagg]at hc
  simp only at hc
  split at hc
  ·obtain rfl:=uzA hc
   refine⟨_,b2y ht hagg cs' off,VR.agg_of ?_⟩
   simp only[Array.toList_extract,List.extract_eq_take_drop]
   exact(hv.drop _).take _
  ·simp at hc
 ·simp only[hagg,vgz,if_false]at hc
  obtain⟨v',hv',hr⟩:=hv.get (i:=off) (x:=v) (by simpa using hc)
  exact⟨v',N0 ht (by simpa using hagg) (by simpa using hv'),hr⟩
theorem c9A(e:Emb P S m h w){t:TypeId}{fs:Array Field}(ht:P.underlying t=some (.struct fs)){i:Nat}{f:Field}(hf:fs[i]? =some f)(hft:N3 P f.type=true){x x' :Value}(hx:VR m x x'){v:Value}{h1:Heap}
  (hc:C7 (.field f.offset (a3s P f.type) x) h=some (v,h1)):D2 P S m h w (do pure (.value (<-Instr.field t x' i))) v h1:=by
 simp only[C7]at hc
 split at hc
 ·rename_i cs
  obtain⟨cs',rfl,hv⟩:=hx.agg_inv
  have key:h1=h/\(match a3s P f.type with
   |some n=>if f.offset+n<=cs.size then some (Value.agg (cs.extract f.offset (f.offset+n)))else none
   |none=>cs[f.offset]?)=some v:=by
   split at hc
   ·rename_i n hq
    split at hc
    ·rename_i hle
     simp only[uzC,uzB]at hc
     refine⟨hc.2.symm,?_⟩
     (try simp only[hq]);rw[if_pos hle,hc.1]
    ·simp at hc
   ·rename_i hq
    simp only[uzD,uzB]at hc
    obtain⟨u,hu,rfl,rfl⟩:=hc
    refine⟨rfl,?_⟩
    (try simp only[hq]);exact hu
  obtain⟨rfl,key⟩:=key
  obtain⟨v',hrun,hr⟩:=b5a (w:=w) hft hv f.offset key
  refine D2.same e ?_ hr
  simp only[Instr.field,Sem.run_bind,run_underlying' w ht,Result.andThen_ok,hf,asAgg,Sem.run_pure,hrun]
 ·simp at hc
theorem b2C(e:Emb P S m h w){t:TypeId}{n:Nat}{t' :TypeId}(ht:P.underlying t=some (.array n t'))(hft:N3 P t' =true){x x' y y' :Value}(hx:VR m x x')(hy:VR m y y'){v:Value}{h1:Heap}
  (hc:C7 (.indexAgg n (P.cellsOf t') (a3s P t') x y) h=some (v,h1)):D2 P S m h w (do pure (.value (<-Instr.index t x' y'))) v h1:=by
 obtain⟨d,i,hu,hi⟩:=G9 hft
 simp only[C7]at hc
 split at hc
 ·rename_i cs k j
  obtain⟨cs',rfl,hv⟩:=hx.agg_inv
  obtain rfl:=hy.int_inv
  split at hc
  ·rename_i hb
   have key:h1=h/\(match a3s P t' with
    |some n=>if j.toNat*P.cellsOf t' +n<=cs.size then some (Value.agg (cs.extract (j.toNat*P.cellsOf t') (j.toNat*P.cellsOf t' +n)))else none
    |none=>cs[j.toNat*P.cellsOf t']?)=some v:=by
    split at hc
    ·rename_i n hq
     split at hc
     ·rename_i hle
      simp only[uzC,uzB]at hc
      refine⟨hc.2.symm,?_⟩
      (try simp only[hq]);rw[if_pos hle,hc.1]
     ·simp at hc
    ·rename_i hq
     simp only[uzD,uzB]at hc
     obtain⟨u,hu,rfl,rfl⟩:=hc
     refine⟨rfl,?_⟩
     (try simp only[hq]);exact hu
   obtain⟨rfl,key⟩:=key
   obtain⟨v',hrun,hr⟩:=b5a (w:=w) hft hv _ key
   refine D2.same e ?_ hr
   simp only[Instr.index,asIntOf,Sem.run_bind,Sem.run_pure,run_underlying' w ht,Result.andThen_ok,hb,and_self,if_true,run_sizeOf' w hi,hrun]
  ·simp at hc
 ·simp at hc
theorem b5u(e:Emb P S m h w){t t' :TypeId}(ht:P.underlying t=some (.slice t'))(hft:N3 P t' =true){x x' y y' :Value}(hx:VR m x x')(hy:VR m y y'){v:Value}{h1:Heap}
  (hc:C7 (.indexSl (P.cellsOf t') x y) h=some (v,h1)):D2 P S m h w (do pure (.value (<-Instr.indexAt t x' y'))) v h1:=by
 obtain⟨d,i,hu,hi⟩:=G9 hft
 simp only[C7]at hc
 split at hc
 ·rename_i a n c k j
  obtain rfl:=hy.int_inv
  split at hc
  ·rename_i hj
   rcases hx.slice_inv with⟨b,o,c',L,rfl,hb,hn,hcc,hg,rfl⟩| ⟨rfl,_⟩
   case inr=>exfalso;omega
   simp only[uzC,uzB]at hc
   obtain⟨rfl,rfl⟩:=hc
   refine D2.same e ?_ (b2t hb _)
   simp only[Instr.indexAt,asIntOf,Sem.run_bind,Sem.run_pure,run_underlying' w ht,Result.andThen_ok,hj,and_self,if_true,run_sizeOf' w hi]
  ·simp at hc
 ·simp at hc
theorem b2D(e:Emb P S m h w){t t' :TypeId}{n:Nat}(ht:P.underlying t=some (.array n t'))(hft:N3 P t' =true){x x' y y' :Value}(hx:VR m x x')(hy:VR m y y'){v:Value}{h1:Heap}
  (hc:C7 (.indexArr n (P.cellsOf t') x y) h=some (v,h1)):D2 P S m h w (do pure (.value (<-Instr.indexAt t x' y'))) v h1:=by
 obtain⟨d,i,hu,hi⟩:=G9 hft
 simp only[C7]at hc
 split at hc
 ·rename_i a k j
  obtain⟨b,o,L,rfl,hb,rfl⟩:=hx.ptr_inv
  obtain rfl:=hy.int_inv
  split at hc
  ·rename_i hj
   simp only[uzC,uzB]at hc
   obtain⟨rfl,rfl⟩:=hc
   refine D2.same e ?_ (b2t hb _)
   simp only[Instr.indexAt,Instr.sureAddr,asIntOf,Sem.run_bind,Sem.run_pure,run_underlying' w ht,Result.andThen_ok,hj,and_self,if_true,run_sizeOf' w hi]
  ·simp at hc
 ·simp at hc
theorem b2E(e:Emb P S m h w){t:TypeId}(ht:P.underlying t=some .string){x x' y y' :Value}(hx:VR m x x')(hy:VR m y y'){v:Value}{h1:Heap}
  (hc:C7 (.indexStr x y) h=some (v,h1)):D2 P S m h w (do pure (.value (<-Instr.index t x' y'))) v h1:=by
 simp only[C7]at hc
 split at hc
 ·rename_i s k j
  obtain rfl:=hx.string_inv
  obtain rfl:=hy.int_inv
  split at hc
  ·rename_i hj
   simp only[uzD,uzB]at hc
   obtain⟨b,hb,rfl,rfl⟩:=hc
   refine D2.same e ?_ (.int _ _)
   have hs:s[j.toNat]? =some b:=by
    have hlt:j.toNat<s.data.size:=by
     rcases vMz j.toNat s.data.size with h|h
     ·exact h
     ·rw[Array.getElem?_eq_none h]at hb;simp at hb
    rw[Array.getElem?_eq_getElem hlt]at hb
    obtain rfl:=uzA hb
    show(if h:j.toNat<s.size then some s[j.toNat]else none)=_
    have hlt' :j.toNat<s.size:=hlt
    rw[dif_pos hlt'];rfl
   simp only[Instr.index,asIntOf,Sem.run_bind,Sem.run_pure,run_underlying' w ht,Result.andThen_ok,hj,if_true,hs]
  ·simp at hc
 ·simp at hc
theorem b5t(e:Emb P S m h w){x x' :Value}(hx:VR m x x'){i:Nat}{v:Value}{h1:Heap}
  (hc:C7 (.extract x i) h=some (v,h1)):D2 P S m h w (do pure (.value (<-Instr.extract x' i))) v h1:=by
 simp only[C7]at hc
 split at hc
 ·rename_i vs
  split at hc
  ·split at hc
   ·rename_i b hb
    split at hc
    ·rename_i hi
     subst hi
     simp only[uzC,uzB]at hc
     obtain⟨rfl,rfl⟩:=hc
     rcases hx.tuple_inv with⟨vs',rfl,hv⟩|h
     ·obtain⟨v',hv',hr⟩:=hv.get (i:=0) (x:=.bool b) (by simpa using hb)
      refine D2.same e ?_ hr
      have:vs'[0]? =some v' :=by simpa using hv'
      simp only[Instr.extract,this,Sem.run_pure]
     ·subst h;simp at hb
    ·simp at hc
   ·simp at hc
  ·rename_i hsz
   simp only[uzD,uzB]at hc
   obtain⟨u,huv,rfl,rfl⟩:=hc
   rcases hx.tuple_inv with⟨vs',rfl,hv⟩|h
   ·obtain⟨v',hv',hr⟩:=hv.get (i:=i) (x:=u) (by simpa using huv)
    refine D2.same e ?_ hr
    have:vs'[i]? =some v' :=by simpa using hv'
    simp only[Instr.extract,this,Sem.run_pure]
   ·subst h;exact absurd (uzP _) hsz
 ·simp at hc
theorem e4C(e:Emb P S m h w)(op:UnOp){x x' :Value}(hx:VR m x x'){v:Value}{h1:Heap}
  (hc:C7 (.un op x) h=some (v,h1)):D2 P S m h w (do pure (.value (<-Op.unary op x'))) v h1:=by
 simp only[C7,uzD,uzB]at hc
 obtain⟨u,hu,rfl,rfl⟩:=hc
 unfold un at hu
 split at hu
 ·rename_i k n
  obtain rfl:=uzA hu
  obtain rfl:=hx.int_inv
  exact D2.same e rfl (.int _ _)
 ·rename_i k n
  obtain rfl:=uzA hu
  obtain rfl:=hx.int_inv
  exact D2.same e rfl (.int _ _)
 ·rename_i b
  obtain rfl:=uzA hu
  obtain rfl:=hx.bool_inv
  exact D2.same e rfl (.bool _)
 ·simp at hu
end
section
variable {P:Program} {S:Stay} {m:Map} {h:Heap} {w:World}
theorem O8(op:BinOp)(t:TypeId)(x y:Operand)(a b:Value)(h1:a≠.nilIface)(h2:∀xs,a≠.agg xs):(eqGuard op t x y a b).run P w=.ok () w:=by
 cases a<;>first
  |exact absurd rfl h1
  |exact absurd rfl (h2 _)
  | (simp only[eqGuard];split<;>rfl)
theorem c7z(e:Emb P S m h w)(op:BinOp)(t:TypeId)(ox oy:Operand){x x' y y' :Value}(hx:VR m x x')(hy:VR m y y'){v:Value}{h1:Heap}
  (hc:C7 (.bin op x y) h=some (v,h1)):D2 P S m h w (a3m (do eqGuard op t ox oy x' y';binOp op t x' y')) v h1:=by
 simp only[C7,uzD,uzB]at hc
 obtain⟨u,hu,rfl,rfl⟩:=hc
 unfold bin at hu
 split at hu
 ·rename_i k a k' b
  obtain rfl:=hx.int_inv
  obtain rfl:=hy.int_inv
  have hg:=O8 (P:=P) (w:=w) op t ox oy (.int k a) (.int k' b) (by simp) (by simp)
  have fin:∀{u:Value},(binOp op t (.int k a) (.int k' b)).run P w=.ok u w->VR m u u->D2 P S m h w (a3m (do eqGuard op t ox oy (.int k a) (.int k' b);binOp op t (.int k a) (.int k' b))) u h:=by
   intro u h1 h2
   exact D2.same (s:=do eqGuard op t ox oy (.int k a) (.int k' b);binOp op t (.int k a) (.int k' b)) e (by simp only[Sem.run_bind,hg,Result.andThen_ok,h1]) h2
  cases op with
  |shl=>
   simp only[a3j]at hu
   split at hu
   ·simp at hu
   ·rename_i hn;obtain rfl:=uzA hu;exact fin (by simp only[binOp,Op.shift];rw[if_neg hn];rfl) (.int _ _)
  |shr=>
   simp only[a3j]at hu
   split at hu
   ·simp at hu
   ·rename_i hn;obtain rfl:=uzA hu;exact fin (by simp only[binOp,Op.shift];rw[if_neg hn];rfl) (.int _ _)
  |_=>
   simp only at hu
   split at hu
   ·rename_i hk
    subst hk
    simp only[b5W]at hu
    first
     | (obtain rfl:=uzA hu
        exact fin (by simp only[binOp,ne_eq,not_true_eq_false,if_false];rfl) (by constructor))
     | (split at hu
        ·simp at hu
        ·rename_i hb
         obtain rfl:=uzA hu
         exact fin (by simp only[binOp,ne_eq,not_true_eq_false,if_false,Op.intDiv];rw[if_neg hb];rfl) (.int _ _))
     | (simp at hu)
   ·simp at hu
 ·rename_i a b
  obtain rfl:=hx.string_inv
  obtain rfl:=hy.string_inv
  have hg:=O8 (P:=P) (w:=w) op t ox oy (.string a) (.string b) (by simp) (by simp)
  have fin:∀{u:Value},(binOp op t (.string a) (.string b)).run P w=.ok u w->VR m u u->D2 P S m h w (a3m (do eqGuard op t ox oy (.string a) (.string b);binOp op t (.string a) (.string b))) u h:=by
   intro u h1 h2
   exact D2.same (s:=do eqGuard op t ox oy (.string a) (.string b);binOp op t (.string a) (.string b)) e (by simp only[Sem.run_bind,hg,Result.andThen_ok,h1]) h2
  cases op with
  |add=>
   simp only[a5J]at hu
   split at hu
   ·rename_i hle
    obtain rfl:=uzA hu
    refine fin ?_ (.string _)
    have hm:IntKind.i64.max=9223372036854775807:=by decide
    simp only[binOp,Op.stringOp,hm]
    rw[if_neg (by omega)];rfl
   ·simp at hu
  |_=>
   simp only[a5J]at hu
   first
    | (obtain rfl:=uzA hu
       exact fin rfl (by constructor))
    | (simp at hu)
 ·simp at hu
theorem c7w(op:BinOp)(t:TypeId)(ox oy:Operand)(a b:Value)(neg:Bool)(hop:op=if neg then .neq else .eql)(r:Bool)
  (hg:(eqGuard op t ox oy a b).run P w=.ok () w) (hr:(Op.equalIn 10000 t a b).run P w=.ok r w)
  (hn1:∀k n,a≠.int k n) (hn2:∀k n,a≠.float k n) (hn3:∀k x y,a≠.complex k x y) (hn4:∀s,a≠.string s):
  (do eqGuard op t ox oy a b;binOp op t a b:Sem Value).run P w=.ok (.bool (if neg then !r else r)) w:=by
 have key:(binOp op t a b).run P w=.ok (.bool (if neg then !r else r)) w:=by
  subst hop
  cases neg with
  |false=>
   simp only[vgz,if_false]
   unfold binOp
   split<;>first
    | (exact absurd rfl (hn1 _ _))
    | (exact absurd rfl (hn2 _ _))
    | (exact absurd rfl (hn3 _ _ _))
    | (exact absurd rfl (hn4 _))
    | (simp[Op.equal,Op.maxDepth,hr];done)
    | (simp_all;done)
  |true=>
   simp only[if_true]
   unfold binOp
   split<;>first
    | (exact absurd rfl (hn1 _ _))
    | (exact absurd rfl (hn2 _ _))
    | (exact absurd rfl (hn3 _ _ _))
    | (exact absurd rfl (hn4 _))
    | (simp[Op.equal,Op.maxDepth,hr];done)
    | (simp_all;done)
 simp only[Sem.run_bind,hg,Result.andThen_ok,key]
def EqK.fits:EqK->(P:Program)->TypeDesc->Prop
 | .bool,_,.bool=>True
 | .ptr,P,.pointer e=>(P.info? e).isSome=true
 | .slice,_,.slice _=>True
 | .map,_,.map _ _=>True
 | .func,_,.func _ _ _=>True
 |_,_,_=>False
theorem T0(e:Emb P S m h w)(op:BinOp)(t:TypeId)(ox oy:Operand){d:TypeDesc}(ht:P.underlying t=some d)(kd:EqK)(hk:kd.fits P d)(neg:Bool)(hop:op=if neg then .neq else .eql)
  {x x' y y' :Value} (hx:VR m x x') (hy:VR m y y') {v:Value} {h1:Heap}
  (hc:C7 (.eqK kd neg x y) h=some (v,h1)):D2 P S m h w (a3m (do eqGuard op t ox oy x' y';binOp op t x' y')) v h1:=by
 simp only[C7,uzD,uzB]at hc
 obtain⟨r,hr,rfl,rfl⟩:=hc
 have fin:∀(hg1:x' ≠.nilIface) (hg2:∀xs,x' ≠.agg xs) (hn1:∀k n,x' ≠.int k n) (hn2:∀k n,x' ≠.float k n) (hn3:∀k p q,x' ≠.complex k p q) (hn4:∀s,x' ≠.string s)
   (hr:∀d,(Op.equalIn (d+1) t x' y').run P w=.ok r w),D2 P S m h w (a3m (do eqGuard op t ox oy x' y';binOp op t x' y')) (.bool (if neg then !r else r)) h:=by
  intro hg1 hg2 hn1 hn2 hn3 hn4 hr
  exact D2.same (s:=do eqGuard op t ox oy x' y';binOp op t x' y') e (c7w op t ox oy x' y' neg hop r (O8 op t ox oy x' y' hg1 hg2) (hr 9999) hn1 hn2 hn3 hn4) (.bool _)
 unfold eqK at hr
 split at hr
 ·rename_i a b
  obtain rfl:=uzA hr
  obtain rfl:=hx.bool_inv
  obtain rfl:=hy.bool_inv
  cases d<;>first|exact hk.elim|skip
  exact fin (by simp) (by simp) (by simp) (by simp) (by simp) (by simp) (fun d=>by simp[Op.equalIn,run_underlying' w ht])
 ·rename_i b
  obtain rfl:=uzA hr
  obtain rfl:=hx.nilPtr_inv
  cases d<;>first|exact hk.elim|skip
  cases b with
  |none=>obtain rfl:=hy.nilPtr_inv;exact fin (by simp) (by simp) (by simp) (by simp) (by simp) (by simp) (fun d=>by simp[Op.equalIn,run_underlying' w ht])
  |some a=>obtain⟨b,o,L,rfl,hb,rfl⟩:=hy.ptr_inv;exact fin (by simp) (by simp) (by simp) (by simp) (by simp) (by simp) (fun d=>by simp[Op.equalIn,run_underlying' w ht])
 ·obtain rfl:=uzA hr
  obtain⟨b,o,L,rfl,hb,rfl⟩:=hx.ptr_inv
  obtain rfl:=hy.nilPtr_inv
  cases d<;>first|exact hk.elim|skip
  exact fin (by simp) (by simp) (by simp) (by simp) (by simp) (by simp) (fun d=>by simp[Op.equalIn,run_underlying' w ht])
 ·rename_i a o b o'
  split at hr
  ·rename_i hab
   obtain⟨rfl,rfl⟩:=hab
   obtain rfl:=uzA hr
   obtain⟨b1,o1,L1,q1,hb1,rfl⟩:=hx.ptr_inv
   obtain⟨b2,o2,L2,q2,hb2,rfl⟩:=hy.ptr_inv
   obtain⟨rfl,rfl,_⟩:=Addr.mk.inj q1
   obtain⟨rfl,rfl,_⟩:=Addr.mk.inj q2
   rw[hb1]at hb2
   obtain rfl:=uzA hb2
   cases d<;>first|exact hk.elim|skip
   rename_i te
   obtain⟨j,hj⟩:=Option.isSome_iff_exists.1 hk
   exact fin (by simp) (by simp) (by simp) (by simp) (by simp) (by simp) (fun d=>by simp[Op.equalIn,run_underlying' w ht,sizeOf,typeInfo,hj,run_sameAddr_same])
  ·simp at hr
 ·rename_i b n c
  obtain rfl:=uzA hr
  obtain rfl:=hx.nilSlice_inv
  cases d<;>first|exact hk.elim|skip
  cases b with
  |none=>obtain rfl:=hy.nilSlice_inv;exact fin (by simp) (by simp) (by simp) (by simp) (by simp) (by simp) (fun d=>by simp[Op.equalIn,run_underlying' w ht])
  |some a=>
   rcases hy.slice_inv with⟨b,o,c',L,rfl,hb,hn,hcc,hg,rfl⟩| ⟨rfl,rfl,_,a',rfl,L0,hL0⟩<;>
   exact fin (by simp) (by simp) (by simp) (by simp) (by simp) (by simp) (fun d=>by simp[Op.equalIn,run_underlying' w ht])
 ·obtain rfl:=uzA hr
  obtain rfl:=hy.nilSlice_inv
  cases d<;>first|exact hk.elim|skip
  rcases hx.slice_inv with⟨b,o,c',L,rfl,hb,hn,hcc,hg,rfl⟩| ⟨rfl,rfl,_,a',rfl,L0,hL0⟩<;>
  exact fin (by simp) (by simp) (by simp) (by simp) (by simp) (by simp) (fun d=>by simp[Op.equalIn,run_underlying' w ht])
 ·rename_i b
  obtain rfl:=uzA hr
  obtain rfl:=hx.nilMap_inv
  cases d<;>first|exact hk.elim|skip
  cases b with
  |none=>obtain rfl:=hy.nilMap_inv;exact fin (by simp) (by simp) (by simp) (by simp) (by simp) (by simp) (fun d=>by simp[Op.equalIn,run_underlying' w ht])
  |some a=>obtain⟨L,hb,rfl⟩:=hy.map_inv;exact fin (by simp) (by simp) (by simp) (by simp) (by simp) (by simp) (fun d=>by simp[Op.equalIn,run_underlying' w ht])
 ·obtain rfl:=uzA hr
  obtain⟨L,hb,rfl⟩:=hx.map_inv
  obtain rfl:=hy.nilMap_inv
  cases d<;>first|exact hk.elim|skip
  exact fin (by simp) (by simp) (by simp) (by simp) (by simp) (by simp) (fun d=>by simp[Op.equalIn,run_underlying' w ht])
 ·obtain rfl:=uzA hr
  obtain rfl:=hx.nilFunc_inv
  obtain rfl:=hy.nilFunc_inv
  cases d<;>first|exact hk.elim|skip
  exact fin (by simp) (by simp) (by simp) (by simp) (by simp) (by simp) (fun d=>by simp[Op.equalIn,run_underlying' w ht])
 ·obtain rfl:=uzA hr
  obtain rfl:=hx.nilFunc_inv
  obtain⟨f',a',c',rfl⟩:=hy.func_some
  cases d<;>first|exact hk.elim|skip
  exact fin (by simp) (by simp) (by simp) (by simp) (by simp) (by simp) (fun d=>by simp[Op.equalIn,run_underlying' w ht])
 ·obtain rfl:=uzA hr
  obtain rfl:=hy.nilFunc_inv
  obtain⟨f',a',c',rfl⟩:=hx.func_some
  cases d<;>first|exact hk.elim|skip
  exact fin (by simp) (by simp) (by simp) (by simp) (by simp) (by simp) (fun d=>by simp[Op.equalIn,run_underlying' w ht])
 ·simp at hr
theorem I6{k:IntKind}{i:Int}{y:Nat}(code:BoundsCode)(hi:0<=i/\i<=y):(Instr.sliceBound (.int k i) y code).run P w=.ok i.toNat w:=by
 simp only[Instr.sliceBound,asIntOf,Sem.run_bind,Sem.run_pure,Result.andThen_ok,hi,and_self,if_true]
theorem a2m{u:Value}{d y b:Nat}(hb:J6 (some u) d y=some b):∃k i,u=.int k i/\0<=i/\i<=y/\b=i.toNat:=by
 simp only[J6]at hb
 split at hb
 ·rename_i heq;simp at heq
 ·rename_i k i heq
  obtain rfl:=uzA heq
  split at hb
  ·rename_i hr;exact⟨k,i,rfl,hr.1,hr.2,(uzA hb).symm⟩
  ·simp at hb
 ·simp at hb
theorem Z4{lo lo' :Option Value}(hlo:∀u,lo=some u->∃u',lo' =some u' /\VR m u u')(hlo0:lo=none->lo' =none){y y' mx mx' :Value}(hy:VR m y y')(hmx:VR m mx mx')
  {n0 n c' :Nat} (isS:Bool) (hcc:n<=c') {k b l:Nat} (hk:J6 (some mx) n n=some k) (hb:J6 (some y) k k=some b) (hl:J6 lo 0 b=some l):
  l<=b/\b<=k/\k<=n/\(Instr.sliceBounds isS n0 c' lo' (some y') (some mx')).run P w=.ok (l,b,k) w:=by
 obtain⟨k1,i1,rfl,p1,p2,rfl⟩:=a2m hk
 obtain⟨k2,i2,rfl,q1,q2,rfl⟩:=a2m hb
 obtain rfl:=hy.int_inv
 obtain rfl:=hmx.int_inv
 have r1:=I6 (P:=P) (w:=w) (k:=k1) (i:=i1) (y:=c') (if isS then .slice3Acap else .slice3Alen) ⟨p1,by omega⟩
 have r2:=I6 (P:=P) (w:=w) (k:=k2) (y:=i1.toNat) .slice3B ⟨q1,q2⟩
 cases lo with
 |none=>
  rw[hlo0 rfl]
  obtain rfl:l=0:=by simpa [J6,eq_comm]using hl
  refine⟨vJz _,by omega,by omega,?_⟩
  simp only[Instr.sliceBounds,Sem.run_bind,r1,r2,Result.andThen_ok,Sem.run_pure]
 |some u=>
  obtain⟨u',hu',hr⟩:=hlo u rfl
  obtain⟨k3,i3,rfl,s1,s2,rfl⟩:=a2m hl
  obtain rfl:=hr.int_inv
  rw[hu']
  have r3:=I6 (P:=P) (w:=w) (k:=k3) (y:=i2.toNat) .slice3C ⟨s1,s2⟩
  refine⟨by omega,by omega,by omega,?_⟩
  simp only[Instr.sliceBounds,Sem.run_bind,r1,r2,Option.isSome_some,if_true,r3,Result.andThen_ok,Sem.run_pure]
theorem X6{lo hi lo' hi' :Option Value}(hlo:∀u,lo=some u->∃u',lo' =some u' /\VR m u u')(hlo0:lo=none->lo' =none)(hhi:∀u,hi=some u->∃u',hi' =some u' /\VR m u u')(hhi0:hi=none->hi' =none)
  {n c c' :Nat} (isS:Bool) (hcc:c<=c') {b l:Nat} (hb:J6 hi n c=some b) (hl:J6 lo 0 b=some l):
  l<=b/\(hi=none->b=n)/\(hi≠none->b<=c)/\(Instr.sliceBounds isS n c' lo' hi' none).run P w=.ok (l,b,c') w:=by
 have h1:(∃k i,hi=some (.int k i)/\0<=i/\i<=c/\b=i.toNat)\/(hi=none/\b=n):=by
  cases hi with
  |none=>right;exact⟨rfl,(uzA hb).symm⟩
  |some u=>
   left
   simp only[J6]at hb
   split at hb
   ·rename_i heq;simp at heq
   ·rename_i k i heq
    obtain rfl:=uzA heq
    split at hb
    ·rename_i hr;exact⟨k,i,rfl,hr.1,hr.2,(uzA hb).symm⟩
    ·simp at hb
   ·simp at hb
 have h2:(∃k i,lo=some (.int k i)/\0<=i/\i<=b/\l=i.toNat)\/(lo=none/\l=0):=by
  cases lo with
  |none=>right;exact⟨rfl,(uzA hl).symm⟩
  |some u=>
   left
   simp only[J6]at hl
   split at hl
   ·rename_i heq;simp at heq
   ·rename_i k i heq
    obtain rfl:=uzA heq
    split at hl
    ·rename_i hr;exact⟨k,i,rfl,hr.1,hr.2,(uzA hl).symm⟩
    ·simp at hl
   ·simp at hl
 refine⟨?_,?_,?_,?_⟩
 ·rcases h2 with⟨k,i,_,h3,h4,h5⟩| ⟨_,h3⟩<;>omega
 ·intro hn;rcases h1 with⟨k,i,h3,_⟩| ⟨_,h3⟩
  ·rw[hn]at h3;simp at h3
  ·exact h3
 ·intro hn;rcases h1 with⟨k,i,_,h3,h4,h5⟩| ⟨h3,_⟩
  ·omega
  ·exact absurd h3 hn
 ·rcases h1 with⟨k,i,rfl,h3,h4,rfl⟩| ⟨rfl,rfl⟩
  ·obtain⟨u',rfl,hu⟩:=hhi _ rfl
   obtain rfl:=hu.int_inv
   rcases h2 with⟨k2,i2,rfl,h6,h7,rfl⟩| ⟨rfl,rfl⟩
   ·obtain⟨u',rfl,hu⟩:=hlo _ rfl
    obtain rfl:=hu.int_inv
    have s1:∀code,(Instr.sliceBound (.int k i) c' code).run P w=.ok i.toNat w:=fun code=>I6 code ⟨h3,by omega⟩
    have s2:∀code,(Instr.sliceBound (.int k2 i2) i.toNat code).run P w=.ok i2.toNat w:=fun code=>I6 code ⟨h6,h7⟩
    simp only[Instr.sliceBounds,Sem.run_bind,Sem.run_pure,Result.andThen_ok,s1,s2]
   ·rw[hlo0 rfl]
    have s1:∀code,(Instr.sliceBound (.int k i) c' code).run P w=.ok i.toNat w:=fun code=>I6 code ⟨h3,by omega⟩
    simp only[Instr.sliceBounds,Sem.run_bind,Sem.run_pure,Result.andThen_ok,s1]
  ·rw[hhi0 rfl]
   rcases h2 with⟨k2,i2,rfl,h6,h7,rfl⟩| ⟨rfl,rfl⟩
   ·obtain⟨u',rfl,hu⟩:=hlo _ rfl
    obtain rfl:=hu.int_inv
    have s2:∀code,(Instr.sliceBound (.int k2 i2) b code).run P w=.ok i2.toNat w:=fun code=>I6 code ⟨h6,h7⟩
    simp only[Instr.sliceBounds,Sem.run_bind,Sem.run_pure,Result.andThen_ok,s2]
   ·rw[hlo0 rfl]
    simp only[Instr.sliceBounds,Sem.run_bind,Sem.run_pure,Result.andThen_ok]
theorem b2J(e:Emb P S m h w){t:TypeId}(ht:P.underlying t=some .string){x x' :Value}(hx:VR m x x'){lo hi lo' hi' :Option Value}(hlo:∀u,lo=some u->∃u',lo' =some u' /\VR m u u')(hlo0:lo=none->lo' =none)
  (hhi:∀u,hi=some u->∃u',hi' =some u' /\VR m u u') (hhi0:hi=none->hi' =none) {v:Value} {h1:Heap}
  (hc:C7 (.sliceStr x lo hi) h=some (v,h1)):D2 P S m h w (do pure (.value (<-Instr.sliceAt t x' lo' hi' none))) v h1:=by
 simp only[C7]at hc
 split at hc
 ·rename_i s
  simp only[vhz,uzD,uzB]at hc
  obtain⟨b,hb,l,hl,rfl,rfl⟩:=hc
  obtain rfl:=hx.string_inv
  obtain⟨_,_,_,hrun⟩:=X6 (P:=P) (w:=w) hlo hlo0 hhi hhi0 false (uzP s.size) hb hl
  refine D2.same e ?_ (.string _)
  simp only[Instr.sliceAt,Sem.run_bind,run_underlying' w ht,Result.andThen_ok,Instr.slice,Option.isSome_none,vgz,if_false,Sem.run_pure,hrun]
 ·simp at hc
theorem c9C(e:Emb P S m h w){t t' :TypeId}(ht:P.underlying t=some (.slice t'))(hft:N3 P t' =true){x x' :Value}(hx:VR m x x'){lo hi lo' hi' :Option Value}(hlo:∀u,lo=some u->∃u',lo' =some u' /\VR m u u')(hlo0:lo=none->lo' =none)
  (hhi:∀u,hi=some u->∃u',hi' =some u' /\VR m u u') (hhi0:hi=none->hi' =none) {v:Value} {h1:Heap}
  (hc:C7 (.slice t' (P.cellsOf t') x lo hi) h=some (v,h1)):D2 P S m h w (do pure (.value (<-Instr.sliceAt t x' lo' hi' none))) v h1:=by
 obtain⟨d,i,hu,hi2⟩:=G9 hft
 simp only[C7]at hc
 split at hc
 ·rename_i n c
  simp only[vhz,uzD,uzB]at hc
  obtain⟨b,hb,l,hl,rfl,rfl⟩:=hc
  obtain rfl:=hx.nilSlice_inv
  obtain⟨_,_,_,hrun⟩:=X6 (P:=P) (w:=w) hlo hlo0 hhi hhi0 true (uzP c) hb hl
  refine D2.same e (v' :=.slice none (b-l) (c-l)) ?_ (.nilSlice _ _)
  simp only[Instr.sliceAt,Sem.run_bind,run_underlying' w ht,Result.andThen_ok,Instr.slice,Sem.run_pure,hrun,run_sizeOf' w hi2,Option.map_none,ite_self]
 ·rename_i a n c
  split at hc
  ·rename_i hok
   simp only[vhz,uzD,uzB]at hc
   obtain⟨b,hb,l,hl,rfl,rfl⟩:=hc
   rcases hx.slice_inv with⟨bb,o,c',L,rfl,hbb,hn,hcc,hg,rfl⟩| ⟨rfl,rfl,hsp,a',rfl,L0,hL0⟩
   ·obtain⟨q1,q2,q3,hrun⟩:=X6 (P:=P) (w:=w) hlo hlo0 hhi hhi0 true hcc hb hl
    have e1:∀(b o n:Nat),(⟨b,o,none⟩:Addr).add n=⟨b,o+n,none⟩:=fun b o n=>by
     unfold Addr.add;split
     ·rename_i h;subst h;rfl
     ·rfl
    have hbc:b<=c:=by
     by_cases hz:hi=none
     ·rw[q2 hz];exact hn
     ·exact q3 hz
    by_cases hcl:c' =l
    ·subst hcl
     have hbl:b-c' =0/\c-c' =0:=by omega
     refine D2.same e (v' :=.slice (some ⟨L.blk,L.sh+o,none⟩) 0 0) ?_ ?_
     ·simp only[Instr.sliceAt,Sem.run_bind,run_underlying' w ht,Result.andThen_ok,Instr.slice,Sem.run_pure,hrun,run_sizeOf' w hi2,if_true,hbl.1,vKz]
     ·rw[hbl.1,hbl.2,e1];exact .slice0 _ _ L _ hbb
    ·refine D2.same e (v' :=.slice (some ((⟨L.blk,L.sh+o,none⟩:Addr).add (l*P.cellsOf t'))) (b-l) (c' -l)) ?_ ?_
     ·simp only[Instr.sliceAt,Sem.run_bind,run_underlying' w ht,Result.andThen_ok,Instr.slice,Sem.run_pure,hrun,run_sizeOf' w hi2]
      rw[if_neg hcl];rfl
     ·rw[e1,e1,Nat.add_assoc]
      refine .slice bb (o+l*P.cellsOf t') (b-l) (c-l) (c' -l) L hbb (by omega) (by omega) fun hgr=>?_
      have hunit:L.unit=P.cellsOf t' :=by
       cases ho:h.obj bb with
       |cells cs t2 g=>
        have k7:=a3e e hbb ho
        have:g=.grow:=by
         rw[hgr]at k7
         cases g with
         |grow=>rfl
         |ro=>exact absurd k7 (by decide)
         |fix=>exact absurd k7 (by decide)
        subst this
        obtain⟨_,_,_,_,_,_,_,k6,_⟩:=M9 e hbb ho (.inl (by simp))
        have hh:(h.obj bb).elemOk t' =true:=hok
        rw[ho]at hh
        have:t2=t' :=by simpa [Obj.elemOk]using hh
        rw[k6,this]
       |_=>have hh:(h.obj bb).elemOk t' =true:=hok;rw[ho]at hh;simp[Obj.elemOk]at hh
      have h0:=hg hgr
      rw[hunit]at h0 ⊢
      have h2:(c' -l)*P.cellsOf t' +l*P.cellsOf t' <=c' *P.cellsOf t' :=by
       rw[<-vDz];exact vzz _ (by omega)
      omega
   ·obtain⟨q1,q2,q3,hrun⟩:=X6 (P:=P) (w:=w) hlo hlo0 hhi hhi0 true (uzP 0) hb hl
    have hb0:b=0:=by
     by_cases hn:hi=none
     ·exact q2 hn
     ·have:=q3 hn;omega
    have hl0:l=0:=by omega
    subst hb0;subst hl0
    refine D2.same e (v' :=.slice (some a') 0 0) ?_ ?_
    ·simp only[Instr.sliceAt,Sem.run_bind,run_underlying' w ht,Result.andThen_ok,Instr.slice,Sem.run_pure,hrun,run_sizeOf' w hi2,if_true,vKz]
    ·obtain⟨b,o,s⟩:=a
     simp only at hsp
     subst hsp
     simp only[Nat.zero_mul]
     exact .slice0 b o L0 a' hL0
  ·simp at hc
 ·simp at hc
theorem b7o(e:Emb P S m h w){t t' :TypeId}(ht:P.underlying t=some (.slice t'))(hft:N3 P t' =true){x x' :Value}(hx:VR m x x'){lo hi lo' hi' :Option Value}(hlo:∀u,lo=some u->∃u',lo' =some u' /\VR m u u')(hlo0:lo=none->lo' =none)
  (hhi:∀u,hi=some u->∃u',hi' =some u' /\VR m u u') {mx mx' :Value} (hmx:VR m mx mx') {v:Value} {h1:Heap}
  (hc:C7 (.slice3 t' (P.cellsOf t') x lo hi mx) h=some (v,h1)):D2 P S m h w (do pure (.value (<-Instr.sliceAt t x' lo' hi' (some mx')))) v h1:=by
 obtain⟨d,i,hu,hi2⟩:=G9 hft
 simp only[C7]at hc
 split at hc
 ·rename_i n c y
  simp only[vhz,uzD,uzB]at hc
  obtain⟨k,hk,b,hb,l,hl,rfl,rfl⟩:=hc
  obtain rfl:=hx.nilSlice_inv
  obtain⟨y',rfl,hy⟩:=hhi y rfl
  obtain⟨_,_,_,hrun⟩:=Z4 (P:=P) (w:=w) (n0:=n) hlo hlo0 hy hmx true (uzP c) hk hb hl
  refine D2.same e (v' :=.slice none (b-l) (k-l)) ?_ (.nilSlice _ _)
  simp only[Instr.sliceAt,Sem.run_bind,run_underlying' w ht,Result.andThen_ok,Instr.slice,Sem.run_pure,hrun,run_sizeOf' w hi2,Option.map_none,ite_self]
 ·rename_i a n c y
  split at hc
  ·rename_i hok
   simp only[vhz,uzD,uzB]at hc
   obtain⟨k,hk,b,hb,l,hl,rfl,rfl⟩:=hc
   obtain⟨y',rfl,hy⟩:=hhi y rfl
   rcases hx.slice_inv with⟨bb,o,c',L,rfl,hbb,hn,hcc,hg,rfl⟩| ⟨rfl,rfl,hsp,a',rfl,L0,hL0⟩
   ·obtain⟨q1,q2,q3,hrun⟩:=Z4 (P:=P) (w:=w) (n0:=n) hlo hlo0 hy hmx true hcc hk hb hl
    have e1:∀(b o n:Nat),(⟨b,o,none⟩:Addr).add n=⟨b,o+n,none⟩:=fun b o n=>by
     unfold Addr.add;split
     ·rename_i h;subst h;rfl
     ·rfl
    by_cases hcl:k=l
    ·subst hcl
     have hbl:b-k=0:=by omega
     refine D2.same e (v' :=.slice (some ⟨L.blk,L.sh+o,none⟩) 0 0) ?_ ?_
     ·simp only[Instr.sliceAt,Sem.run_bind,run_underlying' w ht,Result.andThen_ok,Instr.slice,Sem.run_pure,hrun,run_sizeOf' w hi2,if_true,hbl,vKz]
     ·rw[hbl,vKz,e1];exact .slice0 _ _ L _ hbb
    ·refine D2.same e (v' :=.slice (some ((⟨L.blk,L.sh+o,none⟩:Addr).add (l*P.cellsOf t'))) (b-l) (k-l)) ?_ ?_
     ·simp only[Instr.sliceAt,Sem.run_bind,run_underlying' w ht,Result.andThen_ok,Instr.slice,Sem.run_pure,hrun,run_sizeOf' w hi2]
      rw[if_neg hcl];rfl
     ·rw[e1,e1,Nat.add_assoc]
      refine .slice bb (o+l*P.cellsOf t') (b-l) (k-l) (k-l) L hbb (by omega) (uzP _) fun hgr=>?_
      have hunit:L.unit=P.cellsOf t' :=by
       cases ho:h.obj bb with
       |cells cs t2 g=>
        have k7:=a3e e hbb ho
        have:g=.grow:=by
         rw[hgr]at k7
         cases g with
         |grow=>rfl
         |ro=>exact absurd k7 (by decide)
         |fix=>exact absurd k7 (by decide)
        subst this
        obtain⟨_,_,_,_,_,_,_,k6,_⟩:=M9 e hbb ho (.inl (by simp))
        have hh:(h.obj bb).elemOk t' =true:=hok
        rw[ho]at hh
        have:t2=t' :=by simpa [Obj.elemOk]using hh
        rw[k6,this]
       |_=>have hh:(h.obj bb).elemOk t' =true:=hok;rw[ho]at hh;simp[Obj.elemOk]at hh
      have h0:=hg hgr
      rw[hunit]at h0 ⊢
      have h2:(k-l)*P.cellsOf t' +l*P.cellsOf t' <=c' *P.cellsOf t' :=by
       rw[<-vDz];exact vzz _ (by omega)
      omega
   ·obtain⟨q1,q2,q3,hrun⟩:=Z4 (P:=P) (w:=w) (n0:=0) hlo hlo0 hy hmx true (uzP 0) hk hb hl
    have hb0:k=0/\b=0/\l=0:=by omega
    obtain⟨rfl,rfl,rfl⟩:=hb0
    refine D2.same e (v' :=.slice (some a') 0 0) ?_ ?_
    ·simp only[Instr.sliceAt,Sem.run_bind,run_underlying' w ht,Result.andThen_ok,Instr.slice,Sem.run_pure,hrun,run_sizeOf' w hi2,if_true,vKz]
    ·obtain⟨b,o,s⟩:=a
     simp only at hsp
     subst hsp
     simp only[Nat.zero_mul]
     exact .slice0 b o L0 a' hL0
  ·simp at hc
 ·simp at hc
end
section
variable {P:Program} {S:Stay} {m:Map} {h:Heap} {w:World}
theorem U0(z:List Value):∀n,(G0 n z).length=n*z.length
 |0=>by simp[G0]
 |n+1=>by rw[G0,uzG,U0 z n,vDz];omega
theorem b5h(z:List Value):∀n i,i<n*z.length->(G0 n z)[i]? =z[i % z.length]?
 |0,i,hi=>by omega
 |n+1,i,hi=>by
  rw[G0]
  by_cases h:i<z.length
  ·rw[vuz h,Nat.mod_eq_of_lt h]
  ·have hz:0<z.length:=by
    rcases Nat.eq_zero_or_pos z.length with h0|h0
    ·rw[h0]at hi;omega
    ·exact h0
   rw[vDz]at hi
   rw[vfz (vGz h),b5h z n (i-z.length) (by omega)]
   congr 1
   rw[<-Nat.mod_eq_sub_mod (vGz h)]
theorem a8H(z:Array Value)(n k:Nat)(hk:k=n*z.size):((Array.range k).map (fun i=>z[i % z.size]!)).toList=G0 n z.toList:=by
 subst hk
 apply List.ext_getElem?
 intro i
 simp only[Array.toList_map,Array.toList_range,uzJ]
 by_cases hi:i<n*z.size
 ·have hz:0<z.size:=by
   rcases Nat.eq_zero_or_pos z.size with h0|h0
   ·rw[h0]at hi;omega
   ·exact h0
  have hm:i % z.size<z.size:=Nat.mod_lt _ hz
  rw[b5h z.toList n i (by simpa using hi)]
  simp only[Array.length_toList]
  rw[List.getElem?_range hi,vlz,Array.getElem?_toList,Array.getElem?_eq_getElem hm]
  congr 1
  simp[getElem!_pos z (i % z.size) hm]
 ·rw[vmz (l:=G0 n z.toList) (by rw[U0];simpa using vGz hi),vmz (by simpa using vGz hi)]
  rfl
theorem X4(z:List Value)(hz:z.all selfS=true):∀n,(G0 n z).all selfS=true
 |0=>rfl
 |n+1=>by rw[G0,List.all_append,hz,X4 z hz n];rfl
theorem a4F:∀(vs:List Value) (k off:Nat) (cells:Array Value),
  ((vs.zipIdx k).foldl (fun(cs:Array Value) (p:Value×Nat)=>cs.setIfInBounds (off+p.2) p.1) cells).toList=setAt cells.toList (off+k) vs
 | [],_,_,_=>rfl
 |v::vs,k,off,cells=>by
  simp only[List.zipIdx_cons,List.foldl_cons,setAt]
  rw[a4F vs (k+1) off]
  simp[Nat.add_assoc]
theorem c8O(vs:Array Value)(off:Nat)(cells:Array Value):
  (vs.zipIdx.foldl (fun(cs:Array Value) (x:Value×Nat)=>match x with| (c,j)=>cs.setIfInBounds (off+j) c) cells).toList=setAt cells.toList off vs.toList:=by
 rw[<-Array.foldl_toList,Array.toList_zipIdx]
 exact a4F vs.toList 0 off cells
inductive PR (m:Map) (place:Nat->Option (Nat×Nat)):List (Nat×Nat×Value)->List (Nat×Value)->Prop
 |nil:PR m place [] []
 |cons (i off size:Nat) (v v' :Value) (l:List (Nat×Nat×Value)) (l' :List (Nat×Value)) (hp:place i=some (off,size)) (hv:VR m v v') (h:PR m place l l'):
   PR m place ((off,size,v)::l) ((i,v')::l')
theorem a7P{place:Nat->Option (Nat×Nat)}{l:List (Nat×Nat×Value)}{l' :List (Nat×Value)}(hl:PR m place l l'):∀{z:List Value} {z' :Array Value} {cs:List Value},VL m z z'.toList->
  y6 z l=some cs->(z.all E9=true->cs.all E9=true)/\∃cs',Instr.fill place z' l' =some cs' /\VL m cs cs'.toList:=by
 induction hl with
 |nil=>intro z z' cs hz hc;obtain rfl:=uzA hc;exact⟨id,z',rfl,hz⟩
 |cons i off size v v' l l' hp hv _ ih=>
  intro z z' cs hz hc
  simp only[y6]at hc
  split at hc
  ·rename_i fs hf
   obtain⟨k1,k2,k3,k4⟩:=a7R hv hf
   split at hc
   ·rename_i hle
    have hzl:=hz.1
    have hcond:(decide (v'.cells.size≠size) ||decide (off+v'.cells.size>z'.size))=false:=by
     have a1:v'.cells.size=size:=by omega
     have a2:¬(off+v'.cells.size>z'.size):=by simp at hzl;omega
     simp[a1,a2]
     omega
    obtain⟨hs,cs',h1,h2⟩:=ih (z:=setAt z off fs) (z' :=v'.cells.zipIdx.foldl (fun(cs:Array Value) (x:Value×Nat)=>match x with| (c,j)=>cs.setIfInBounds (off+j) c) z') (by rw[c8O];exact VL.setAt off hz k1) hc
    refine⟨fun hz=>hs (a3W _ _ _ hz k4),cs',?_,h2⟩
    simp only[Instr.fill,hp]
    rw[if_neg (by simpa using hcond)]
    exact h1
   ·simp at hc
  ·simp at hc
theorem b2A(e:Emb P S m h w){t t' :TypeId}{n:Nat}(ht:P.underlying t=some (.array n t'))(hft:N3 P t' =true){z:List Value}(hz:W6 P t=some z){ps:List (Nat×Value)}{ps' :Array (Nat×Value)}
  (hp:PR m (fun i=>some (i*P.cellsOf t',P.cellsOf t')) (ps.map fun x=>(x.1*P.cellsOf t',P.cellsOf t',x.2)) ps'.toList) {v:Value} {h1:Heap}
  (hc:C7 (.build z (ps.map fun x=>(x.1*P.cellsOf t',P.cellsOf t',x.2))) h=some (v,h1)):D2 P S m h w (do pure (.value (<-Instr.build t ps'))) v h1:=by
 obtain⟨d,i,hu,hi⟩:=G9 hft
 obtain⟨zv,iz,z1,z2,z3,z4,z5,z6⟩:=M6 hz
 simp only[C7,uzD,uzB]at hc
 obtain⟨cs,hcs,rfl,rfl⟩:=hc
 obtain⟨hsc,cs',hf,hv⟩:=a7P hp (z:=z) (z' :=zv.cells) (by rw[z2];exact VL.selfS z3) hcs
 refine D2.same e (v' :=.agg cs') ?_ (VR.agg_of (by simpa using hv))
 simp only[Instr.build,Sem.run_bind,run_zeroValue' w z1,run_underlying' w ht,Result.andThen_ok,run_sizeOf' w hi,hf,Sem.run_pure]
theorem b7i(fs:List Field)(hfs:∀f∈fs,(P.info? f.type).isSome=true):
  (fs.mapM fun f=>do pure (f.offset,<-sizeOf f.type):Sem (List (Nat×Nat))).run P w=.ok (fs.map fun f=>(f.offset,P.cellsOf f.type)) w:=by
 induction fs with
 |nil=>rfl
 |cons f fs ih=>
  have h1:=hfs f (by simp)
  cases hi:P.info? f.type with
  |none=>rw[hi]at h1;simp at h1
  |some i=>
   simp only[List.mapM_cons,Sem.run_bind,run_sizeOf' w hi,Result.andThen_ok,Sem.run_pure,ih (fun g hg=>hfs g (by simp[hg])),List.map_cons]
theorem a4Z(e:Emb P S m h w){t:TypeId}{fs:Array Field}(ht:P.underlying t=some (.struct fs))(hfs:∀f∈fs.toList,(P.info? f.type).isSome=true){z:List Value}(hz:W6 P t=some z){l:List (Nat×Nat×Value)}{ps' :Array (Nat×Value)}
  (hp:PR m (fun i=>(fs[i]?).map fun f=>(f.offset,P.cellsOf f.type)) l ps'.toList) {v:Value} {h1:Heap}
  (hc:C7 (.build z l) h=some (v,h1)):D2 P S m h w (do pure (.value (<-Instr.build t ps'))) v h1:=by
 obtain⟨zv,iz,z1,z2,z3,z4,z5,z6⟩:=M6 hz
 simp only[C7,uzD,uzB]at hc
 obtain⟨cs,hcs,rfl,rfl⟩:=hc
 obtain⟨hsc,cs',hf,hv⟩:=a7P hp (z:=z) (z' :=zv.cells) (by rw[z2];exact VL.selfS z3) hcs
 have hpl:(fs.mapM fun f=>do pure (f.offset,<-sizeOf f.type):Sem (Array (Nat×Nat))).run P w=.ok (fs.map fun f=>(f.offset,P.cellsOf f.type)) w:=by
  rw[Array.mapM_eq_mapM_toList]
  rw[Sem.run_map,b7i fs.toList hfs]
  simp only[Result.andThen_ok]
  congr 1
  apply Array.ext'
  simp
 have hpl2:(fun i:Nat=>(fs.map fun f:Field=>(f.offset,P.cellsOf f.type))[i]?)=(fun i=>(fs[i]?).map fun f=>(f.offset,P.cellsOf f.type)):=by
  funext i;simp
 refine D2.same e (v' :=.agg cs') ?_ (VR.agg_of (by simpa using hv))
 simp only[Instr.build,Sem.run_bind,run_zeroValue' w z1,run_underlying' w ht,Result.andThen_ok,hpl,hpl2,hf,Sem.run_pure]
theorem a0p{n c c' tot:Nat}{t:TypeId}(hnc:n<=c)(hcc:c<=c')(blk:Nat)(htot:c' *P.cellsOf t<=tot)(b:Nat)(g:Bool)(m:Map):
  VR (m.put b ⟨blk,0,tot,P.cellsOf t,g⟩) (.slice (some ⟨b,0,none⟩) n c) (.slice (some ⟨blk,0,none⟩) n c'):=by
 have:=VR.slice (m:=m.put b ⟨blk,0,tot,P.cellsOf t,g⟩) b 0 n c c' ⟨blk,0,tot,P.cellsOf t,g⟩ (by simp[Map.put]) hnc hcc (fun _=>by simpa using htot)
 simpa using this
theorem a8v(e:Emb P S m h w)(hfr:m h.next=none){t t' :TypeId}(ht:P.underlying t=some (.slice t')){z:List Value}(hz:W6 P t' =some z){n:Nat}(hn:n*P.cellsOf t' <=16777216){ps:List (Nat×Value)}{ps' :Array (Nat×Value)}
  (hp:PR m (fun i=>some (i*P.cellsOf t',P.cellsOf t')) (ps.map fun x=>(x.1*P.cellsOf t',P.cellsOf t',x.2)) ps'.toList) {v:Value} {h1:Heap}
  (hc:C7 (.buildSlice t' n z (ps.map fun x=>(x.1*P.cellsOf t',P.cellsOf t',x.2))) h=some (v,h1)):D2 P S m h w (do pure (.value (<-Instr.buildSlice t n ps'))) v h1:=by
 obtain⟨zv,iz,z1,z2,z3,z4,z5,z6⟩:=M6 hz
 simp only[C7,uzD,uzB]at hc
 obtain⟨cs,hcs,rfl,rfl⟩:=hc
 have zsz:zv.cells.size=P.cellsOf t' :=by rw[<-Array.length_toList,z2,z4]
 have hzz:((Array.range (n*P.cellsOf t')).map fun i=>zv.cells[i % zv.cells.size]!).toList=G0 n z:=by
  rw[a8H zv.cells n _ (by rw[zsz]),z2]
 obtain⟨hsc,cs',hf,hv⟩:=a7P hp (z:=G0 n z) (z' :=(Array.range (n*P.cellsOf t')).map fun i=>zv.cells[i % zv.cells.size]!) (by rw[hzz];exact VL.selfS (X4 z z3 n)) hcs
 have hlen:∀(l:List (Nat×Nat×Value)) (a b:List Value),y6 a l=some b->b.length=a.length:=by
  intro l
  induction l with
  |nil=>intro a b hb;obtain rfl:=uzA hb;rfl
  |cons x l ih=>
   intro a b hb
   obtain⟨o,s,v⟩:=x
   simp only[y6]at hb
   split at hb
   ·split at hb
    ·rw[ih _ _ hb,K4]
    ·simp at hb
   ·simp at hb
 have hsz:cs'.size=n*P.cellsOf t' :=by
  have h1:=hlen _ _ _ hcs
  rw[U0,z4]at h1
  have h2:=hv.1
  simp at h2;omega
 refine D2.val (s:=Instr.buildSlice t n ps') (v' :=.slice (some ⟨w.heap.size,0,none⟩) n n) (w1:=w.alloc (.cells cs' t')) ?_ (a0p (uzP n) (uzP n) w.heap.size (by omega) h.next _ m) (a1M e hfr t' .grow hv (hsc (H5 (X4 z z3 n))))
 have hng:¬(n*P.cellsOf t' >2 ^ 24):=by omega
 by_cases h0:n*P.cellsOf t' =0
 ·have hf0:Instr.fill (fun i=>some (i*P.cellsOf t',P.cellsOf t')) ((Array.range 0).map fun i=>(#[]:Array Value)[i % (#[]:Array Value).size]!) ps'.toList=some cs' :=by
   rw[<-hf];congr 1;rw[h0];simp
  have hng0:¬((0:Nat)>2 ^ 24):=by omega
  simp only[Instr.buildSlice,Sem.run_bind,run_underlying' w ht,Result.andThen_ok,run_sizeOf' w z6,hng0,if_false,Sem.run_pure,h0,if_true,hf0,newRow,run_newObj_alloc]
 ·simp only[Instr.buildSlice,Sem.run_bind,run_underlying' w ht,Result.andThen_ok,run_sizeOf' w z6,hng,if_false,Sem.run_pure,h0,run_zeroValue' w z1,hf,newRow,run_newObj_alloc]
theorem a8V(e:Emb P S m h w)(hfr:m h.next=none){t t' :TypeId}(ht:P.underlying t=some (.slice t')){z:List Value}(hz:W6 P t' =some z){x x' y y' :Value}(hx:VR m x x')(hy:VR m y y'){v:Value}{h1:Heap}
  (hc:C7 (.makeSlice t' (P.cellsOf t') (P.bytesOf t') z x y) h=some (v,h1)):D2 P S m h w (do pure (.value (<-Instr.makeSlice t x' y'))) v h1:=by
 obtain⟨zv,iz,z1,z2,z3,z4,z5,z6⟩:=M6 hz
 simp only[C7]at hc
 split at hc
 ·rename_i n c
  obtain rfl:=hx.int_inv
  obtain rfl:=hy.int_inv
  split at hc
  ·rename_i hcond
   obtain⟨q1,q2,q3,q4,q5⟩:=hcond
   simp only[uzC,uzB]at hc
   obtain⟨rfl,rfl⟩:=hc
   have zsz:zv.cells.size=P.cellsOf t' :=by rw[<-Array.length_toList,z2,z4]
   have wn:IntKind.i64.wrap n=n:=by
    show(if(true && decide (n % 18446744073709551616>=9223372036854775808))=true then n % 18446744073709551616-18446744073709551616 else n % 18446744073709551616)=n
    simp only[Bool.true_and,decide_eq_true_eq];split<;>omega
   have wc:IntKind.i64.wrap c=c:=by
    show(if(true && decide (c % 18446744073709551616>=9223372036854775808))=true then c % 18446744073709551616-18446744073709551616 else c % 18446744073709551616)=c
    simp only[Bool.true_and,decide_eq_true_eq];split<;>omega
   have hb:¬((decide (c<0) ||decide ((P.bytesOf t' :Int)*c>2 ^ 48)) ||decide (n<0) ||decide (n>c))=true:=by
    have h1:¬(c<0):=by omega
    have h2:¬(n<0):=by omega
    have h3:¬(n>c):=by omega
    have h4:¬((P.bytesOf t' :Int)*c>2 ^ 48):=by
     rw[Int.mul_comm]
     have:(2:Int) ^ 48=281474976710656:=by decide
     omega
    simp only[h1,h2,h3,h4,decide_false,Bool.or_false,vgz,not_false_eq_true]
   have hcells:∀(cells:Array Value),cells.toList=G0 c.toNat z->cells.size=c.toNat*P.cellsOf t' :=by
    intro cells hcl
    rw[<-Array.length_toList,hcl,U0,z4]
   have hby:iz.bytes=P.bytesOf t' :=by simp[Program.bytesOf,z6]
   have key:∃cells:Array Value,cells.toList=G0 c.toNat z/\(Instr.makeSlice t (.int .i64 n) (.int .i64 c)).run P w=.ok (.slice (some ⟨w.heap.size,0,none⟩) n.toNat c.toNat) (w.alloc (.cells cells t')):=by
    by_cases h0:c.toNat*P.cellsOf t' =0
    ·refine⟨(Array.range (c.toNat*P.cellsOf t')).map fun i=>(#[]:Array Value)[i % (#[]:Array Value).size]!,?_,?_⟩
     ·have:(G0 c.toNat z).length=0:=by rw[U0,z4];exact h0
      rw[List.length_eq_zero_iff.1 this,h0];simp
     ·simp only[Instr.makeSlice,asInt,asIntOf,Sem.run_bind,Sem.run_map,run_underlying' w ht,Result.andThen_ok,Sem.run_pure,run_typeInfo' w z6,hby,wn,wc,hb,vgz,if_false,run_askRoom,run_sizeOf' w z6,h0,if_true,newRow,run_newObj_alloc]
    ·refine⟨(Array.range (c.toNat*P.cellsOf t')).map fun i=>zv.cells[i % zv.cells.size]!,?_,?_⟩
     ·rw[a8H zv.cells c.toNat _ (by rw[zsz]),z2]
     ·simp only[Instr.makeSlice,asInt,asIntOf,Sem.run_bind,Sem.run_map,run_underlying' w ht,Result.andThen_ok,Sem.run_pure,run_typeInfo' w z6,hby,wn,wc,hb,vgz,if_false,run_askRoom,run_sizeOf' w z6,h0,run_zeroValue' w z1,newRow,run_newObj_alloc]
   obtain⟨cells,hcl,hrun⟩:=key
   have hsz:=hcells cells hcl
   exact D2.val (s:=Instr.makeSlice t (.int .i64 n) (.int .i64 c)) hrun (a0p (by omega) (uzP _) w.heap.size (by omega) h.next _ m) (a1M e hfr t' .grow (by rw[hcl];exact VL.selfS (X4 z z3 _)) (H5 (X4 z z3 _)))
  ·simp at hc
 ·simp at hc
end
section
variable {P:Program} {S:Stay} {m:Map} {h:Heap} {w:World}
theorem a3l(h:Heap)(b:Nat):h.upd b (h.obj b)=h:=by
 cases h;simp only[Heap.upd];congr 1;funext x;split<;>simp_all
theorem a1Q{o:Obj}{n:Nat}{ob:Obj}(hw:o.write n []=some ob):ob=o:=by
 cases o with
 |cells c e g=>
  simp only[Obj.write]at hw
  split at hw
  ·simp at hw
  ·split at hw
   ·simpa [setAt]using (uzA hw).symm
   ·simp at hw
 |_=>simp[Obj.write]at hw
theorem b2Z(s:ByteArray):((s.extract 0 s.size).data.map fun b=>Value.int .u8 b.toNat).toList=B6 s.data.toList:=by
 have:s.extract 0 s.size=s:=by
  apply ByteArray.ext
  rw[ByteArray.data_extract]
  have h1:s.size=s.data.size:=rfl
  rw[h1]
  exact Array.extract_size
 rw[this];simp[B6]
theorem R9(l:List UInt8):(B6 l).all selfS=true:=by simp[B6,selfS]
theorem a1O(e:Emb P S m h w){size:Nat}{y y' :Value}(hy:VR m y y'){new:List Value}{k:Nat}(hs:D1 h size y=some (new,k)):
  (Builtin.lenOf y').run P w=.ok k w/\new.all E9=true/\new.length=k*size/\
   ∃new' :Array Value,VL m new new'.toList/\(Builtin.firstCells size k y').run P w=.ok new' w:=by
 unfold D1 at hs
 split at hs
 ·rename_i n c
  split at hs
  ·rename_i hn
   simp only[uzC,uzB]at hs
   obtain⟨rfl,rfl⟩:=hs
   obtain rfl:=hy.nilSlice_inv
   subst hn
   exact⟨rfl,rfl,by simp,#[],VL.nil m,rfl⟩
  ·simp at hs
 ·rename_i a n c
  split at hs
  ·rename_i hsp
   simp only[uzD,uzB]at hs
   obtain⟨cs,hcs,rfl,rfl⟩:=hs
   rcases hy.slice_inv with⟨b,o,c',L,rfl,hb,hn,hcc,hg,rfl⟩| ⟨rfl,rfl,_,a',rfl,L0,hL0⟩
   ·obtain⟨hl,cs',hv,hcell⟩:=a1r e hb (b5x hcs)
    have hl' :cs'.length=n*size:=by rw[<-hv.1];exact hl
    refine⟨rfl,e2i e hb hcs,hl,cs'.toArray,by simpa using hv,?_⟩
    have:=J3 (P:=P) hcell
    rw[hl']at this
    simp only[Builtin.firstCells,this]
   ·have hcs:=b5x hcs
    have:cs=[]:=by
     cases ho:h.obj a.block with
     |cells c t g=>
      rw[ho]at hcs
      simp only[Obj.read,Nat.zero_mul]at hcs
      split at hcs
      ·exact(by simpa using (uzA hcs).symm)
      ·simp at hcs
     |_=>rw[ho]at hcs;simp[Obj.read]at hcs
    subst this
    refine⟨rfl,rfl,by simp,#[],VL.nil m,?_⟩
    simp only[Builtin.firstCells,Nat.zero_mul];rfl
  ·simp at hs
 ·rename_i s
  split at hs
  ·rename_i h1
   subst h1
   simp only[uzC,uzB]at hs
   obtain⟨rfl,rfl⟩:=hs
   obtain rfl:=hy.string_inv
   refine⟨rfl,H5 (R9 _),by simp[B6],(s.extract 0 s.size).data.map fun b=>Value.int .u8 b.toNat,?_,rfl⟩
   rw[b2Z];exact VL.selfS (R9 _)
  ·simp at hs
 ·simp at hs
theorem b0V(need:Nat):∀r c,256<=c->c<=2*need->Builtin.growBy need r c<=2*need
 |0,c,_,h=>h
 |r+1,c,h1,h2=>by
  simp only[Builtin.growBy]
  split
  ·exact h2
  ·exact b0V need r _ (by omega) (by omega)
theorem a4T(need c:Nat)(h:c<need):Builtin.nextslicecap need c<=2*need:=by
 unfold Builtin.nextslicecap
 split
 ·omega
 ·split
  ·omega
  ·exact b0V need 4 c (by omega) (by omega)
theorem a8F(z:Array Value)(n:Nat):(Builtin.zeroCells z n).size=n*z.size:=by simp[Builtin.zeroCells]
theorem S9{t t' u:TypeId}{du:TypeDesc}(ht:P.underlying t=some (.slice t'))(hu:P.underlying u=some du)(hui:∀k,du≠.int k){i:TypeInfo}(hi:P.info? t' =some i)
  {base:Option Addr} {n c k:Nat} {y' :Value} {new' :Array Value} (hlen:(Builtin.lenOf y').run P w=.ok k w) (hnew:(Builtin.firstCells (P.cellsOf t') k y').run P w=.ok new' w) (hle:n+k<=c) (ty:TypeId) {w1:World}
  (hst:match base with
   |some a=>(storeCells (a.add (n*P.cellsOf t')) new'.toList).run P w=.ok () w1
   |none=>w1=w):
  (Builtin.append_ #[t,u] ty #[.slice base n c,y']).run P w=.ok (.slice base (n+k) c) w1:=by
 have hz:(match du with| .int _=>true|_=>false)=false:=by cases du<;>first|rfl| (exact absurd rfl (hui _))
 cases base with
 |none=>
  subst hst
  simp[Builtin.append_,run_underlying' _ ht,run_underlying' _ hu,run_sizeOf' _ hi,hz,hlen,hle,hnew]
 |some a=>
  simp only at hst
  simp[Builtin.append_,run_underlying' _ ht,run_underlying' _ hu,run_sizeOf' _ hi,hz,hlen,hle,hnew,hst]
theorem Y8{t t' u:TypeId}{du:TypeDesc}(ht:P.underlying t=some (.slice t'))(hu:P.underlying u=some du)(hui:∀k,du≠.int k){z:List Value}(hz:W6 P t' =some z)
  {base:Option Addr} {n c k:Nat} {y' :Value} {old' new' :Array Value} (hlen:(Builtin.lenOf y').run P w=.ok k w)
  (hold:(Builtin.firstCells (P.cellsOf t') n (.slice base n c)).run P w.drew=.ok old' w.drew)
  (hnew:(Builtin.firstCells (P.cellsOf t') k y').run P w.drew=.ok new' w.drew) (hlt:c<n+k)
  (hb:(n+k)*P.bytesOf t' <=140737488355328) (hmax:n+k<=9223372036854775807) (ty:TypeId) (hso:old'.size=n*P.cellsOf t') (hsn:new'.size=k*P.cellsOf t'):
  ∃(cap:Nat) (rest:Array Value),n+k<=cap/\rest.size=(cap-(n+k))*P.cellsOf t' /\
   (Builtin.append_ #[t,u] ty #[.slice base n c,y']).run P w=.ok (.slice (some ⟨w.heap.size,0,none⟩) (n+k) cap) (w.drew.alloc (.cells (old' ++(new' ++rest)) t')):=by
 obtain⟨zv,iz,z1,z2,z3,z4,z5,z6⟩:=M6 hz
 have hzz:(match du with| .int _=>true|_=>false)=false:=by cases du<;>first|rfl| (exact absurd rfl (hui _))
 have hby:iz.bytes=P.bytesOf t' :=by simp[Program.bytesOf,z6]
 have zsz:zv.cells.size=P.cellsOf t' :=by rw[<-Array.length_toList,z2,z4]
 have hle:¬(n+k<=c):=by omega
 have hb2:¬((9223372036854775807:Int)<(n:Int)+(k:Int)):=by omega
 have hcap:¬(Builtin.nextslicecap (n+k) c*P.bytesOf t' >2 ^ 48):=by
  have h1:=a4T (n+k) c hlt
  have h2:Builtin.nextslicecap (n+k) c*P.bytesOf t' <=2*(n+k)*P.bytesOf t' :=vzz _ h1
  rw[Nat.mul_assoc]at h2
  have:(2:Nat) ^ 48=281474976710656:=by decide
  omega
 have hcap2:¬(281474976710656<Builtin.nextslicecap (n+k) c*P.bytesOf t'):=by
  have:(2:Nat) ^ 48=281474976710656:=by decide
  omega
 refine⟨(Question.appendCap (n+k) c t').cut (w.tape w.drawn (.appendCap (n+k) c t')),Builtin.zeroCells zv.cells ((Question.appendCap (n+k) c t').cut (w.tape w.drawn (.appendCap (n+k) c t'))-(n+k)),?_,?_,?_⟩
 ·simp only[Question.cut];omega
 ·rw[a8F,zsz]
 ·have hf:(Question.appendCap (n+k) c t').forced=false:=rfl
  simp[Builtin.append_,run_underlying' _ ht,run_underlying' _ hu,run_sizeOf' _ z6,hzz,hlen,hle,run_typeInfo' _ z6,hby,hb2,hcap,hcap2,hf,hold,hnew,run_zeroValue' _ z1,newRow]
theorem T2(b o n:Nat):(⟨b,o,none⟩:Addr).add n=⟨b,o+n,none⟩:=by
 unfold Addr.add;split
 ·rename_i h;subst h;rfl
 ·rfl
theorem b5q:∀(vs c:List Value) (o:Nat),o+vs.length<=c.length->setAt c o vs=c.take o++vs++c.drop (o+vs.length)
 | [],c,o,_=>by simp[setAt]
 |v::vs,c,o,h=>by
  simp only[uzM]at h
  rw[setAt,b5q vs (c.set o v) (o+1) (by simpa using (by omega:o+1+vs.length<=c.length))]
  have h1:(c.set o v).take (o+1)=c.take o++[v]:=by
   rw[List.take_succ_eq_append_getElem (by simp;omega)]
   simp[List.take_set_of_le]
  have h2:(c.set o v).drop (o+1+vs.length)=c.drop (o+(v::vs).length):=by
   rw[List.drop_set_of_lt (by omega)]
   simp only[uzM];congr 1;omega
  rw[h1,h2];simp
theorem b7l(e:Emb P S m h w){h1:Heap}{t t' u:TypeId}{du:TypeDesc}(ht:P.underlying t=some (.slice t'))(hu:P.underlying u=some du)(hui:∀k,du≠.int k){z:List Value}(hz:W6 P t' =some z)(ty:TypeId)
  {x x' y y' :Value} (hx:VR m x x') (hy:VR m y y') {v:Value} (hc:C7 (.append t' (P.cellsOf t') (P.bytesOf t') x y) h=some (v,h1)) (hf:K6 m h.next h1.next):
  D2 P S m h w (do pure (.value (<-Builtin.append_ #[t,u] ty #[x',y']))) v h1:=by
 obtain⟨zv,iz,z1,z2,z3,z4,z5,z6⟩:=M6 hz
 simp only[C7,M8]at hc
 split at hc
 case h_2=>simp at hc
 rename_i base n c new k hsrc
 obtain⟨s1,s2,s3,new',s4,s5⟩:=a1O e hy hsrc
 have hnl:new'.size=k*P.cellsOf t' :=by have:=s4.1;simp at this;omega
 split at hc
 ·
  rename_i hle
  split at hc
  ·
   rename_i a
   split at hc
   ·rename_i hsp
    simp only[uzD,uzB]at hc
    obtain⟨ob,hob,rfl,rfl⟩:=hc
    rcases hx.slice_inv with⟨b,o,c',L,rfl,hb,hn,hcc,hg,rfl⟩| ⟨rfl,rfl,_,a',rfl,L0,hL0⟩
    ·obtain⟨w1,hrun,hout⟩:=a1R e hb hob s4 (O1 s4 s2) s2
     refine D2.val (s:=Builtin.append_ #[t,u] ty #[.slice (some ⟨L.blk,L.sh+o,none⟩) n c',y']) (S9 ht hu hui z6 s1 s5 (show n+k<=c' by omega) ty (w1:=w1) ?_) (.slice b o (n+k) c c' L hb hle hcc hg) hout
     simp only[T2,Nat.add_assoc]
     exact hrun
    ·have hk:k=0:=by omega
     subst hk
     have hnew:new=[]:=by
      have:new.length=0:=by rw[s3];simp
      exact List.length_eq_zero_iff.1 this
     subst hnew
     rw[a1Q hob,a3l]
     have hn2:new' = #[]:=by
      apply Array.eq_empty_of_size_eq_zero;omega
     subst hn2
     obtain⟨b,o,s⟩:=a
     simp only at hsp
     subst hsp
     exact D2.same (s:=Builtin.append_ #[t,u] ty #[.slice (some a') 0 0,y']) e (S9 ht hu hui z6 s1 s5 (by omega) ty (base:=some a') (w1:=w) rfl) (.slice0 b o L0 a' hL0)
   ·simp at hc
  ·split at hc
   ·rename_i h0
    simp only[uzC,uzB]at hc
    obtain⟨rfl,rfl⟩:=hc
    obtain rfl:=hx.nilSlice_inv
    have hk:n=0/\k=0:=by omega
    obtain⟨rfl,rfl⟩:=hk
    exact D2.same (s:=Builtin.append_ #[t,u] ty #[.slice none 0 c,y']) e (S9 ht hu hui z6 s1 s5 (by omega) ty (base:=none) (w1:=w) rfl) (.nilSlice 0 c)
   ·simp at hc
 ·rename_i hle
  split at hc
  case isFalse=>simp at hc
  rename_i hbd
  have e' :Emb P S m h w.drew:=e.of_heap rfl
  obtain⟨r1,r2,r3,new2,r4,r5⟩:=a1O e' hy hsrc
  have hnl2:new2.size=k*P.cellsOf t' :=by have:=r4.1;simp at this;omega
  split at hc
  ·
   split at hc
   case isFalse=>simp at hc
   rename_i h0
   subst h0
   simp only[uzC,uzB]at hc
   obtain⟨rfl,rfl⟩:=hc
   obtain rfl:=hx.nilSlice_inv
   obtain⟨cap,rest,hcap,hrest,hrun⟩:=Y8 ht hu hui hz (base:=none) (n:=0) (c:=c) (old' := #[]) (new' :=new2) s1 rfl r5 (by omega) hbd.1 hbd.2 ty (by simp) hnl2
   have hsz:(#[]++(new2++rest)).size=cap*P.cellsOf t' :=by
    simp only[Array.size_append,hnl2,hrest,Array.size_empty,vsz]
    rw[<-vDz];congr 1;omega
   have hl:new.length<=(#[]++(new2++rest)).size:=by
    simp only[Array.size_append];omega
   have ho:=a1o e' (hf _ (uzP _) (vpz _)) (c:=new) (c' := #[]++(new2++rest)) t' .grow hl (by
    have h3:new.length=new2.toList.length:=r4.1
    simp only[Array.toList_append,vrz]
    rw[h3,List.take_left];exact r4) (0,0) (fun i _=>by omega) s2
   simp only[vsz]at hrun hcap
   refine D2.val (s:=Builtin.append_ #[t,u] ty #[.slice none 0 c,y']) hrun ?_ ((Out.drew e (w.drawn+1)).trans ho)
   exact a0p (uzP _) hcap w.heap.size (by omega) h.next _ m
  ·rename_i a
   split at hc
   case h_2=>simp at hc
   rename_i cs t2 hob
   split at hc
   case isFalse=>simp at hc
   rename_i hcd
   obtain⟨hsp,rfl,hend,hnc⟩:=hcd
   simp only[uzC,uzB]at hc
   obtain⟨rfl,rfl⟩:=hc
   have hfree:m h.next=none:=hf _ (uzP _) (vpz _)
   have hmul:n*P.cellsOf t2<=c*P.cellsOf t2:=vzz _ hnc
   rcases hx.slice_inv with⟨b,o,c',L,rfl,hb,hn,hcc,hg,rfl⟩| ⟨rfl,rfl,_,a',rfl,L0,hL0⟩
   ·have hob2:h.obj b=.cells cs t2 .grow:=hob
    obtain⟨cur,fr,k1,k2,k3,k4,k5,k6,k7,k8,k9⟩:=M9 e hb hob2 (.inl (by simp))
    have hgr:L.grow=true:=by rw[k7];rfl
    have hroom:=hg hgr
    rw[k6]at hroom
    have hlc:o+c*P.cellsOf t2=cs.length:=hend
    by_cases hin:n+k<=c'
    ·
     have hmul2:(n+k)*P.cellsOf t2<=c' *P.cellsOf t2:=vzz _ hin
     rw[vDz]at hmul2
     obtain⟨cur',hrun,hcur⟩:=N9 P L.blk (L.sh+(o+n*P.cellsOf t2)) t2 fr new'.toList 0 cur w k1 (by simp[hnl];omega) (by rw[k2];exact k5 (by simp)) (O1 s4 s2)
     have hsz' :cur'.size=L.tot:=by
      have:=congrArg List.length hcur
      rw[K4]at this;simp at this;omega
     have hnewl:new.length=k*P.cellsOf t2:=s3
     have hA:((cs.drop o).take (n*P.cellsOf t2)).length=n*P.cellsOf t2:=by simp;omega
     refine D2.val (s:=Builtin.append_ #[t,u] ty #[.slice (some ⟨L.blk,L.sh+o,none⟩) n c',y']) (S9 ht hu hui z6 s1 s5 hin ty (w1:=w.setRow L.blk cur') ?_) (v' :=.slice (some ⟨L.blk,L.sh+o,none⟩) (n+k) c') ?_
      (Out.take e b L ⟨L.blk,L.sh+o,L.tot,L.unit,true⟩ _ hb (by rw[hob2];rfl) hfree rfl (fun q hq=>setRow_other w _ q _ hq) (by simp) rfl rfl rfl ?_)
     ·simp only[T2,Nat.add_assoc];exact hrun
     ·have:=VR.slice (m:=m.put h.next ⟨L.blk,L.sh+o,L.tot,L.unit,true⟩) h.next 0 (n+k) (n+k) c' ⟨L.blk,L.sh+o,L.tot,L.unit,true⟩ (by simp[Map.put]) (uzP _) hin (fun _=>by simp only[k6];omega)
      simpa using this
     ·refine .inr ⟨cur',fr,setRow_heap w L.blk cur _ t2 fr k1,hsz',by simp only[uzG,hA,hnewl];omega,?_,fun _=>k5 (by simp),k6,rfl,?_,fun hg=>absurd hg (by simp)⟩
      ·rw[hcur,Nat.add_zero,<-Nat.add_assoc]
       simp only[uzG,hA,hnewl]
       rw[W3 new'.toList cur.toList (L.sh+o) (n*P.cellsOf t2) (n*P.cellsOf t2+k*P.cellsOf t2) (by simp[hnl]) (by simp;omega)]
       rw[b5q _ _ _ (by simp[hnl];omega)]
       refine VL.ext (Map.put_ext hfree) ?_
       have h1:(List.take (n*P.cellsOf t2) (List.take (n*P.cellsOf t2+k*P.cellsOf t2) (List.drop (L.sh+o) cur.toList)))=((cur.toList.drop L.sh).take cs.length |>.drop o).take (n*P.cellsOf t2):=by
        apply List.ext_getElem?
        intro q
        by_cases hq:q<n*P.cellsOf t2
        ·rw[voz,if_pos hq,voz,if_pos (by omega),vEz,voz,if_pos hq,vEz,voz,if_pos (by omega),vEz,Nat.add_assoc]
        ·rw[voz,if_neg hq,voz,if_neg hq]
       have h2:(List.drop (n*P.cellsOf t2+new'.toList.length) (List.take (n*P.cellsOf t2+k*P.cellsOf t2) (List.drop (L.sh+o) cur.toList)))=[]:=by
        apply List.drop_eq_nil_of_le;simp[hnl];omega
       rw[h1,h2,vtz]
       exact VL.append ((k4.drop o).take _) s4
      ·intro _
       rw[List.all_append,s2,Bool.and_true]
       exact R8 (k8 (by simp)) _ _
    ·
     have hrd:(h.obj b).read o (n*P.cellsOf t2)=some ((cs.drop o).take (n*P.cellsOf t2)):=by
      rw[hob2];simp only[Obj.read];rw[if_pos (by omega)]
     obtain⟨hl,cs',hv,hcell⟩:=a1r e' hb hrd
     have hl' :cs'.length=n*P.cellsOf t2:=by rw[<-hv.1];exact hl
     have hold:=J3 (P:=P) hcell
     rw[hl']at hold
     obtain⟨cap,rest,hcap,hrest,hrun⟩:=Y8 ht hu hui hz (base:=some ⟨L.blk,L.sh+o,none⟩) (n:=n) (c:=c') (old' :=cs'.toArray) (new' :=new2) s1 (by simp only[Builtin.firstCells,hold]) r5 (by omega) hbd.1 hbd.2 ty (by simp[hl']) hnl2
     have hsz:(cs'.toArray++(new2++rest)).size=cap*P.cellsOf t2:=by
      simp only[Array.size_append,hnl2,hrest,List.size_toArray,hl']
      rw[<-vDz,<-vDz];congr 1;omega
     have hvl:VL m ((cs.drop o).take (n*P.cellsOf t2)++new) (cs' ++new2.toList):=VL.append hv r4
     have hk:=Out.kill e' b (by rw[hb];simp)
     have ho:=a1o hk.emb hfree (c:=(cs.drop o).take (n*P.cellsOf t2)++new) (c' :=cs'.toArray++(new2++rest)) t2 .grow (by
       have:=hvl.1
       simp only[Array.size_append,List.size_toArray,uzG,Array.length_toList]at this ⊢;omega) (by
      simp only[Array.toList_append]
      rw[<-vvz,hvl.1,List.take_left];exact hvl) (0,0) (fun i _=>by omega) (by
      rw[List.all_append,s2,R8 (k8 (by simp)) _ _];rfl)
     refine D2.val (s:=Builtin.append_ #[t,u] ty #[.slice (some ⟨L.blk,L.sh+o,none⟩) n c',y']) hrun ?_ (((Out.drew e (w.drawn+1)).trans hk).trans ho)
     exact a0p (uzP _) hcap w.heap.size (by omega) h.next _ m
   ·
    obtain⟨b,o,s⟩:=a
    simp only at hsp
    subst hsp
    simp only[Nat.zero_mul,List.take_zero,vrz,vsz]at hf hbd ⊢
    obtain⟨cap,rest,hcap,hrest,hrun⟩:=Y8 ht hu hui hz (base:=some a') (n:=0) (c:=0) (old' := #[]) (new' :=new2) s1 (by simp only[Builtin.firstCells,Nat.zero_mul];rfl) r5 (by omega) (by simpa using hbd.1) (by simpa using hbd.2) ty (by simp) hnl2
    have hsz:(#[]++(new2++rest)).size=cap*P.cellsOf t2:=by
     simp only[Array.size_append,hnl2,hrest,Array.size_empty,vsz]
     rw[<-vDz];congr 1;omega
    have hl:new.length<=(#[]++(new2++rest)).size:=by
     simp only[Array.size_append];omega
    have hk:=Out.kill e' b (by have:=hL0;simp only at this;rw[this];simp)
    have ho:=a1o hk.emb hfree (c:=new) (c' := #[]++(new2++rest)) t2 .grow hl (by
     have h3:new.length=new2.toList.length:=r4.1
     simp only[Array.toList_append,vrz]
     rw[h3,List.take_left];exact r4) (0,0) (fun i _=>by omega) s2
    simp only[vsz]at hrun hcap
    refine D2.val (s:=Builtin.append_ #[t,u] ty #[.slice (some a') 0 0,y']) hrun ?_ (((Out.drew e (w.drawn+1)).trans hk).trans ho)
    exact a0p (uzP _) hcap w.heap.size (by omega) h.next _ m
end
section
variable {P:Program} {S:Stay} {m:Map} {h:Heap} {w:World}
theorem e0l(e:Emb P S m h w){h1:Heap}{t t' :TypeId}(ht:P.underlying t=some (.slice t'))(hft:N3 P t' =true)(ats:Array TypeId)(hat:ats[0]? =some t)(ty:TypeId)
  {x x' y y' :Value} (hx:VR m x x') (hy:VR m y y') {v:Value} (hc:C7 (.copy (P.cellsOf t') x y) h=some (v,h1)):
  D2 P S m h w (do pure (.value (<-Builtin.copy_ ats ty #[x',y']))) v h1:=by
 obtain⟨d,i,hu,hi⟩:=G9 hft
 simp only[C7]at hc
 split at hc
 case h_2=>simp at hc
 rename_i base n c
 split at hc
 case h_2=>simp at hc
 rename_i new k hsrc
 have key:∃(l:Nat) (new' :Array Value),(Builtin.lenOf y').run P w=.ok l w/\k=Nat.min l n/\(Builtin.firstCells (P.cellsOf t') k y').run P w=.ok new' w/\VL m new new'.toList/\new.all E9=true/\new.length=k*P.cellsOf t' :=by
  split at hsrc
  ·rename_i b l c2
   cases b with
   |none=>
    obtain rfl:=hy.nilSlice_inv
    obtain⟨h1,h2,h3,new',h4,h5⟩:=a1O e (VR.nilSlice (min l n) c2) hsrc
    have hk:k=min l n:=by have:=h1;simp[Builtin.lenOf]at this;exact this.symm
    exact⟨l,new',rfl,hk,by rw[hk]at h5 ⊢;exact h5,h4,h2,h3⟩
   |some a=>
    rcases hy.slice_inv with⟨b,o,c',L,rfl,hb,hn,hcc,hg,rfl⟩| ⟨rfl,rfl,hsp,a',rfl,L0,hL0⟩
    ·obtain⟨h1,h2,h3,new',h4,h5⟩:=a1O e (VR.slice b o (min l n) c2 c' L hb (by omega) hcc hg) hsrc
     have hk:k=min l n:=by have:=h1;simp[Builtin.lenOf]at this;exact this.symm
     exact⟨l,new',rfl,hk,by rw[hk]at h5 ⊢;exact h5,h4,h2,h3⟩
    ·obtain⟨b,o,s⟩:=a
     simp only at hsp
     subst hsp
     have h0:min 0 n=0:=by omega
     rw[h0]at hsrc
     obtain⟨h1,h2,h3,new',h4,h5⟩:=a1O e (VR.slice0 b o L0 a' hL0) hsrc
     have hk:k=0:=by have:=h1;simp[Builtin.lenOf]at this;exact this.symm
     subst hk
     exact⟨0,new',rfl,h0.symm,h5,h4,h2,h3⟩
  ·rename_i s
   obtain rfl:=hy.string_inv
   obtain⟨h1,h2,h3,new',h4,h5⟩:=a1O e (VR.string (s.extract 0 (min s.size n))) hsrc
   have hk:k=min s.size n:=by
    have:=h1
    simp[Builtin.lenOf]at this
    omega
   refine⟨s.size,new',rfl,hk,?_,h4,h2,h3⟩
   rw[<-h5]
   simp only[Builtin.firstCells,Sem.run_pure]
   congr 3
   have e1:(s.extract 0 (min s.size n)).extract 0 k=s.extract 0 k:=by
    rw[hk]
    apply ByteArray.ext
    simp only[ByteArray.data_extract]
    apply Array.ext'
    simp only[Array.toList_extract,List.extract_eq_take_drop,vwz,Nat.sub_zero,List.take_take]
    congr 1;omega
   rw[e1]
  ·simp at hsrc
 obtain⟨l,new',hlen,hk,hnew,hv,hs,hnewl⟩:=key
 split at hc
 ·rename_i a
  split at hc
  ·rename_i hsp
   simp only[uzD,uzB]at hc
   obtain⟨ob,hob,rfl,rfl⟩:=hc
   rcases hx.slice_inv with⟨b,o,c',L,rfl,hb,hn,hcc,hg,rfl⟩| ⟨rfl,rfl,_,a',rfl,L0,hL0⟩
   ·obtain⟨w1,hrun,hout⟩:=a1R e hb hob hv (O1 hv hs) hs
    refine D2.val (s:=Builtin.copy_ ats ty #[.slice (some ⟨L.blk,L.sh+o,none⟩) n c',y']) (v' :=goInt k) (w1:=w1) ?_ (.int _ _) hout
    simp[Builtin.copy_,hat,run_underlying' _ ht,hlen,<-hk,run_sizeOf' _ hi,hnew,hrun,goInt,Go.goInt]
   ·have hk0:k=0:=by rw[hk];exact Nat.min_zero l
    subst hk0
    have hnl:new=[]:=by
     rw[Nat.zero_mul]at hnewl;exact List.length_eq_zero_iff.1 hnewl
    subst hnl
    rw[a1Q hob,a3l]
    have hn2:new' = #[]:=by
     have:=hv.1;apply Array.eq_empty_of_size_eq_zero;simp at this;omega
    subst hn2
    refine D2.same (s:=Builtin.copy_ ats ty #[.slice (some a') 0 0,y']) (v' :=goInt (0:Nat)) e ?_ (.int _ _)
    have:Nat.min l 0=0:=hk.symm
    simp[Builtin.copy_,hat,run_underlying' _ ht,hlen,this,run_sizeOf' _ hi,hnew,goInt,Go.goInt,storeCells]
  ·simp at hc
 ·simp only[uzC,uzB]at hc
  obtain⟨rfl,rfl⟩:=hc
  obtain rfl:=hx.nilSlice_inv
  refine D2.same (s:=Builtin.copy_ ats ty #[.slice none n c,y']) (v' :=goInt k) e ?_ (.int _ _)
  simp[Builtin.copy_,hat,run_underlying' _ ht,hlen,<-hk,run_sizeOf' _ hi,hnew,goInt,Go.goInt]
theorem a8E(z:Array Value)(n:Nat):(Builtin.zeroCells z n).toList=G0 n z.toList:=a8H z n _ rfl
theorem b5s(e:Emb P S m h w){h1:Heap}{t t' :TypeId}(ht:P.underlying t=some (.slice t')){z:List Value}(hz:W6 P t' =some z)(ats:Array TypeId)(hat:ats[0]? =some t)(ty:TypeId)
  {x x' :Value} (hx:VR m x x') {v:Value} (hc:C7 (.clearSl z x) h=some (v,h1)):
  D2 P S m h w (do pure (.value (<-Builtin.clear_ ats ty #[x']))) v h1:=by
 obtain⟨zv,iz,z1,z2,z3,z4,z5,z6⟩:=M6 hz
 have hemp:VR m (.tuple #[]) (.tuple #[]):=.tuple _ _ rfl (fun i x y hx=>by simp at hx)
 simp only[C7]at hc
 split at hc
 ·simp only[uzC,uzB]at hc
  obtain⟨rfl,rfl⟩:=hc
  obtain rfl:=hx.nilSlice_inv
  refine D2.same e (v' :=.tuple #[]) ?_ hemp
  simp[Builtin.clear_,hat,run_underlying' _ ht]
 ·rename_i a n c
  split at hc
  ·simp only[uzD,uzB]at hc
   obtain⟨ob,hob,rfl,rfl⟩:=hc
   rcases hx.slice_inv with⟨b,o,c',L,rfl,hb,hn,hcc,hg,rfl⟩| ⟨rfl,rfl,_,a',rfl,L0,hL0⟩
   ·by_cases hn0:n=0
    ·subst hn0
     rw[show G0 0 z=[]from rfl]at hob
     rw[a1Q hob,a3l]
     refine D2.same e (v' :=.tuple #[]) ?_ hemp
     simp[Builtin.clear_,hat,run_underlying' _ ht]
    ·have hself:=X4 z z3 n
     obtain⟨w1,hrun,hout⟩:=a1R e hb hob (VL.selfS hself) (O1 (VL.selfS (m:=m) hself) (H5 hself)) (H5 hself)
     refine D2.val (v' :=.tuple #[]) (w1:=w1) ?_ hemp hout
     have hzl:(Builtin.zeroCells zv.cells n).toList=G0 n z:=by rw[a8E,z2]
     obtain⟨n,rfl⟩:∃q,n=q+1:=⟨n-1,by omega⟩
     simp[Builtin.clear_,hat,run_underlying' _ ht,run_zeroValue' _ z1,hzl,hrun]
   ·rw[show G0 0 z=[]from rfl]at hob
    rw[a1Q hob,a3l]
    refine D2.same e (v' :=.tuple #[]) ?_ hemp
    simp[Builtin.clear_,hat,run_underlying' _ ht]
  ·simp at hc
 ·simp at hc
theorem a2h:∀(cs:List Value) (l:List UInt8) (s:ByteArray),bytesOf cs=some l->
  (forIn cs s fun c r=>match c with
   | .int .u8 n=>pure (ForInStep.yield (r.push (UInt8.ofNat n.toNat)))
   |_=>do
    stuck "bytesToString: byte expected"
    pure (ForInStep.yield r):Sem ByteArray).run P w=.ok ⟨(s.data.toList++l).toArray⟩ w
 | [],l,s,h=>by
  obtain rfl:=uzA h
  simp
 |c::cs,l,s,h=>by
  unfold bytesOf at h
  split at h
  ·rename_i heq;simp at heq
  ·rename_i n r heq
   simp only[List.cons.injEq]at heq
   obtain⟨rfl,rfl⟩:=heq
   simp only[uzD]at h
   obtain⟨l',hl',rfl⟩:=h
   simp only[List.forIn_cons,Sem.run_bind,Sem.run_pure,Result.andThen_ok]
   rw[a2h cs l' _ hl']
   simp[ByteArray.push]
  ·simp at h
theorem b3a{cs cs' :List Value}(h:VL m cs cs'){l:List UInt8}(hl:bytesOf cs=some l):cs' =cs:=by
 induction cs generalizing cs' l with
 |nil=>exact h.of_nil
 |cons c cs ih=>
  obtain⟨d,ds,rfl,h1,h2⟩:=h.of_cons
  unfold bytesOf at hl
  split at hl
  ·rename_i heq;simp at heq
  ·rename_i n r heq
   simp only[List.cons.injEq]at heq
   obtain⟨rfl,rfl⟩:=heq
   simp only[uzD]at hl
   obtain⟨l',hl',_⟩:=hl
   obtain rfl:=h1.int_inv
   rw[ih h2 hl']
  ·simp at hl
theorem c9E(e:Emb P S m h w){h1:Heap}{s t t' :TypeId}(hs:P.underlying s=some (.slice t'))(ht:P.underlying t=some .string)(hb8:P.underlying t' =some (.int .u8))
  {x x' :Value} (hx:VR m x x') {v:Value} (hc:C7 (.toStr x) h=some (v,h1)):
  D2 P S m h w (do pure (.value (<-convert s t x'))) v h1:=by
 simp only[C7]at hc
 split at hc
 ·simp only[uzC,uzB]at hc
  obtain⟨rfl,rfl⟩:=hc
  obtain rfl:=hx.nilSlice_inv
  refine D2.same e ?_ (.string _)
  simp[convert,run_underlying' _ hs,run_underlying' _ ht,run_underlying' _ hb8,Conv.bytesToString]
 ·rename_i a n c
  split at hc
  ·simp only[vhz,uzD,uzB]at hc
   obtain⟨cs,hcs,l,hl,rfl,rfl⟩:=hc
   rcases hx.slice_inv with⟨b,o,c',L,rfl,hb,hn,hcc,hg,rfl⟩| ⟨rfl,rfl,hsp,a',rfl,L0,hL0⟩
   ·obtain⟨hlen,cs',hv,hcell⟩:=a1r e hb hcs
    obtain rfl:=b3a hv hl
    have hload:=J3 (P:=P) hcell
    rw[hlen]at hload
    refine D2.same e (v' :=.string ⟨l.toArray⟩) ?_ (.string _)
    have hp:=a2h (P:=P) (w:=w) cs' l .empty hl
    simp only[convert,Sem.run_bind,run_underlying' _ hs,run_underlying' _ ht,run_underlying' _ hb8,Result.andThen_ok,Conv.bytesToString,hload]
    rw[<-Array.forIn_toList]
    exact congrArg (fun r=>Result.andThen r fun a w' =>Sem.run P (pure (Value.string a)) w') hp
   ·have:cs=[]:=by
     cases ho:h.obj a.block with
     |cells c t g=>
      rw[ho]at hcs
      simp only[Obj.read]at hcs
      split at hcs
      ·exact(by simpa using (uzA hcs).symm)
      ·simp at hcs
     |_=>rw[ho]at hcs;simp[Obj.read]at hcs
    subst this
    obtain rfl:=uzA hl
    refine D2.same e (v' :=.string ⟨#[]⟩) ?_ (.string _)
    simp[convert,run_underlying' _ hs,run_underlying' _ ht,run_underlying' _ hb8,Conv.bytesToString,loadCells,loadCellsFrom]
    rfl
  ·simp at hc
 ·simp at hc
theorem b5w(e:Emb P S m h w)(hfr:m h.next=none){h1:Heap}{s t t' :TypeId}(hs:P.underlying s=some .string)(ht:P.underlying t=some (.slice t'))(hb8:P.underlying t' =some (.int .u8))(h8:P.cellsOf t' =1)
  {x x' :Value} (hx:VR m x x') {v:Value} (hc:C7 (.toBytes t' x) h=some (v,h1)):
  D2 P S m h w (do pure (.value (<-convert s t x'))) v h1:=by
 simp only[C7]at hc
 split at hc
 case h_2=>simp at hc
 rename_i s0
 simp only[uzC,uzB]at hc
 obtain⟨rfl,rfl⟩:=hc
 obtain rfl:=hx.string_inv
 have e' :Emb P S m h w.drew:=e.of_heap rfl
 let cap:=(Question.appendCap s0.size 0 t').cut (w.tape w.drawn (.appendCap s0.size 0 t'))
 have hcap:s0.size<=cap:=by simp only[cap,Question.cut];omega
 let cells:Array Value:=(s0.data.map fun b=> .int .u8 b.toNat)++Array.replicate (cap-s0.size) (.int .u8 0)
 have hsz:cells.size=cap:=by
  have h2:s0.data.size=s0.size:=rfl
  simp only[cells,Array.size_append,Array.size_map,Array.size_replicate,h2];omega
 have hfl:s0.size=(B6 s0.data.toList).length:=by simp[B6]
 have ho:=a1o e' hfr (c:=B6 s0.data.toList) (c' :=cells) t' .grow (by rw[<-hfl,hsz];exact hcap) (by
  have h2:cells.toList=B6 s0.data.toList++vaz (cap-s0.size) (.int .u8 0):=by simp[cells,B6]
  rw[h2,List.take_left];exact VL.selfS (R9 _)) (cells.size,cells.size+1) (fun i hi=>by omega) (H5 (R9 _))
 refine D2.val (s:=convert s t (.string s0)) (v' :=.slice (some ⟨w.heap.size,0,none⟩) s0.size cap) (w1:=w.drew.alloc (.cells cells t' (cells.size,cells.size+1))) ?_ ?_ ((Out.drew e (w.drawn+1)).trans ho)
 ·have hf:(Question.appendCap s0.size 0 t').forced=false:=rfl
  have hfreeze:(w.drew.alloc (.cells cells t')).freeze ⟨w.heap.size,cells.size,none⟩ 1=w.drew.alloc (.cells cells t' (cells.size,cells.size+1)):=by
   simp only[World.freeze,Nat.one_ne_zero,if_false,World.alloc,World.drew]
   congr 1
   apply Array.ext'
   apply List.ext_getElem?
   intro k
   simp only[Array.getElem?_toList,Array.getElem?_modify,Array.getElem?_push]
   by_cases hk:w.heap.size=k
   ·subst hk;simp
   ·rw[if_neg hk]
    by_cases hk2:k=w.heap.size
    ·exact absurd hk2.symm hk
    ·rw[if_neg hk2,if_neg hk2]
  have hshape:(w.drew.alloc (.cells cells t')).shape? w.heap.size=some (t',cells.size):=by
   have:(w.drew.alloc (.cells cells t')).heap[w.heap.size]? =some (.cells cells t'):=by
    show(w.heap.push _)[w.heap.size]? =_
    simp
   simp only[World.shape?,this]
  have hm:(markStringish ⟨w.heap.size,0,none⟩).run P (w.drew.alloc (.cells cells t'))=.ok () (w.drew.alloc (.cells cells t' (cells.size,cells.size+1))):=by
   simp only[markStringish,Sem.run_bind,run_shape,Result.andThen_ok,hshape,run_freeze,hfreeze]
  have hch:(choose (.appendCap s0.size 0 t')).run P w=.ok cap w.drew:=by
   rw[run_choose,hf,if_neg Bool.false_ne_true];rfl
  simp only[convert,Sem.run_bind,run_underlying' _ hs,run_underlying' _ ht,run_underlying' _ hb8,Result.andThen_ok,Conv.stringToBytes,hch,newRow,run_newObj_alloc,Sem.run_pure]
  exact congrArg (fun r=>Result.andThen r fun _ w' =>Result.ok (Value.slice (some ⟨w.heap.size,0,none⟩) s0.size cap) w') hm
 ·have:=a0p (t:=t') (uzP s0.size) hcap w.heap.size (tot:=cells.size) (by rw[h8,hsz];omega) h.next true m
  exact this
end
section
variable {P:Program} {S:Stay} {m:Map} {h:Heap} {w:World}
theorem b1o{t:TypeId}{k:SK}(hk:skT P t=some k):N3 P t=true/\a0h P t=false:=by
 unfold skT at hk
 cases hu:P.underlying t with
 |none=>rw[hu]at hk;simp at hk
 |some d=>rw[hu]at hk;cases d<;>first| (simp at hk;done)|exact⟨by simp[N3,hu],by simp[a0h,hu]⟩
theorem c6Z{t:TypeId}{k:SK}(hk:skT P t=some k){a b a' b' :Value}(ha:VR m a a')(hb:VR m b b'){r:Bool}(hr:E5 k a b=some r)(d:Nat):
  (Op.equalIn (d+1) t a' b').run P w=.ok r w/\a' =a/\b' =b:=by
 unfold skT at hk
 unfold E5 at hr
 split at hr
 ·rename_i k1 x k2 y
  obtain rfl:=ha.int_inv
  obtain rfl:=hb.int_inv
  split at hr
  ·rename_i hkk
   subst hkk
   obtain rfl:=uzA hr
   cases hu:P.underlying t with
   |none=>rw[hu]at hk;simp at hk
   |some e=>rw[hu]at hk;cases e<;>first| (simp at hk;done)|exact⟨by simp[Op.equalIn,run_underlying' w hu],rfl,rfl⟩
  ·simp at hr
 ·rename_i x y
  obtain rfl:=ha.string_inv
  obtain rfl:=hb.string_inv
  obtain rfl:=uzA hr
  cases hu:P.underlying t with
  |none=>rw[hu]at hk;simp at hk
  |some e=>rw[hu]at hk;cases e<;>first| (simp at hk;done)|exact⟨run_equalIn_string w d t x y hu,rfl,rfl⟩
 ·rename_i x y
  obtain rfl:=ha.bool_inv
  obtain rfl:=hb.bool_inv
  obtain rfl:=uzA hr
  cases hu:P.underlying t with
  |none=>rw[hu]at hk;simp at hk
  |some e=>rw[hu]at hk;cases e<;>first| (simp at hk;done)|exact⟨by simp[Op.equalIn,run_underlying' w hu],rfl,rfl⟩
 ·simp at hr
theorem a2V(d:Nat)(xs' ys' :Array Value):∀(fs:List Field) (ks:List SK) (x y:List Value) (o:Nat),a2B P fs=some ks->(∀f∈fs,f.name≠ "_")->fs.map (·.offset)=List.range' o fs.length->
  VL m x (xs'.toList.drop o)->VL m y (ys'.toList.drop o)->∀{r:Bool},eqL ks x y=some r->(Op.eqFields (d+1) xs' ys' fs).run P w=.ok r w
 | [],ks,x,y,o,hks,_,_,_,_,r,hr=>by
  obtain rfl:=uzA hks
  cases x<;>cases y<;>simp[eqL]at hr
  subst hr;rfl
 |f::fs,ks,x,y,o,hks,hn,hof,hx,hy,r,hr=>by
  simp only[a2B,vhz,uzD]at hks
  obtain⟨k,hk,l,hl,rfl⟩:=hks
  cases x with
  |nil=>simp[eqL]at hr
  |cons a x=>
   cases y with
   |nil=>simp[eqL]at hr
   |cons b y=>
    simp only[eqL,vhz,uzD]at hr
    obtain⟨r1,hr1,r2,hr2,rfl⟩:=hr
    simp only[List.map_cons,uzM,List.range'_succ,List.cons.injEq]at hof
    obtain⟨a',ta,ea,ha,hta⟩:=hx.of_cons
    obtain⟨b',tb,eb,hb,htb⟩:=hy.of_cons
    obtain⟨q1,q2⟩:=b1o hk
    have ga:xs'[f.offset]? =some a' :=by
     rw[hof.1]
     have:(xs'.toList.drop o)[0]? =some a' :=by rw[ea];rfl
     simpa using this
    have gb:ys'[f.offset]? =some b' :=by
     rw[hof.1]
     have:(ys'.toList.drop o)[0]? =some b' :=by rw[eb];rfl
     simpa using this
    have da:xs'.toList.drop (o+1)=ta:=by rw[<-List.drop_drop,ea];rfl
    have db:ys'.toList.drop (o+1)=tb:=by rw[<-List.drop_drop,eb];rfl
    obtain⟨heq,_,_⟩:=c6Z (w:=w) hk ha hb hr1 d
    simp only[Op.eqFields,Sem.run_bind,N0 q1 q2 ga,Result.andThen_ok,N0 q1 q2 gb,heq]
    rw[if_pos (hn f (by simp))]
    simp only[Sem.run_bind,N0 q1 q2 ga,Result.andThen_ok,N0 q1 q2 gb,heq]
    cases r1 with
    |false=>simp
    |true=>
     simp only[Bool.not_true,vgz,if_false,Bool.true_and]
     exact a2V d xs' ys' fs l x y (o+1) hl (fun g hg=>hn g (by simp[hg])) hof.2 (by rw[da];exact hta) (by rw[db];exact htb) hr2
theorem X0{t:TypeId}{ks:List SK}(hk:a0a P t=some ks):∃fs,P.underlying t=some (.struct fs)/\(∀f∈fs.toList,f.name≠ "_")/\fs.toList.map (·.offset)=List.range fs.size/\P.stoodInHeld t=false/\P.eqGuardType P.depth t=false/\a2B P fs.toList=some ks:=by
 unfold a0a at hk
 split at hk
 ·rename_i fs hu
  split at hk
  ·rename_i hc
   simp only[vjz,Bool.not_eq_true',beq_iff_eq,List.all_eq_true,bne_iff_ne]at hc
   exact⟨fs,hu,hc.1.1.1,hc.1.1.2,hc.1.2,hc.2,hk⟩
  ·simp at hk
 ·simp at hk
theorem b0Q{t:TypeId}{ks:List SK}(hk:a0a P t=some ks){xs ys xs' ys' :Array Value}(hx:VL m xs.toList xs'.toList)(hy:VL m ys.toList ys'.toList){r:Bool}(hr:eqL ks xs.toList ys.toList=some r)(d:Nat):
  (Op.equalIn (d+2) t (.agg xs') (.agg ys')).run P w=.ok r w:=by
 obtain⟨fs,hu,hn,hof,hst,hg,hl⟩:=X0 hk
 have hfo:P.fieldsOf t=fs:=by simp[Program.fieldsOf,hu]
 rw[run_equalIn_struct w (d+1) t xs' ys' (by rw[hfo];exact hu) hst,hfo]
 exact a2V d xs' ys' fs.toList ks xs.toList ys.toList 0 hl hn (by rw[hof,List.range_eq_range'];simp) (by simpa using hx) (by simpa using hy) hr
theorem b1n(e:Emb P S m h w)(op:BinOp)(t:TypeId)(ox oy:Operand){ks:List SK}(hk:a0a P t=some ks)(neg:Bool)(hop:op=if neg then .neq else .eql)
  {x x' y y' :Value} (hx:VR m x x') (hy:VR m y y') {v:Value} {h1:Heap}
  (hc:C7 (.eqAgg neg ks x y) h=some (v,h1)):D2 P S m h w (a3m (do eqGuard op t ox oy x' y';binOp op t x' y')) v h1:=by
 obtain⟨fs,hu,hn,hof,hst,hg,hl⟩:=X0 hk
 simp only[C7]at hc
 split at hc
 ·rename_i xs ys
  simp only[uzD,uzB]at hc
  obtain⟨r,hr,rfl,rfl⟩:=hc
  obtain⟨xs',rfl,hxv⟩:=hx.agg_inv
  obtain⟨ys',rfl,hyv⟩:=hy.agg_inv
  refine D2.same (s:=do eqGuard op t ox oy (.agg xs') (.agg ys');binOp op t (.agg xs') (.agg ys')) e ?_ (.bool _)
  exact c7w op t ox oy (.agg xs') (.agg ys') neg hop r (run_eqGuard_agg w op t ox oy xs' ys' hg) (b0Q hk hxv hyv hr 9998) (by simp) (by simp) (by simp) (by simp)
 ·simp at hc
theorem a2v{q:TypeId}{kk:KK}(hk:a4S P q=some kk):(∃k,kk=.one k/\skT P q=some k)\/(∃ks,kk=.agg ks/\a0a P q=some ks/\skT P q=none):=by
 unfold a4S at hk
 split at hk
 ·rename_i k hs;left;exact⟨k,(uzA hk).symm,hs⟩
 ·rename_i hs
  right
  simp only[uzD]at hk
  obtain⟨ks,h1,h2⟩:=hk
  exact⟨ks,h2.symm,h1,hs⟩
theorem Y9{q:TypeId}{s:SK}(hs:skT P q=some s)(emp:Bool)(n:Nat)(k:Value):(Instr.checkKey emp (n+1) q k).run P w=.ok () w:=by
 have hne:∃d,P.underlying q=some d/\(d=.bool\/(∃i,d=.int i)\/d=.string):=by
  unfold skT at hs
  cases hu:P.underlying q with
  |none=>rw[hu]at hs;simp at hs
  |some d=>rw[hu]at hs;cases d<;>first| (simp at hs;done)|exact⟨_,rfl,by simp⟩
 obtain⟨d,hu,hd⟩:=hne
 rcases hd with rfl| ⟨i,rfl⟩|rfl<;>simp[Instr.checkKey,run_underlying' w hu]
theorem a1V{q:TypeId}{ks:List SK}(hk:a0a P q=some ks){xs xs' :Array Value}(hxv:VL m xs.toList xs'.toList){r:Bool}(hr:eqL ks xs.toList xs.toList=some r)(emp:Bool)(n:Nat):
  (Instr.checkKey emp (n+2) q (.agg xs')).run P w=.ok () w:=by
 obtain⟨fs,hu,hn,hof,hst,hg,hl⟩:=X0 hk
 unfold Instr.checkKey
 simp only[Sem.run_bind,run_underlying' w hu,Result.andThen_ok]
 rw[<-Array.forIn_toList]
 have main:∀(fl:List Field) (ks:List SK) (x:List Value) (o:Nat),a2B P fl=some ks->(∀f∈fl,f.name≠ "_")->fl.map (·.offset)=List.range' o fl.length->VL m x (xs'.toList.drop o)->(∃r,eqL ks x x=some r)->
   ∀(g:Field->PUnit->Sem (ForInStep PUnit)),(∀f u w',f.name≠ "_" ->(g f u).run P w' =((part f.type xs' f.offset).run P w').andThen fun a w'' =>((Instr.checkKey emp (n+1) f.type a).run P w'').andThen fun _ w3=> .ok (ForInStep.yield PUnit.unit) w3)->
   (forIn fl PUnit.unit g:Sem PUnit).run P w=.ok PUnit.unit w:=by
  intro fl
  induction fl with
  |nil=>intro ks x o _ _ _ _ _ g _;rfl
  |cons f fl ih=>
   intro ks x o hks hn hof hx hr g hgf
   simp only[a2B,vhz,uzD]at hks
   obtain⟨k,hk,l,hl,rfl⟩:=hks
   cases x with
   |nil=>obtain⟨r,hr⟩:=hr;simp[eqL]at hr
   |cons a x=>
    obtain⟨r,hr⟩:=hr
    simp only[eqL,vhz,uzD]at hr
    obtain⟨r1,hr1,r2,hr2,_⟩:=hr
    simp only[List.map_cons,uzM,List.range'_succ,List.cons.injEq]at hof
    obtain⟨a',ta,ea,ha,hta⟩:=hx.of_cons
    obtain⟨q1,q2⟩:=b1o hk
    have ga:xs'[f.offset]? =some a' :=by
     rw[hof.1]
     have:(xs'.toList.drop o)[0]? =some a' :=by rw[ea];rfl
     simpa using this
    have da:xs'.toList.drop (o+1)=ta:=by rw[<-List.drop_drop,ea];rfl
    simp only[List.forIn_cons,Sem.run_bind]
    rw[hgf f _ w (hn f (by simp)),N0 q1 q2 ga]
    simp only[Result.andThen_ok,Y9 hk]
    exact ih l x (o+1) hl (fun g hg=>hn g (by simp[hg])) hof.2 (by rw[da];exact hta) ⟨r2,hr2⟩ g hgf
 refine congrArg (fun r=>Result.andThen r fun(_:PUnit) w' =>Sem.run P (pure ()) w') (main fs.toList ks xs.toList 0 hl hn (by rw[hof,List.range_eq_range'];simp) (by simpa using hxv) ⟨r,hr⟩ _ ?_)
 intro f u w' hf
 rw[if_pos hf];simp only[Sem.run_bind,Sem.run_pure]
theorem O7{q:TypeId}{kk:KK}(hk:a4S P q=some kk){k k' :Value}(hkv:VR m k k'){b:Bool}(hb:Y3 kk k k=some b)(emp:Bool):(Instr.checkKey emp 10000 q k').run P w=.ok () w:=by
 rcases a2v hk with⟨s,rfl,hs⟩| ⟨ks,rfl,hs,_⟩
 ·exact Y9 hs emp 9999 k'
 ·cases k with
  |agg xs=>
   obtain⟨xs',rfl,hxv⟩:=hkv.agg_inv
   exact a1V hs hxv hb emp 9998
  |_=>simp[Y3]at hb
theorem c9t{q:TypeId}{kk:KK}(hk:a4S P q=some kk){a b a' b' :Value}(ha:VR m a a')(hb:VR m b b'){r:Bool}(hr:Y3 kk a b=some r):(Op.equal q a' b').run P w=.ok r w:=by
 rcases a2v hk with⟨s,rfl,hs⟩| ⟨ks,rfl,hs,_⟩
 ·exact(c6Z (w:=w) hs ha hb hr 9999).1
 ·cases a with
  |agg xs=>cases b with
   |agg ys=>
    obtain⟨xs',rfl,hxv⟩:=ha.agg_inv
    obtain⟨ys',rfl,hyv⟩:=hb.agg_inv
    exact b0Q hs hxv hyv hr 9998
   |_=>simp[Y3]at hr
  |_=>simp[Y3]at hr
theorem a1x{q:TypeId}{kk:KK}(hk:a4S P q=some kk){k k' :Value}(hkv:VR m k k'):∀(es es' :List MapEntry) (i:Nat) {r:Option Nat},X5 m es es' ->I9 kk k es i=some r->
  (Instr.findAsking q k' es' i).run P w=.ok (r.map fun j=>(j,((es'[j-i]?).map (·.val)).getD default)) w/\(∀j,r=some j->i<=j/\j-i<es'.length)
 | [],es',i,r,he,hr=>by
  obtain rfl:=uzA hr
  have:es' =[]:=by have:=he.1;simp at this;exact List.length_eq_zero_iff.1 this.symm
  subst this
  exact⟨rfl,fun j hj=>by simp at hj⟩
 |x::es,es',i,r,he,hr=>by
  cases es' with
  |nil=>have:=he.1;simp at this
  |cons y es' =>
   simp only[I9,vhz]at hr
   obtain⟨b,hb,hr⟩:=hr
   have hxy:=he.2 0 x y rfl rfl
   have hrun:=c9t (w:=w) hk hkv hxy.2.1 hb
   cases b with
   |true=>
    simp only[if_true,uzC]at hr
    subst hr
    refine⟨?_,fun j hj=>by obtain rfl:=uzA hj;simp⟩
    simp[Instr.findAsking,hrun]
   |false=>
    simp only[vgz,if_false]at hr
    obtain⟨h1,h2⟩:=a1x hk hkv es es' (i+1) ⟨by have:=he.1;simpa using this,fun j u v hu hv=>he.2 (j+1) u v (by simpa using hu) (by simpa using hv)⟩ hr
    refine⟨?_,fun j hj=>by have:=h2 j hj;simp;omega⟩
    simp only[Instr.findAsking,Sem.run_bind,hrun,Result.andThen_ok,vgz,if_false,h1]
    cases r with
    |none=>rfl
    |some j=>
     have:=h2 j rfl
     simp only[vlz]
     rw[show j-i=(j-(i+1))+1 from by omega]
     rfl
theorem a4E{q:TypeId}{s:SK}{d:TypeDesc}(hu:P.underlying q=some d)(hs:skT P q=some s){k k' :Value}(hkv:VR m k k'):∀(es es' :List MapEntry) (i:Nat) {r:Option Nat},X5 m es es' ->I9 (.one s) k es i=some r->
  Instr.findNow d k' es' i=some (r.map fun j=>(j,((es'[j-i]?).map (·.val)).getD default))/\(∀j,r=some j->i<=j/\j-i<es'.length)
 | [],es',i,r,he,hr=>by
  obtain rfl:=uzA hr
  have:es' =[]:=by have:=he.1;simp at this;exact List.length_eq_zero_iff.1 this.symm
  subst this
  exact⟨rfl,fun j hj=>by simp at hj⟩
 |x::es,es',i,r,he,hr=>by
  cases es' with
  |nil=>have:=he.1;simp at this
  |cons y es' =>
   simp only[I9,vhz,Y3]at hr
   obtain⟨b,hb,hr⟩:=hr
   have hxy:=he.2 0 x y rfl rfl
   have hsame:Instr.sameNow d k' y.key=some b:=by
    have hkey:=hxy.2.1
    unfold skT at hs
    rw[hu]at hs
    unfold E5 at hb
    split at hb
    ·rename_i k1 a1 k2 b1 hk1 hk2
     obtain rfl:=hkv.int_inv
     rw[hk2]at hkey
     have hk2' :=hkey.int_inv
     rw[hk2']
     split at hb
     ·rename_i hkk
      cases d<;>first| (simp at hs;done)| (simp only[Instr.sameNow,hkk,if_true];exact hb)
     ·simp at hb
    ·rename_i a1 b1 hk2
     obtain rfl:=hkv.string_inv
     rw[hk2]at hkey
     have hk2' :=hkey.string_inv
     rw[hk2']
     cases d<;>first| (simp at hs;done)| (simp only[Instr.sameNow];rw[beq_toListBytes];exact hb)
    ·rename_i a1 b1 hk2
     obtain rfl:=hkv.bool_inv
     rw[hk2]at hkey
     have hk2' :=hkey.bool_inv
     rw[hk2']
     cases d<;>first| (simp at hs;done)| (simp only[Instr.sameNow];exact hb)
    ·simp at hb
   cases b with
   |true=>
    simp only[if_true,uzC]at hr
    subst hr
    refine⟨?_,fun j hj=>by obtain rfl:=uzA hj;simp⟩
    simp[Instr.findNow,hsame]
   |false=>
    simp only[vgz,if_false]at hr
    obtain⟨h1,h2⟩:=a4E hu hs hkv es es' (i+1) ⟨by have:=he.1;simpa using this,fun j u v hu hv=>he.2 (j+1) u v (by simpa using hu) (by simpa using hv)⟩ hr
    refine⟨?_,fun j hj=>by have:=h2 j hj;simp;omega⟩
    simp only[Instr.findNow,hsame,h1]
    cases r with
    |none=>rfl
    |some j=>
     have:=h2 j rfl
     simp only[vlz]
     rw[show j-i=(j-(i+1))+1 from by omega]
     rfl
theorem a2X{q:TypeId}{kk:KK}(hk:a4S P q=some kk){k k' :Value}(hkv:VR m k k'){es:List MapEntry}{es' :Array MapEntry}{r:Option Nat}(he:X5 m es es'.toList)(hr:I9 kk k es 0=some r):
  (Instr.findKey q k' es'.toList).run P w=.ok (r.map fun j=>(j,((es'[j]?).map (·.val)).getD default)) w/\(∀j,r=some j->j<es.length):=by
 have hlen:=he.1
 rcases a2v hk with⟨s,rfl,hs⟩| ⟨ks,rfl,hs,hno⟩
 ·have:∃d,P.underlying q=some d:=by
   unfold skT at hs
   cases hu:P.underlying q with
   |none=>rw[hu]at hs;simp at hs
   |some d=>exact⟨d,rfl⟩
  obtain⟨d,hu⟩:=this
  obtain⟨h1,h2⟩:=a4E hu hs hkv es es'.toList 0 he hr
  refine⟨?_,fun j hj=>by have:=h2 j hj;omega⟩
  simp only[Instr.findKey,Sem.run_bind,run_underlying' w hu,Result.andThen_ok,h1,Sem.run_pure]
  simp
 ·obtain⟨fs,hu,hn,hof,hst,hg,hl⟩:=X0 hs
  obtain⟨h1,h2⟩:=a1x (w:=w) hk hkv es es'.toList 0 he hr
  refine⟨?_,fun j hj=>by have:=h2 j hj;omega⟩
  cases hes:es'.toList with
  |nil=>
   rw[hes]at h1 he
   have:es=[]:=by have:=he.1;simp at this;exact this
   subst this
   obtain rfl:=uzA hr
   simp[Instr.findKey,run_underlying' w hu,Instr.findNow]
  |cons y ys=>
   rw[hes]at h1
   have hnow:Instr.findNow (.struct fs) k' (y::ys) 0=none:=by
    have:Instr.sameNow (.struct fs) k' y.key=none:=by cases k' <;>rfl
    simp[Instr.findNow,this]
   simp only[Instr.findKey,Sem.run_bind,run_underlying' w hu,Result.andThen_ok,hnow,h1]
   rw[<-hes];simp
end
section
variable {P:Program} {S:Stay} {m:Map} {h:Heap} {w:World}
theorem Z7(e:Emb P S m h w){r:Nat}{L:Loc}(hr:m r=some L){es:List MapEntry}{clock:Nat}(ho:h.obj r=.map es clock):
  ∃es' :Array MapEntry,w.heap[L.blk]? =some (.map es' clock)/\X5 m es es'.toList:=by
 have:=e.obj r L hr
 rw[ho]at this
 exact this
theorem run_getObj'{r:Nat}{o:Go.Obj}(ho:w.heap[r]? =some o)(hc:∀c t fr,o≠.cells c t fr):(getObj r).run P w=.ok o w:=by
 cases o<;>first| (exact absurd rfl (hc _ _ _))|simp[getObj,Sem.run,ho]
theorem run_setObj'{r:Nat}{o o1:Go.Obj}(ho:w.heap[r]? =some o)(hc:∀c t fr,o≠.cells c t fr):(setObj r o1).run P w=.ok () { w with heap:=w.heap.setIfInBounds r o1 }:=by
 cases o<;>first| (exact absurd rfl (hc _ _ _))|simp[setObj,Sem.run,ho]
theorem a0b(e:Emb P S m h w){r:Nat}{L:Loc}(hr:m r=some L){o1:Go.Obj}{ob:Obj}(hwr:(h.obj r).wr=true)(hob:∀w1:World,w1.heap[L.blk]? =some o1->a3q P m L w1 ob)
  (hlp:∀st pd,ob=.loop st pd->∀I,S.lp r=some I->∀q,o1=.loop q->e0d q I.r:=by intro _ _ h;cases h):
  Out P S m h w m (h.upd r ob) { w with heap:=w.heap.setIfInBounds L.blk o1 }:=by
 have same:({ w with heap:=w.heap.setIfInBounds L.blk o1 }:World).heap[L.blk]? =some o1:=by
  show(w.heap.setIfInBounds L.blk o1)[L.blk]? =_
  rw[Array.getElem?_setIfInBounds_self_of_lt (e.lt r L hr (by
   cases hx:h.obj r with
   |gone=>rw[hx]at hwr;simp[Obj.wr]at hwr
   |_=>rfl))]
 refine Out.upd e r L ob hr hwr (fun k hk=>?_) (by simp) rfl rfl rfl (hob _ ?_) (fun st pd hq I hI q hr' =>hlp st pd hq I hI q (by rw[same]at hr';exact uzA hr'))
 ·show(w.heap.setIfInBounds L.blk o1)[k]? =_
  rw[Array.getElem?_setIfInBounds_ne (fun h=>hk h.symm)]
 ·show(w.heap.setIfInBounds L.blk o1)[L.blk]? =_
  rw[Array.getElem?_setIfInBounds_self_of_lt (e.lt r L hr (by
   cases hx:h.obj r with
   |gone=>rw[hx]at hwr;simp[Obj.wr]at hwr
   |_=>rfl))]
theorem X5.getVal{es:List MapEntry}{es' :Array MapEntry}(he:X5 m es es'.toList){i:Nat}(hi:i<es.length)(d d' :Value):VR m (((es[i]?).map (·.val)).getD d) (((es'[i]?).map (·.val)).getD d'):=by
 have hl:=he.1
 have hi' :i<es'.size:=by simp at hl;omega
 rw[uzF hi,Array.getElem?_eq_getElem hi']
 exact(he.2 i es[i] es'[i] (uzF hi) (by simp[hi'])).2.2
theorem b7n(e:Emb P S m h w){t q t' :TypeId}(ht:P.underlying t=some (.map q t')){z:Value}(hz:a8G P t' =some z){kk:KK}(hk:a4S P q=some kk)(ok:Bool){x x' y y' :Value}(hx:VR m x x')(hy:VR m y y'){v:Value}{h1:Heap}
  (hc:C7 (.lookup kk z ok x y) h=some (v,h1)):D2 P S m h w (do pure (.value (<-Instr.lookup t x' y' ok))) v h1:=by
 obtain⟨z1,z2⟩:=a2E hz
 have fin:∀{u u' :Value} (b:Bool),VR m u u' ->VR m (if ok then .tuple #[u,.bool b]else u) (if ok then .tuple #[u',.bool b]else u'):=by
  intro u u' b hu
  cases ok with
  |true=>simp only[if_true];exact VR.tuple_of (VL.cons hu (VL.cons (.bool b) (VL.nil m)))
  |false=>simpa using hu
 simp only[C7]at hc
 split at hc
 ·simp only[uzD,uzB]at hc
  obtain⟨b,hb,rfl,rfl⟩:=hc
  obtain rfl:=hx.nilMap_inv
  obtain⟨hf,_⟩:=a2X (w:=w) (es:=[]) (es' := #[]) (r:=none) hk hy ⟨rfl,fun i x y h=>by simp at h⟩ rfl
  refine D2.same e ?_ (fin false (VR.selfV z2))
  have hck:=O7 (w:=w) hk hy hb true
  simp only[Instr.lookup,Sem.run_bind,run_underlying' w ht,Result.andThen_ok,Sem.run_pure,Array.isEmpty_empty,hck,hf,Option.map_none,run_zeroValue' w z1]
 ·rename_i r
  obtain⟨L,hr,rfl⟩:=hx.map_inv
  split at hc
  ·rename_i es clock ho
   simp only[vhz,uzD]at hc
   obtain⟨b,hb,fr,hfr,hc⟩:=hc
   obtain⟨es',hblk,he⟩:=Z7 e hr ho
   obtain⟨hf,hlt⟩:=a2X (w:=w) hk hy he hfr
   have hgo:=run_getObj' (P:=P) hblk (by simp)
   cases fr with
   |none=>
    simp only[uzB]at hc
    obtain⟨rfl,rfl⟩:=hc
    refine D2.same e ?_ (fin false (VR.selfV z2))
    have hck:=O7 (w:=w) hk hy hb es'.isEmpty
    simp only[Instr.lookup,Sem.run_bind,run_underlying' w ht,Result.andThen_ok,Sem.run_pure,hgo,hck,hf,Option.map_none,run_zeroValue' w z1]
   |some i=>
    simp only[uzB]at hc
    obtain⟨rfl,rfl⟩:=hc
    refine D2.same e ?_ (fin true (he.getVal (hlt i rfl) z default))
    have hck:=O7 (w:=w) hk hy hb es'.isEmpty
    simp only[Instr.lookup,Sem.run_bind,run_underlying' w ht,Result.andThen_ok,Sem.run_pure,hgo,hck,hf,vlz]
  ·simp at hc
 ·simp at hc
theorem b4F{k:SK}{a b:Value}(hr:E5 k a b=some true)(n:Nat):Instr.sameBits n b a=true:=by
 unfold E5 at hr
 split at hr
 ·split at hr
  ·rename_i hk
   subst hk
   have:=uzA hr
   simp at this
   subst this
   cases n<;>simp[Instr.sameBits]
  ·simp at hr
 ·rename_i x y
  have hxy:=uzA hr
  rw[<-beq_toListBytes]at hxy
  have:(y==x)=true:=by
   rw[beq_toListBytes]at hxy ⊢
   simp at hxy ⊢;exact hxy.symm
  cases n<;>simp only[Instr.sameBits,this]
 ·have:=uzA hr
  simp at this
  subst this
  cases n<;>simp[Instr.sameBits]
 ·simp at hr
theorem b4E(n:Nat):∀{ks:List SK} {x y x' y' :List Value},eqL ks x y=some true->VL m x x' ->VL m y y' ->y'.length=x'.length/\((y'.zip x').all fun p=>Instr.sameBits n p.1 p.2)=true
 | [],x,y,x',y',hr,hx,hy=>by
  cases x<;>cases y<;>simp[eqL]at hr
  rw[hx.of_nil,hy.of_nil];simp
 |k::ks,x,y,x',y',hr,hx,hy=>by
  cases x with
  |nil=>simp[eqL]at hr
  |cons a x=>cases y with
   |nil=>simp[eqL]at hr
   |cons b y=>
    simp only[eqL,vhz,uzD]at hr
    obtain⟨r1,h1,r2,h2,h3⟩:=hr
    simp only[vjz]at h3
    obtain⟨rfl,rfl⟩:=h3
    obtain⟨a',tx,rfl,ha,htx⟩:=hx.of_cons
    obtain⟨b',ty,rfl,hb,hty⟩:=hy.of_cons
    have hab:a' =a/\b' =b:=by
     unfold E5 at h1
     split at h1
     ·exact⟨ha.int_inv,hb.int_inv⟩
     ·exact⟨ha.string_inv,hb.string_inv⟩
     ·exact⟨ha.bool_inv,hb.bool_inv⟩
     ·simp at h1
    obtain⟨rfl,rfl⟩:=hab
    obtain⟨q1,q2⟩:=b4E n h2 htx hty
    simp only[uzM,q1,List.zip_cons_cons,List.all_cons,b4F h1 n,Bool.true_and,q2,and_self]
theorem b1a{kk:KK}{a b a' b' :Value}(hr:Y3 kk a b=some true)(ha:VR m a a')(hb:VR m b b'):(Instr.keyThatStays b' a').run P w=.ok a' w:=by
 have:Instr.sameBits 10000 b' a' =true:=by
  cases kk with
  |one k=>
   have h1:E5 k a b=some true:=hr
   have hab:a' =a/\b' =b:=by
    unfold E5 at h1
    split at h1
    ·exact⟨ha.int_inv,hb.int_inv⟩
    ·exact⟨ha.string_inv,hb.string_inv⟩
    ·exact⟨ha.bool_inv,hb.bool_inv⟩
    ·simp at h1
   obtain⟨rfl,rfl⟩:=hab
   exact b4F h1 10000
  |agg ks=>
   cases a with
   |agg xs=>cases b with
    |agg ys=>
     obtain⟨xs',rfl,hxv⟩:=ha.agg_inv
     obtain⟨ys',rfl,hyv⟩:=hb.agg_inv
     obtain⟨q1,q2⟩:=b4E 9999 (show eqL ks xs.toList ys.toList=some true from hr) hxv hyv
     have q1' :ys'.size=xs'.size:=by simpa using q1
     show(ys'.size==xs'.size && (ys'.toList.zip xs'.toList).all fun(x,y)=>Instr.sameBits 9999 x y)=true
     rw[q1',beq_self_eq_true,Bool.true_and];exact q2
    |_=>simp[Y3]at hr
   |_=>simp[Y3]at hr
 simp only[Instr.keyThatStays,this,if_true,Sem.run_pure]
theorem a0C{kk:KK}{k:Value}:∀{es:List MapEntry} {i j:Nat},I9 kk k es i=some (some j)->∃x,es[j-i]? =some x/\Y3 kk k x.key=some true/\i<=j
 | [],i,j,h=>by simp[I9]at h
 |x::es,i,j,h=>by
  simp only[I9,vhz]at h
  obtain⟨b,hb,h⟩:=h
  cases b with
  |true=>simp only[if_true,uzC]at h;subst h;exact⟨x,by simp,hb,uzP _⟩
  |false=>
   simp only[vgz,if_false]at h
   obtain⟨y,h1,h2,h3⟩:=a0C h
   exact⟨y,by rw[show j-i=(j-(i+1))+1 from by omega];simpa using h1,h2,by omega⟩
theorem X5.modify{es es' :List MapEntry}(he:X5 m es es')(i:Nat){f f' :MapEntry->MapEntry}(hf:∀x y,b1u m x y->b1u m (f x) (f' y)):X5 m (es.modify i f) (es'.modify i f'):=by
 refine⟨by simp[he.1],fun j x y hx hy=>?_⟩
 rw[List.getElem?_modify]at hx hy
 simp only[Option.map_eq_map,uzD]at hx hy
 obtain⟨x0,hx0,rfl⟩:=hx
 obtain⟨y0,hy0,rfl⟩:=hy
 have:=he.2 j x0 y0 hx0 hy0
 split
 ·exact hf _ _ this
 ·exact this
theorem X5.snoc{es es' :List MapEntry}(he:X5 m es es'){x y:MapEntry}(h:b1u m x y):X5 m (es++[x]) (es' ++[y]):=by
 refine⟨by simp[he.1],fun j u v hu hv=>?_⟩
 have hl:=he.1
 by_cases hj:j<es.length
 ·rw[vuz hj]at hu
  rw[vuz (by omega)]at hv
  exact he.2 j u v hu hv
 ·rw[vfz (by omega)]at hu
  rw[vfz (by omega)]at hv
  rw[<-hl]at hv
  have:j-es.length=0:=by
   cases hq:j-es.length with
   |zero=>rfl
   |succ q=>rw[hq]at hu;simp at hu
  rw[this]at hu hv
  simp at hu hv;subst hu;subst hv;exact h
theorem a8W(e:Emb P S m h w){t q t' :TypeId}(ht:P.underlying t=some (.map q t')){kk:KK}(hk:a4S P q=some kk){x x' y y' z z' :Value}(hx:VR m x x')(hy:VR m y y')(hzv:VR m z z'){v:Value}{h1:Heap}
  (hc:C7 (.mapUpdate kk x y z) h=some (v,h1)):D2 P S m h w (do Instr.mapUpdate t x' y' z';pure .skip) v h1:=by
 simp only[C7]at hc
 split at hc
 ·rename_i r
  obtain⟨L,hr,rfl⟩:=hx.map_inv
  split at hc
  ·rename_i es clock ho
   simp only[vhz,uzD]at hc
   obtain⟨b,hb,fr,hfr,hc⟩:=hc
   obtain⟨es',hblk,he⟩:=Z7 e hr ho
   obtain⟨hf,hlt⟩:=a2X (w:=w) hk hy he hfr
   have hgo:=run_getObj' (P:=P) hblk (by simp)
   have hck:=O7 (w:=w) hk hy hb false
   have hwr:(h.obj r).wr=true:=by rw[ho];rfl
   cases fr with
   |none=>
    simp only[uzB]at hc
    obtain⟨rfl,rfl⟩:=hc
    refine D2.unit (w1:={ w with heap:=w.heap.setIfInBounds L.blk (.map (es'.push ⟨y',z',clock⟩) (clock+1)) }) ?_ (a0b e hr hwr fun w1 hw1=>⟨_,hw1,by simpa using he.snoc (x:=⟨y,z,clock⟩) (y:=⟨y',z',clock⟩) ⟨rfl,hy,hzv⟩⟩)
    have hset:=run_setObj' (P:=P) (o1:=.map (es'.push ⟨y',z',clock⟩) (clock+1)) hblk (by simp)
    simp only[Instr.mapUpdate,Sem.run_bind,run_underlying' w ht,Result.andThen_ok,Sem.run_pure,hgo,hck,hf,Option.map_none,hset]
   |some i=>
    simp only[uzB]at hc
    obtain⟨rfl,rfl⟩:=hc
    obtain⟨xe,hxe,hkeq,_⟩:=a0C hfr
    simp only[Nat.sub_zero]at hxe
    have hl:=he.1
    have hi:=hlt i rfl
    have hi' :i<es'.size:=by simp at hl;omega
    have hye:es'[i]? =some es'[i]:=Array.getElem?_eq_getElem hi'
    have hstay:=b1a (P:=P) (w:=w) hkeq hy (he.2 i xe es'[i] hxe (by simp[hi'])).2.1
    refine D2.unit (w1:={ w with heap:=w.heap.setIfInBounds L.blk (.map (es'.modify i fun x=>{ x with key:=y',val:=z' }) clock) }) ?_ (a0b e hr hwr fun w1 hw1=>⟨_,hw1,?_⟩)
    ·have hset:=run_setObj' (P:=P) (o1:=.map (es'.modify i fun x=>{ x with key:=y',val:=z' }) clock) hblk (by simp)
     simp only[Instr.mapUpdate,Sem.run_bind,run_underlying' w ht,Result.andThen_ok,Sem.run_pure,hgo,hck,hf,vlz,hye,vFz,hstay,hset]
    ·rw[Array.toList_modify]
     exact he.modify i fun x0 y0 h0=>⟨h0.1,hy,hzv⟩
  ·simp at hc
 ·simp at hc
theorem b2F(e:Emb P S m h w){t q t' :TypeId}(ht:P.underlying t=some (.map q t')){z:Value}(hz:a8G P t' =some z){kk:KK}(hk:a4S P q=some kk){x x' y y' :Value}(hx:VR m x x')(hy:VR m y y'){v:Value}{h1:Heap}
  (hc:C7 (.mapEntry kk z x y) h=some (v,h1)):D2 P S m h w (do pure (.value (<-Instr.mapEntry t x' y'))) v h1:=by
 obtain⟨z1,z2⟩:=a2E hz
 simp only[C7]at hc
 split at hc
 ·rename_i r
  obtain⟨L,hr,rfl⟩:=hx.map_inv
  split at hc
  ·rename_i es clock ho
   simp only[vhz,uzD]at hc
   obtain⟨b,hb,fr,hfr,hc⟩:=hc
   obtain⟨es',hblk,he⟩:=Z7 e hr ho
   obtain⟨hf,hlt⟩:=a2X (w:=w) hk hy he hfr
   have hgo:=run_getObj' (P:=P) hblk (by simp)
   have hck:=O7 (w:=w) hk hy hb false
   have hwr:(h.obj r).wr=true:=by rw[ho];rfl
   cases fr with
   |none=>
    simp only[uzB]at hc
    obtain⟨rfl,rfl⟩:=hc
    refine D2.val (s:=Instr.mapEntry t (.map (some L.blk)) y') (v' :=.tuple #[z,goInt clock]) (w1:={ w with heap:=w.heap.setIfInBounds L.blk (.map (es'.push ⟨y',z,clock⟩) (clock+1)) }) ?_ (VR.tuple_of (VL.cons (VR.selfV z2) (VL.cons (.int _ _) (VL.nil m)))) (a0b e hr hwr fun w1 hw1=>⟨_,hw1,by simpa using he.snoc (x:=⟨y,z,clock⟩) (y:=⟨y',z,clock⟩) ⟨rfl,hy,VR.selfV z2⟩⟩)
    have hset:=run_setObj' (P:=P) (o1:=.map (es'.push ⟨y',z,clock⟩) (clock+1)) hblk (by simp)
    simp only[Instr.mapEntry,Sem.run_bind,run_underlying' w ht,Result.andThen_ok,Sem.run_pure,hgo,hck,hf,Option.map_none,run_zeroValue' w z1,hset]
    rfl
   |some i=>
    simp only[uzB]at hc
    obtain⟨rfl,rfl⟩:=hc
    obtain⟨xe,hxe,hkeq,_⟩:=a0C hfr
    simp only[Nat.sub_zero]at hxe
    have hl:=he.1
    have hi:=hlt i rfl
    have hi' :i<es'.size:=by simp at hl;omega
    have hye:es'[i]? =some es'[i]:=Array.getElem?_eq_getElem hi'
    have hent:=he.2 i xe es'[i] hxe (by simp[hi'])
    have hstay:=b1a (P:=P) (w:=w) hkeq hy hent.2.1
    refine D2.val (s:=Instr.mapEntry t (.map (some L.blk)) y') (v' :=.tuple #[es'[i].val,goInt es'[i].born]) (w1:={ w with heap:=w.heap.setIfInBounds L.blk (.map (es'.modify i fun x=>{ x with key:=y' }) clock) }) ?_ (VR.tuple_of (VL.cons ?_ (VL.cons ?_ (VL.nil m)))) (a0b e hr hwr fun w1 hw1=>⟨_,hw1,?_⟩)
    ·have hset:=run_setObj' (P:=P) (o1:=.map (es'.modify i fun x=>{ x with key:=y' }) clock) hblk (by simp)
     simp only[Instr.mapEntry,Sem.run_bind,run_underlying' w ht,Result.andThen_ok,Sem.run_pure,hgo,hck,hf,vlz,hye,vFz,hstay,hset]
     rfl
    ·rw[hxe];exact hent.2.2
    ·rw[hxe];simp only[vlz,vFz,hent.1];exact .int _ _
    ·rw[Array.toList_modify]
     exact he.modify i fun x0 y0 h0=>⟨h0.1,hy,h0.2.2⟩
  ·simp at hc
 ·simp at hc
theorem b4H{es es' :List MapEntry}(he:X5 m es es')(born:Int):es'.findIdx? (fun x=>(x.born:Int)==born)=es.findIdx? (fun x=>(x.born:Int)==born):=by
 induction es generalizing es' with
 |nil=>have:es' =[]:=by have:=he.1;simp at this;exact List.length_eq_zero_iff.1 this.symm
       rw[this]
 |cons x es ih=>
  cases es' with
  |nil=>have:=he.1;simp at this
  |cons y es' =>
   have h0:=he.2 0 x y rfl rfl
   have:=ih (es' :=es') ⟨by have:=he.1;simpa using this,fun j u v hu hv=>he.2 (j+1) u v (by simpa using hu) (by simpa using hv)⟩
   simp only[List.findIdx?_cons,h0.1,this]
theorem a8w(e:Emb P S m h w)(t:TypeId){x x' y y' z z' :Value}(hx:VR m x x')(hy:VR m y y')(hzv:VR m z z'){v:Value}{h1:Heap}
  (hc:C7 (.entryStore x y z) h=some (v,h1)):D2 P S m h w (do Instr.entryStore t x' y' z';pure .skip) v h1:=by
 simp only[C7]at hc
 split at hc
 ·rename_i r k born
  obtain⟨L,hr,rfl⟩:=hx.map_inv
  obtain rfl:=hy.int_inv
  split at hc
  ·rename_i es clock ho
   split at hc
   ·rename_i i hfi
    simp only[uzC,uzB]at hc
    obtain⟨rfl,rfl⟩:=hc
    obtain⟨es',hblk,he⟩:=Z7 e hr ho
    have hgo:=run_getObj' (P:=P) hblk (by simp)
    have hwr:(h.obj r).wr=true:=by rw[ho];rfl
    have hfi' :es'.findIdx? (fun x=>(x.born:Int)==born)=some i:=by
     have h3:=b4H he born
     obtain⟨l⟩:=es'
     rw[List.findIdx?_toArray]
     exact h3.trans hfi
    refine D2.unit (w1:={ w with heap:=w.heap.setIfInBounds L.blk (.map (es'.modify i fun x=>{ x with val:=z' }) clock) }) ?_ (a0b e hr hwr fun w1 hw1=>⟨_,hw1,?_⟩)
    ·have hset:=run_setObj' (P:=P) (o1:=.map (es'.modify i fun x=>{ x with val:=z' }) clock) hblk (by simp)
     simp only[Instr.entryStore,Sem.run_bind,Sem.run_map,Result.andThen_ok,Sem.run_pure,hgo,asInt,asIntOf,hfi',hset]
    ·rw[Array.toList_modify]
     exact he.modify i fun x0 y0 h0=>⟨h0.1,h0.2.1,hzv⟩
   ·simp at hc
  ·simp at hc
 ·simp at hc
theorem a4M(e:Emb P S m h w)(hfr:m h.next=none){t:TypeId}{r:Option Value}(hrun:(Instr.makeMap t r).run P w=.ok (.map (some w.heap.size)) (w.alloc (.map #[] 0))):
  D2 P S m h w (do pure (.value (<-Instr.makeMap t r))) (.map (some h.next)) (h.new (.map [] 0)):=by
 have ho:=Out.new (w1:=w.alloc (.map #[] 0)) e (.map [] 0) (.map #[] 0) ⟨w.heap.size,0,0,0,false⟩ hfr rfl rfl rfl rfl rfl fun w' hw' =>⟨#[],hw',rfl,fun i x y hx=>by simp at hx⟩
 exact D2.val hrun (VR.map (m:=m.put h.next ⟨w.heap.size,0,0,0,false⟩) h.next ⟨w.heap.size,0,0,0,false⟩ (by simp[Map.put])) ho
theorem c9B(e:Emb P S m h w)(hfr:m h.next=none){t:TypeId}(ht:P.underlying t=some .string){x x' :Value}(hx:VR m x x'){v:Value}{h1:Heap}
  (hc:C7 (.range x) h=some (v,h1)):D2 P S m h w (do pure (.value (<-Instr.range t x'))) v h1:=by
 simp only[C7]at hc
 split at hc
 ·rename_i s
  simp only[uzC,uzB]at hc
  obtain⟨rfl,rfl⟩:=hc
  obtain rfl:=hx.string_inv
  have ho:=Out.new (w1:=w.alloc (.stringIter s 0)) e (.siter s 0) (.stringIter s 0) ⟨w.heap.size,0,0,0,false⟩ hfr rfl rfl rfl rfl rfl fun w' hw' =>⟨hw',rfl⟩
  refine D2.val (s:=Instr.range t (.string s)) (v' :=.pointer (some ⟨w.heap.size,0,none⟩)) ?_ (a8h (L:=⟨w.heap.size,0,0,0,false⟩) rfl m) ho
  simp[Instr.range,run_underlying' w ht]
 ·simp at hc
theorem b2H(e:Emb P S m h w)(hfr:m h.next=none){t q t' :TypeId}(ht:P.underlying t=some (.map q t')){x x' :Value}(hx:VR m x x'){v:Value}{h1:Heap}
  (hc:C7 (.rangeMap x) h=some (v,h1)):D2 P S m h w (do pure (.value (<-Instr.range t x'))) v h1:=by
 simp only[C7]at hc
 split at hc
 ·simp only[uzC,uzB]at hc
  obtain⟨rfl,rfl⟩:=hc
  obtain rfl:=hx.nilMap_inv
  have ho:=Out.new (w1:=w.alloc (.mapIter none 0 #[] 0)) e (.miter none 0 [] 0) (.mapIter none 0 #[] 0) ⟨w.heap.size,0,0,0,false⟩ hfr rfl rfl rfl rfl rfl fun w' hw' =>⟨hw',rfl⟩
  refine D2.val (s:=Instr.range t (.map none)) (v' :=.pointer (some ⟨w.heap.size,0,none⟩)) ?_ (a8h (L:=⟨w.heap.size,0,0,0,false⟩) rfl m) ho
  simp[Instr.range,run_underlying' w ht]
 ·rename_i r
  obtain⟨L,hr,rfl⟩:=hx.map_inv
  split at hc
  ·rename_i es clock hob
   simp only[uzC,uzB]at hc
   obtain⟨rfl,rfl⟩:=hc
   obtain⟨es',hblk,he⟩:=Z7 e hr hob
   have hgo:=run_getObj' (P:=P) hblk (by simp)
   have ho:=Out.new (w1:=w.alloc (.mapIter (some L.blk) clock #[] clock)) e (.miter (some r) clock [] clock) (.mapIter (some L.blk) clock #[] clock) ⟨w.heap.size,0,0,0,false⟩ hfr rfl rfl rfl rfl rfl fun w' hw' =>⟨L,Map.put_ext hfr _ _ hr,hw',rfl⟩
   refine D2.val (s:=Instr.range t (.map (some L.blk))) (v' :=.pointer (some ⟨w.heap.size,0,none⟩)) ?_ (a8h (L:=⟨w.heap.size,0,0,0,false⟩) rfl m) ho
   simp[Instr.range,run_underlying' w ht,hgo]
  ·simp at hc
 ·simp at hc
theorem b5v(e:Emb P S m h w)(ty:TypeId){x x' :Value}(hx:VR m x x'){v:Value}{h1:Heap}
  (hc:C7 (.nextStr x) h=some (v,h1)):D2 P S m h w (do pure (.value (<-Instr.next x' true ty))) v h1:=by
 simp only[C7]at hc
 split at hc
 ·rename_i r sp
  obtain⟨b,o,L,heq,hb,rfl⟩:=hx.ptr_inv
  obtain⟨rfl,rfl,rfl⟩:=Addr.mk.inj heq
  split at hc
  ·rename_i s pos ho
   have hob:=e.obj _ L hb
   rw[ho]at hob
   obtain⟨hblk,hsh⟩:=hob
   have hgo:=run_getObj' (P:=P) hblk (by simp)
   have hz:L.sh+0=0:=by rw[hsh]
   split at hc
   ·rename_i hlt
    simp only[uzC,uzB]at hc
    obtain⟨rfl,rfl⟩:=hc
    refine D2.val (v' :=.tuple #[.bool true,goInt pos,.int .i32 (Utf8.decode s pos).1]) (w1:={ w with heap:=w.heap.setIfInBounds L.blk (.stringIter s (pos+(Utf8.decode s pos).2)) }) ?_ (VR.tuple_of (VL.cons (.bool _) (VL.cons (.int _ _) (VL.cons (.int _ _) (VL.nil m))))) (a0b e hb (by rw[ho];rfl) fun w1 hw1=>⟨hw1,hsh⟩)
    have hset:=run_setObj' (P:=P) (o1:=.stringIter s (pos+(Utf8.decode s pos).2)) hblk (by simp)
    rw[hz]
    simp only[Instr.next,Sem.run_bind,hgo,Result.andThen_ok,hlt,if_true,hset,Sem.run_pure]
    rfl
   ·rename_i hlt
    simp only[uzC,uzB]at hc
    obtain⟨rfl,rfl⟩:=hc
    refine D2.same e (v' :=.tuple #[.bool false]) ?_ (VR.tuple_of (VL.cons (.bool _) (VL.nil m)))
    rw[hz]
    simp only[Instr.next,Sem.run_bind,hgo,Result.andThen_ok,hlt,if_false,Sem.run_pure]
  ·simp at hc
 ·simp at hc
theorem b2I(e:Emb P S m h w){t t' :TypeId}{n:Nat}(ht:P.underlying t=some (.array n t'))(hft:N3 P t' =true){x x' :Value}(hx:VR m x x'){lo hi lo' hi' :Option Value}(hlo:∀u,lo=some u->∃u',lo' =some u' /\VR m u u')(hlo0:lo=none->lo' =none)
  (hhi:∀u,hi=some u->∃u',hi' =some u' /\VR m u u') (hhi0:hi=none->hi' =none) {v:Value} {h1:Heap}
  (hc:C7 (.sliceArr n (P.cellsOf t') x lo hi) h=some (v,h1)):D2 P S m h w (do pure (.value (<-Instr.sliceAt t x' lo' hi' none))) v h1:=by
 obtain⟨d,i,hu,hi2⟩:=G9 hft
 simp only[C7]at hc
 split at hc
 ·rename_i a
  split at hc
  ·rename_i hst
   simp only[vhz,uzD,uzB]at hc
   obtain⟨b,hb,l,hl,rfl,rfl⟩:=hc
   obtain⟨bb,o,L,rfl,hbb,rfl⟩:=hx.ptr_inv
   obtain⟨q1,q2,q3,hrun⟩:=X6 (P:=P) (w:=w) hlo hlo0 hhi hhi0 false (uzP n) hb hl
   have hbn:b<=n:=by
    by_cases hz:hi=none
    ·rw[q2 hz];exact uzP _
    ·exact q3 hz
   by_cases hcl:n=l
   ·subst hcl
    have hbl:b-n=0:=by omega
    refine D2.same e (v' :=.slice (some ⟨L.blk,L.sh+o,none⟩) 0 0) ?_ ?_
    ·simp only[Instr.sliceAt,Instr.sureAddr,Sem.run_bind,run_underlying' w ht,Result.andThen_ok,Sem.run_pure,hrun,run_sizeOf' w hi2,if_true,hbl,vKz]
    ·rw[hbl,vKz,T2];exact .slice0 _ _ L _ hbb
   ·refine D2.same e (v' :=.slice (some ((⟨L.blk,L.sh+o,none⟩:Addr).add (l*P.cellsOf t'))) (b-l) (n-l)) ?_ ?_
    ·simp only[Instr.sliceAt,Instr.sureAddr,Sem.run_bind,run_underlying' w ht,Result.andThen_ok,Sem.run_pure,hrun,run_sizeOf' w hi2]
     rw[if_neg hcl]
    ·rw[T2,T2,Nat.add_assoc]
     refine .slice bb (o+l*P.cellsOf t') (b-l) (n-l) (n-l) L hbb (by omega) (uzP _) fun hgr=>?_
     exfalso
     cases ho:h.obj bb with
     |cells cs t2 g=>
      have k7:=a3e e hbb ho
      have hh:(h.obj bb).stiff=true:=hst
      rw[ho]at hh
      rw[hgr]at k7
      cases g with
      |grow=>simp[Obj.stiff]at hh
      |ro=>exact absurd k7 (by decide)
      |fix=>exact absurd k7 (by decide)
     |_=>have hh:(h.obj bb).stiff=true:=hst;rw[ho]at hh;simp[Obj.stiff]at hh
  ·simp at hc
 ·simp at hc
theorem a8X(e:Emb P S m h w){t t' :TypeId}{n:Nat}(ht:P.underlying t=some (.array n t'))(hft:N3 P t' =true){x x' :Value}(hx:VR m x x'){lo hi lo' hi' :Option Value}(hlo:∀u,lo=some u->∃u',lo' =some u' /\VR m u u')(hlo0:lo=none->lo' =none)
  (hhi:∀u,hi=some u->∃u',hi' =some u' /\VR m u u') {mx mx' :Value} (hmx:VR m mx mx') {v:Value} {h1:Heap}
  (hc:C7 (.sliceArr3 n (P.cellsOf t') x lo hi mx) h=some (v,h1)):D2 P S m h w (do pure (.value (<-Instr.sliceAt t x' lo' hi' (some mx')))) v h1:=by
 obtain⟨d,i,hu,hi2⟩:=G9 hft
 simp only[C7]at hc
 split at hc
 ·rename_i a y
  split at hc
  ·rename_i hst
   simp only[vhz,uzD,uzB]at hc
   obtain⟨k,hk,b,hb,l,hl,rfl,rfl⟩:=hc
   obtain⟨bb,o,L,rfl,hbb,rfl⟩:=hx.ptr_inv
   obtain⟨y',rfl,hy⟩:=hhi y rfl
   obtain⟨q1,q2,q3,hrun⟩:=Z4 (P:=P) (w:=w) (n0:=n) hlo hlo0 hy hmx false (uzP n) hk hb hl
   by_cases hcl:k=l
   ·subst hcl
    have hbl:b-k=0:=by omega
    refine D2.same e (v' :=.slice (some ⟨L.blk,L.sh+o,none⟩) 0 0) ?_ ?_
    ·simp only[Instr.sliceAt,Instr.sureAddr,Sem.run_bind,run_underlying' w ht,Result.andThen_ok,Sem.run_pure,hrun,run_sizeOf' w hi2,if_true,hbl,vKz]
    ·rw[hbl,vKz,T2];exact .slice0 _ _ L _ hbb
   ·refine D2.same e (v' :=.slice (some ((⟨L.blk,L.sh+o,none⟩:Addr).add (l*P.cellsOf t'))) (b-l) (k-l)) ?_ ?_
    ·simp only[Instr.sliceAt,Instr.sureAddr,Sem.run_bind,run_underlying' w ht,Result.andThen_ok,Sem.run_pure,hrun,run_sizeOf' w hi2]
     rw[if_neg hcl]
    ·rw[T2,T2,Nat.add_assoc]
     refine .slice bb (o+l*P.cellsOf t') (b-l) (k-l) (k-l) L hbb (by omega) (uzP _) fun hgr=>?_
     exfalso
     cases ho:h.obj bb with
     |cells cs t2 g=>
      have k7:=a3e e hbb ho
      have hh:(h.obj bb).stiff=true:=hst
      rw[ho]at hh
      rw[hgr]at k7
      cases g with
      |grow=>simp[Obj.stiff]at hh
      |ro=>exact absurd k7 (by decide)
      |fix=>exact absurd k7 (by decide)
     |_=>have hh:(h.obj bb).stiff=true:=hst;rw[ho]at hh;simp[Obj.stiff]at hh
  ·simp at hc
 ·simp at hc
theorem a8f(big:Bool):∀(xs xs' :List Value) (v v' r:Value),VL m xs xs' ->VR m v v' ->S0 big v xs=some r->
  (xs'.foldlM (if big then Builtin.max2 else Builtin.min2) v').run P w=.ok r w/\VR m r r
 | [],xs',v,v',r,hx,hv,hr=>by
  rw[hx.of_nil]
  unfold S0 at hr
  split at hr
  ·obtain rfl:=uzA hr
   obtain rfl:=hv.int_inv
   exact⟨rfl,.int _ _⟩
  ·simp at hr
 |x::xs,xs',v,v',r,hx,hv,hr=>by
  obtain⟨x',ys,rfl,hx1,hx2⟩:=hx.of_cons
  simp only[S0,vhz]at hr
  obtain⟨u,hu,hr⟩:=hr
  unfold a1L at hu
  split at hu
  ·rename_i k a k' b
   obtain rfl:=hv.int_inv
   obtain rfl:=hx1.int_inv
   split at hu
   ·rename_i hk
    subst hk
    obtain rfl:=uzA hu
    obtain⟨h1,h2⟩:=a8f big xs ys _ _ r hx2 (.int k _) hr
    refine⟨?_,h2⟩
    simp only[List.foldlM_cons,Sem.run_bind]
    cases big<;>simpa [Builtin.max2,Builtin.min2]using h1
   ·simp at hu
  ·simp at hu
theorem a8y(e:Emb P S m h w)(big:Bool)(ats:Array TypeId)(ty:TypeId){xs:List Value}{xs' :Array Value}(hx:VL m xs xs'.toList){v:Value}{h1:Heap}
  (hc:C7 (.minmax big xs) h=some (v,h1)):D2 P S m h w (do pure (.value (<-(if big then Builtin.max_ else Builtin.min_) ats ty xs'))) v h1:=by
 simp only[C7]at hc
 split at hc
 ·simp at hc
 ·rename_i x xs
  simp only[uzD,uzB]at hc
  obtain⟨u,hu,rfl,rfl⟩:=hc
  obtain⟨x',ys,hl,hx1,hx2⟩:=hx.of_cons
  obtain⟨h1,h2⟩:=a8f (P:=P) (w:=w) big xs ys x x' u hx2 hx1 hu
  refine D2.same e ?_ h2
  cases big<;>simpa [Builtin.max_,Builtin.min_,hl]using h1
end
section
variable {P:Program} {S:Stay} {m:Map} {h:Heap} {w:World}
theorem b5g{t:TypeId}{n:Nat}{x v:Value}{h1:Heap}(hc:C7 (.ptrSame t n x) h=some (v,h1)):∃b c,x=.pointer (some ⟨b,0,none⟩)/\h.obj b=.cells c t .fix/\c.length=n/\v=.pointer (some ⟨b,0,none⟩)/\h1=h:=by
 simp only[C7]at hc
 split at hc
 ·rename_i b
  split at hc
  ·rename_i c t' ho
   split at hc
   ·rename_i hcd
    obtain⟨rfl,hl⟩:=hcd
    simp only[uzC,uzB]at hc
    exact⟨b,c,rfl,ho,hl,hc.1.symm,hc.2.symm⟩
   ·simp at hc
  ·simp at hc
 ·simp at hc
theorem a8n{t:TypeId}(h:a8m P t=true):∃j,P.info? t=some j/\j.size≠0/\P.cellsOf t≠0/\liesAt P P.depth t 1 0 t 1=true:=by
 unfold a8m at h
 split at h
 ·rename_i j hj
  simp only[vjz,bne_iff_ne]at h
  exact⟨j,hj,h.1.1,h.1.2,h.2⟩
 ·simp at h
theorem a4H(e:Emb P S m h w){t:TypeId}(ht:a8m P t=true){x x' v:Value}{h1:Heap}(hx:VR m x x')(hc:C7 (.ptrSame t (P.cellsOf t) x) h=some (v,h1)):
  ∃(L:Loc) (c' :Array Value) (fr:Nat×Nat),x' =.pointer (some ⟨L.blk,0,none⟩)/\VR m v x' /\h1=h/\w.heap[L.blk]? =some (.cells c' t fr)/\c'.size=P.cellsOf t:=by
 obtain⟨b,c,rfl,ho,hl,rfl,rfl⟩:=b5g hc
 have hx0:=hx
 obtain⟨b2,o,L,heq,hb,rfl⟩:=hx.ptr_inv
 obtain⟨rfl,rfl,_⟩:=Addr.mk.inj heq
 obtain⟨c',fr,k1,k2,k3,k4,k5,k6,k7,k8,k9⟩:=M9 e hb ho (.inl (by simp))
 obtain⟨k9,k10⟩:=k9 rfl
 rw[k9]at hx0 ⊢
 exact⟨L,c',fr,rfl,hx0,rfl,k1,by omega⟩
theorem a8t{L:Loc}{c' :Array Value}{t:TypeId}{fr:Nat×Nat}(h:w.heap[L.blk]? =some (.cells c' t fr)):w.shape? L.blk=some (t,c'.size):=by
 simp[World.shape?,h]
theorem b2K(e:Emb P S m h w){s d t:TypeId}(hs:P.underlying s=some (.pointer t))(hd:P.underlying d=some .unsafePointer)(ht:a8m P t=true){x x' v:Value}{h1:Heap}(hx:VR m x x')(hc:C7 (.ptrSame t (P.cellsOf t) x) h=some (v,h1)):
  D2 P S m h w (do pure (.value (<-convert s d x'))) v h1:=by
 obtain⟨L,c',fr,rfl,hv,rfl,hb,hsz⟩:=a4H e ht hx hc
 obtain⟨j,hj,h0,hcz,_⟩:=a8n ht
 refine D2.same e ?_ hv
 exact Lib.run_to_unsafe w ⟨L.blk,0,none⟩ hs hd hj h0 (a8t hb) (by show 0<c'.size;omega)
theorem a8x(e:Emb P S m h w){s d t:TypeId}(hs:P.underlying s=some .unsafePointer)(hd:P.underlying d=some (.pointer t))(ht:a8m P t=true){x x' v:Value}{h1:Heap}(hx:VR m x x')(hc:C7 (.ptrSame t (P.cellsOf t) x) h=some (v,h1)):
  D2 P S m h w (do pure (.value (<-convert s d x'))) v h1:=by
 obtain⟨L,c',fr,rfl,hv,rfl,hb,hsz⟩:=a4H e ht hx hc
 obtain⟨j,hj,h0,hcz,hlies⟩:=a8n ht
 refine D2.same e ?_ hv
 refine Lib.run_from_unsafe w ⟨L.blk,0,none⟩ hs hd hj (a8t hb) ?_
 rw[hsz,Nat.div_self (by omega)]
 exact hlies
theorem a8Y(e:Emb P S m h w)(ts:Array TypeId)(ty:TypeId){x x' v:Value}{h1:Heap}(hx:VR m x x')(hc:C7 (.sliceData x) h=some (v,h1)):
  D2 P S m h w (do pure (.value (<-Builtin.unsafeSliceData_ ts ty #[x']))) v h1:=by
 simp only[C7]at hc
 split at hc
 ·simp only[uzC,uzB]at hc
  obtain⟨rfl,rfl⟩:=hc
  obtain rfl:=hx.nilSlice_inv
  exact D2.same e rfl .nilPtr
 ·split at hc
  ·rename_i b o n c hc0
   simp only[uzC,uzB]at hc
   obtain⟨rfl,rfl⟩:=hc
   rcases hx.slice_inv with⟨b2,o2,c',L,heq,hb,hn,hcc,hg,rfl⟩| ⟨rfl,rfl,_,a',rfl,L0,hL0⟩
   ·obtain⟨rfl,rfl,_⟩:=Addr.mk.inj heq
    refine D2.same e (v' :=.pointer (some ⟨L.blk,L.sh+o,none⟩)) ?_ (.ptr b o L hb)
    have hne:c' ≠0:=by omega
    have hdef:Builtin.unsafeSliceData_ ts ty #[.slice (some ⟨L.blk,L.sh+o,none⟩) n c']=
      (do
       if c' ≠0 then pure (.pointer (some ⟨L.blk,L.sh+o,none⟩))
       else if(<-viewAt L.blk).isSome then pure (.pointer (some ⟨L.blk,L.sh+o,none⟩))
       else pure (.pointer (some ⟨<-newObj (.view ⟨L.blk,L.sh+o,none⟩ (<-elemOf ty)),0,none⟩))):=rfl
    rw[hdef,if_pos hne]
    rfl
   ·omega
  ·simp at hc
 ·simp at hc
theorem liesAt_bytes'{e:TypeId}(hc:P.cellsOf e=1)(count o n:Nat)(hn:o+n<=count):liesAt P P.depth e count o e n=true:=by
 have hd:P.depth=(2*(P.types.size+Made.depth)+1)+1:=rfl
 rw[hd]
 simp only[liesAt,Bool.or_eq_true]
 left
 rw[hd]
 simp[rowAt,hc,hn,sameLayout,Nat.mod_one]
theorem run_loadBytes' :∀(cs:List Value) (l:List UInt8) (a:Addr) (acc:ByteArray),bytesOf cs=some l->(∀j x,cs[j]? =some x->w.cell? (a.add j)=some x)->
  (loadBytes a acc l.length).run P w=.ok ⟨acc.data++l.toArray⟩ w
 | [],l,a,acc,hl,_=>by
  obtain rfl:=uzA hl
  simp[loadBytes]
 |c::cs,l,a,acc,hl,h=>by
  unfold bytesOf at hl
  split at hl
  ·rename_i heq;simp at heq
  ·rename_i n r heq
   obtain⟨rfl,rfl⟩:=List.cons.inj heq
   rw[uzD]at hl
   obtain⟨l',hl',rfl⟩:=hl
   have h0:w.cell? a=some (.int .u8 n):=by
    have:=h 0 _ rfl
    simpa [Addr.add]using this
   have ih:=run_loadBytes' cs l' (a.add 1) (acc.push (UInt8.ofNat n.toNat)) hl' (fun j y hy=>by
    have:=h (j+1) y (by simpa using hy)
    have e:(a.add 1).add j=a.add (j+1):=by
     unfold Addr.add
     by_cases hj:j=0
     ·subst hj;simp
     ·simp[hj];omega
    rw[e];exact this)
   have hx:(n.toNat).toUInt8=UInt8.ofNat n.toNat:=rfl
   simp only[uzM,loadBytes,Sem.run_bind,run_load,h0,Result.andThen,hx]
   rw[ih]
   simp[ByteArray.push]
  ·simp at hl
theorem a1W(pt it ty e:TypeId)(hp:P.underlying pt=some (.pointer e))(hc:P.cellsOf e=1)(g o cells:Nat)(hsh:w.shape? g=some (e,cells))(cs:List Value)(l:List UInt8)(hbl:bytesOf cs=some l)(h0:l.length≠0)(hn:o+l.length<=cells)(h63:l.length<=9223372036854775807)
  (hcell:∀j x,cs[j]? =some x->w.cell? ((⟨g,o,none⟩:Addr).add j)=some x):
  (Builtin.unsafeString_ #[pt,it] ty #[.pointer (some ⟨g,o,none⟩),.int .i64 l.length]).run P w=.ok (.string ⟨l.toArray⟩) (w.freeze ⟨g,o,none⟩ l.length):=by
 have hl:=h0
 have hlb:=run_loadBytes' (P:=P) cs l ⟨g,o,none⟩ .empty hbl hcell
 have hlies:=liesAt_bytes' (P:=P) hc (cells / P.cellsOf e) o l.length (by rw[hc];simpa using hn)
 have h63' :¬(9223372036854775807:Int)<(l.length:Int):=by omega
 have hdef:Builtin.unsafeString_ #[pt,it] ty #[.pointer (some ⟨g,o,none⟩),.int .i64 l.length]=
   (do
    let n <-asInt (.int .i64 l.length)
    if n<0 then runtimePanic (.error "unsafe.String: len out of range")
    if n>IntKind.i64.max then unsupported (.unsafePointer "String: a length above the largest int")
    if n=0 then pure (.string .empty)
    else if <-variablesAt ⟨g,o,none⟩ (<-elemOf pt) n.toNat then do
     let s <-loadBytes ⟨g,o,none⟩ .empty n.toNat
     freeze ⟨g,o,none⟩ n.toNat
     pure (.string s)
    else unsupported (.unsafePointer "String: not so many bytes at ptr")):=rfl
 rw[hdef]
 have hmax:IntKind.i64.max=9223372036854775807:=rfl
 have hneg:¬(l.length:Int)<0:=by omega
 simp[asInt,asIntOf,hmax,h63',hneg,hl,variablesAt,hsh,elemOf,run_underlying' w hp,hlies,hlb]
theorem a4e:∀(cs:List Value) (l:List UInt8),bytesOf cs=some l->l.length=cs.length
 | [],l,h=>by
  obtain rfl:=uzA h
  rfl
 |c::cs,l,h=>by
  unfold bytesOf at h
  split at h
  ·rename_i heq;simp at heq
  ·rename_i n r heq
   obtain⟨rfl,rfl⟩:=List.cons.inj heq
   rw[uzD]at h
   obtain⟨l',hl',rfl⟩:=h
   simp[a4e cs l' hl']
  ·simp at h
theorem a4d:∀(cs:List Value) (l:List UInt8),bytesOf cs=some l->l.length=cs.length/\∀(j:Nat) (x:UInt8),l[j]? =some x->∃n:Int,cs[j]? =some (.int .u8 n)/\x=UInt8.ofNat n.toNat
 | [],l,h=>by
  obtain rfl:=uzA h
  exact⟨rfl,fun j x hx=>by simp at hx⟩
 |c::cs,l,h=>by
  unfold bytesOf at h
  split at h
  ·rename_i heq;simp at heq
  ·rename_i n r heq
   obtain⟨rfl,rfl⟩:=List.cons.inj heq
   rw[uzD]at h
   obtain⟨l',hl',rfl⟩:=h
   obtain⟨e1,e2⟩:=a4d cs l' hl'
   refine⟨by simp[e1],fun j x hx=>?_⟩
   cases j with
   |zero=>simp at hx;exact⟨n,rfl,hx.symm⟩
   |succ j=>simpa using e2 j x (by simpa using hx)
  ·simp at h
theorem b2i(w:World)(a:Addr)(n k:Nat)(hk:k≠a.block):(w.freeze a n).heap[k]? =w.heap[k]? :=by
 unfold World.freeze
 split
 ·rfl
 ·simp[Array.getElem?_modify,Ne.symm hk]
theorem b4L(w:World)(a:Addr)(n:Nat):(w.freeze a n).heap.size=w.heap.size:=by
 unfold World.freeze
 split
 ·rfl
 ·simp
theorem b4K(w:World)(a:Addr)(n:Nat):(w.freeze a n).os=w.os/\(w.freeze a n).tape=w.tape/\(w.freeze a n).output=w.output:=by
 unfold World.freeze
 split<;>exact⟨rfl,rfl,rfl⟩
theorem a8Z(e:Emb P S m h w){pt it ty t:TypeId}(hp:P.underlying pt=some (.pointer t))(hcz:P.cellsOf t=1){x x' n n' v:Value}{h1:Heap}(hx:VR m x x')(hn:VR m n n')(hc:C7 (.unsafeStr t x n) h=some (v,h1)):
  D2 P S m h w (do pure (.value (<-Builtin.unsafeString_ #[pt,it] ty #[x',n']))) v h1:=by
 simp only[C7]at hc
 split at hc
 case h_2=>simp at hc
 rename_i k
 obtain rfl:=hn.int_inv
 split at hc
 ·split at hc
  ·rename_i hk
   subst hk
   simp only[uzC,uzB]at hc
   obtain⟨rfl,rfl⟩:=hc
   obtain rfl:=hx.nilPtr_inv
   exact D2.same e (Lib.run_unsafeString_none w pt it ty none) (.string _)
  ·simp at hc
 ·rename_i b
  split at hc
  ·rename_i c t' ho
   split at hc
   ·rename_i hcd
    obtain⟨rfl,hk0,hkl,hk63⟩:=hcd
    simp only[uzD,uzB]at hc
    obtain⟨l,hl,rfl,rfl⟩:=hc
    obtain⟨b2,o,L,heq,hb,rfl⟩:=hx.ptr_inv
    obtain⟨rfl,rfl,_⟩:=Addr.mk.inj heq
    obtain⟨c',fr,k1,k2,k3,k4,k5,k6,k7,k8,_⟩:=M9 e hb ho (.inl (by simp))
    have hll:=a4e _ _ hl
    rw[vqz,Nat.min_eq_left hkl]at hll
    have hki:(k:Int)=(l.length:Int):=by omega
    rw[hki]
    have cells:∀j x,(c.take k.toNat)[j]? =some x->w.cell? ((⟨L.blk,L.sh+0,none⟩:Addr).add j)=some x:=fun j x hj=>by
     have hjk:j<k.toNat:=by
      have:=(List.getElem?_eq_some_iff.1 hj).1
      rw[vqz]at this;omega
     rw[voz,if_pos hjk]at hj
     obtain⟨y,hy,hxy⟩:=k4.get hj
     rw[voz,if_pos (by omega),vEz]at hy
     have hint:∃q,x=.int .u8 q:=by
      obtain⟨_,h2⟩:=a4d _ _ hl
      obtain⟨q,hq,_⟩:=h2 j _ (uzF (by omega))
      rw[voz,if_pos hjk,hj]at hq
      exact⟨q,uzA hq⟩
     obtain⟨q,rfl⟩:=hint
     obtain rfl:=hxy.int_inv
     have hy2:c'[L.sh+j]? =some (.int .u8 q):=by simpa using hy
     unfold Addr.add
     by_cases hj0:j=0
     ·subst hj0
      simp only[if_true,World.cell?,k1]
      simpa using hy2
     ·simp only[hj0,if_false,World.cell?,k1]
      simpa using hy2
    have hrun:=a1W (P:=P) (w:=w) pt it ty t' hp hcz L.blk (L.sh+0) c'.size (a8t k1) _ l hl (by omega) (by omega) (by omega) cells
    obtain⟨r1,r2,r3⟩:=b4K w ⟨L.blk,L.sh+0,none⟩ l.length
    exact D2.val (s:=Builtin.unsafeString_ #[pt,it] ty #[.pointer (some ⟨L.blk,L.sh+0,none⟩),.int .i64 l.length]) hrun (.string _)
     (Out.upd e b L .gone hb (by rw[ho];rfl) (fun q hq=>b2i w _ _ q hq) (b4L w _ _) r1 r2 r3 trivial)
   ·simp at hc
  ·simp at hc
 ·simp at hc
end
section
variable {P:Program} {S:Stay} {m:Map} {h:Heap} {w:World}
theorem a5r{ρ ρ' :Rho}(hρ:∀x,VR m (ρ x) (ρ' x))(o:Option Operand):(∀u,o.map ρ=some u->∃u',o.map ρ' =some u' /\VR m u u')/\(o.map ρ=none->o.map ρ' =none):=by
 cases o with
 |none=>exact⟨fun u hu=>by simp at hu,fun _=>rfl⟩
 |some x=>exact⟨fun u hu=>⟨ρ' x,rfl,by simp at hu;subst hu;exact hρ x⟩,fun hn=>by simp at hn⟩
theorem T7{ρ ρ' :Rho}(hρ:∀x,VR m (ρ x) (ρ' x)):∀(l:List Operand),VL m (l.map ρ) (l.map ρ')
 | []=>VL.nil m
 |x::l=>VL.cons (hρ x) (T7 hρ l)
theorem a3P{ρ ρ' :Rho}(hρ:∀x,VR m (ρ x) (ρ' x))(k:Nat):∀(l:List (Nat×Operand)),PR m (fun i=>some (i*k,k)) ((l.map fun(i,x)=>(i,ρ x)).map fun x=>(x.1*k,k,x.2)) (l.map fun(i,x)=>(i,ρ' x))
 | []=> .nil
 | (i,x)::l=> .cons i (i*k) k (ρ x) (ρ' x) _ _ rfl (hρ x) (a3P hρ k l)
theorem a3g{ρ ρ' :Rho}(hρ:∀x,VR m (ρ x) (ρ' x))(fs:Array Field):∀(l:List (Nat×Operand)) (ps:List (Nat×Nat×Value)),X1 P fs (l.map fun(i,x)=>(i,ρ x))=some ps->
  PR m (fun i=>(fs[i]?).map fun f=>(f.offset,P.cellsOf f.type)) ps (l.map fun(i,x)=>(i,ρ' x))
 | [],ps,h=>by obtain rfl:=uzA h;exact .nil
 | (i,x)::l,ps,h=>by
  simp only[List.map_cons,X1]at h
  split at h
  ·rename_i f hf
   simp only[uzD]at h
   obtain⟨ps',h1,rfl⟩:=h
   exact .cons i f.offset (P.cellsOf f.type) (ρ x) (ρ' x) _ _ (by simp[hf]) (hρ x) (a3g hρ fs l ps' h1)
  ·simp at h
theorem a8a:∀l:List String,l≠[]->∃s,Instr.least l=some s
 | [],h=>absurd rfl h
 |s::r,_=>⟨_,rfl⟩
theorem b2m{want:Array (String×TypeId)}{got:Array Method}(h:a3H want got=true):Instr.missingMethod want got=none:=by
 have:(want.toList.filter fun(x:String×TypeId)=> !got.any fun m=>m.name==x.1 && m.sig==x.2)=[]:=by
  rw[List.filter_eq_nil_iff]
  intro x hx
  have:=List.all_eq_true.1 h x hx
  simp only[this,Bool.not_true,vgz,not_false_eq_true]
 unfold Instr.missingMethod
 simp only[this]
 rfl
theorem c9i(p:String->Bool)(f:String->String)(l:List String)(hne:l≠[]):∃s,(Instr.least (l.partition p).2<|>Instr.least ((l.partition p).1.map f))=some s:=by
 rw[List.partition_eq_filter_filter]
 by_cases c:(l.filter (not∘p))=[]
 ·have c2:(l.filter p)≠[]:=by
   intro q
   rw[List.filter_eq_nil_iff]at c q
   obtain⟨x,hx⟩:=List.exists_mem_of_ne_nil l hne
   have h1:=c x hx
   have h2:=q x hx
   cases hb:p x
   ·exact h1 (by show(!p x)=true;rw[hb];rfl)
   ·exact h2 hb
  obtain⟨s,hs⟩:=a8a ((l.filter p).map f) (by simpa using c2)
  refine⟨s,?_⟩
  simp only[c,hs]
  rfl
 ·obtain⟨s,hs⟩:=a8a _ c
  refine⟨s,?_⟩
  simp only[hs]
  rfl
theorem b2n{want:Array (String×TypeId)}{got:Array Method}(h:a3H want got=false):∃s,Instr.missingMethod want got=some s:=by
 have hne:((want.toList.filter fun(x:String×TypeId)=> !got.any fun m=>m.name==x.1 && m.sig==x.2).map (·.1))≠[]:=by
  intro q
  rw[List.map_eq_nil_iff,List.filter_eq_nil_iff]at q
  have:a3H want got=true:=List.all_eq_true.2 fun x hx=>by
   have:=q x hx
   simpa using this
  rw[h]at this
  simp at this
 exact c9i _ _ _ hne
theorem e4G{want:Array (String×TypeId)}{t:TypeId}{i:TypeInfo}(hi:P.info? t=some i)(ht:t<P.types.size):((b7t P want).any fun y=>Nat.beq y t)=a3H want i.methods:=by
 rw[Bool.eq_iff_iff,List.any_eq_true]
 constructor
 ·rintro⟨y,hy,he⟩
  obtain rfl:y=t:=Nat.eq_of_beq_eq_true he
  have:=(List.mem_filter.1 hy).2
  rw[hi]at this
  exact this
 ·intro h
  exact⟨t,List.mem_filter.2 ⟨List.mem_range.2 ht,by rw[hi];exact h⟩,Nat.beq_refl t⟩
theorem b7m(e:Emb P S m h w){t a:TypeId}{want:Array (String×TypeId)}{z:Value}(ht:P.underlying t=some (.interface want))(hz:a4P P t=some z)(hzs:selfV z=true){x x' :Value}(hx:VR m x x'){v:Value}{h1:Heap}
  (hc:C7 (.assertI P.types.size (b7t P want) z x) h=some (v,h1)):D2 P S m h w (do pure (.value (<-Instr.typeAssert x' a t true))) v h1:=by
 simp only[C7,uzD,uzB]at hc
 obtain⟨u,hu,rfl,rfl⟩:=hc
 have zr:VR m z z:=VR.selfV hzs
 unfold a5d at hu
 split at hu
 ·obtain rfl:=uzA hu
  cases hx
  refine D2.same e (v' :=.tuple #[z,.bool false]) ?_ (VR.tuple_of (VL.cons zr (VL.cons (.bool _) (VL.nil m))))
  simp only[Instr.typeAssert,Sem.run_bind,run_underlying' w ht,Result.andThen_ok,if_true,run_zeroValue' w hz,Sem.run_pure]
 ·rename_i t2 y
  cases hx with
  |iface _ _ y' hy=>
   split at hu
   ·rename_i hy1
    obtain rfl:=uzA hu
    obtain⟨q,hq,he⟩:=List.any_eq_true.1 hy1
    obtain rfl:q=t2:=Nat.eq_of_beq_eq_true he
    have hm:=(List.mem_filter.1 hq).2
    split at hm
    ·rename_i i hi
     refine D2.same e (v' :=.tuple #[.iface q y',.bool true]) ?_ (VR.tuple_of (VL.cons (.iface _ _ _ hy) (VL.cons (.bool _) (VL.nil m))))
     simp only[Instr.typeAssert,Sem.run_bind,run_underlying' w ht,Result.andThen_ok,if_true,run_typeInfo' w hi,b2m hm,Sem.run_pure]
    ·simp at hm
   ·rename_i hn
    split at hu
    ·rename_i hlt
     obtain rfl:=uzA hu
     have hlt' :t2<P.types.size:=of_decide_eq_true (by simpa [Nat.blt_eq]using hlt)
     obtain⟨i,hi⟩:∃i,P.info? t2=some i:=⟨_,by unfold Tables.info?;rw[if_pos hlt'];exact Array.getElem?_eq_getElem hlt'⟩
     have hf:a3H want i.methods=false:=by
      have:=e4G (want:=want) hi hlt'
      rw[<-this]
      exact Bool.eq_false_iff.2 hn
     obtain⟨s,hs⟩:=b2n hf
     refine D2.same e (v' :=.tuple #[z,.bool false]) ?_ (VR.tuple_of (VL.cons zr (VL.cons (.bool _) (VL.nil m))))
     simp only[Instr.typeAssert,Sem.run_bind,run_underlying' w ht,Result.andThen_ok,if_true,run_typeInfo' w hi,hs,run_zeroValue' w hz,Sem.run_pure]
    ·simp at hu
 ·simp at hu
theorem s7{v:Value}{h1:Heap}(hc:C7 .bad h=some (v,h1)):False:=by simp[C7]at hc
theorem e1B(e:Emb P S m h w)(o:Oper){ρ ρ' :Rho}(hρ:∀x,VR m (ρ x) (ρ' x))(hcst:∀v,ρ' (.const v)=v){v:Value}{h1:Heap}(hc:C7 (D9 P o ρ) h=some (v,h1))(hf:K6 m h.next h1.next):
  D2 P S m h w (execOp ρ' o) v h1:=by
 obtain⟨dst,op,type,pos,after,guard⟩:=o
 have hfn:h1.next=h.next+1->m h.next=none:=fun hn=>hf _ (uzP _) (by omega)
 cases op with
 |move x=>
  simp only[D9,C7,uzC,uzB]at hc
  obtain⟨rfl,rfl⟩:=hc
  exact D2.here e (hρ x)
 |assign x=>
  simp only[D9,C7,uzC,uzB]at hc
  obtain⟨rfl,rfl⟩:=hc
  exact D2.here e (hρ x)
 |pick c a b=>
  simp only[D9,C7]at hc
  split at hc
  ·rename_i t hct
   simp only[uzC,uzB]at hc
   obtain⟨rfl,rfl⟩:=hc
   have hcv:=hρ c
   rw[hct]at hcv
   have hcv' :=hcv.bool_inv
   refine⟨.value (if t then ρ' a else ρ' b),_,w,m,?_,.inl rfl,?_,Out.refl e⟩
   ·simp only[execOp,Sem.run_bind,hcv',asBool,Sem.run_pure,Result.andThen_ok]
   ·cases t<;>simp[hρ]
  ·simp at hc
 |alloc t=>
  simp only[D9]at hc
  split at hc
  ·rename_i z hz
   simp only[C7,uzC,uzB]at hc
   obtain⟨rfl,rfl⟩:=hc
   exact c9z e (hfn rfl) hz
  ·exact(s7 hc).elim
 |box t x=>
  simp only[D9,C7]at hc
  split at hc
  ·rename_i cs hcs
   simp only[uzC,uzB]at hc
   obtain⟨rfl,rfl⟩:=hc
   exact e2g e (hfn rfl) (hρ x) hcs
  ·simp at hc
 |build t ps=>
  simp only[D9]at hc
  split at hc
  ·rename_i z fs hz ht
   split at hc
   ·rename_i hall
    split at hc
    ·rename_i l hl
     refine a4Z e ht (fun f hf=>List.all_eq_true.1 hall f hf) hz ?_ hc
     have:=a3g hρ fs ps.toList l hl
     simpa using this
    ·exact(s7 hc).elim
   ·exact(s7 hc).elim
  ·rename_i z n t' hz ht
   split at hc
   ·rename_i hft
    have hp:=a3P hρ (P.cellsOf t') ps.toList
    refine b2A e ht hft hz (ps:=ps.toList.map fun(i,x)=>(i,ρ x)) ?_ (by rw[List.map_map];exact hc)
    simpa using hp
   ·exact(s7 hc).elim
  ·exact(s7 hc).elim
 |buildSlice t n ps=>
  simp only[D9]at hc
  split at hc
  ·rename_i t' ht
   split at hc
   ·rename_i z hz
    split at hc
    ·rename_i hn
     have hp:=a3P hρ (P.cellsOf t') ps.toList
     have hc2:=hc
     simp only[C7,uzD,uzB]at hc2
     obtain⟨_,_,_,hh⟩:=hc2
     refine a8v e (hfn (by rw[<-hh];rfl)) ht hz hn.1 (ps:=ps.toList.map fun(i,x)=>(i,ρ x)) ?_ (by rw[List.map_map];exact hc)
     simpa using hp
    ·exact(s7 hc).elim
   ·exact(s7 hc).elim
  ·exact(s7 hc).elim
 |insert t a b c=>exact(s7 hc).elim
 |load t a=>
  simp only[D9]at hc
  split at hc
  ·rename_i ht;exact e0m e ht (hρ a) hc
  ·exact(s7 hc).elim
 |store t a x=>
  simp only[D9]at hc
  split at hc
  ·rename_i ht;exact c9D e ht (hρ a) (hρ x) hc
  ·exact(s7 hc).elim
 |ready g=>exact(s7 hc).elim
 |waits g=>exact(s7 hc).elim
 |nilCheck x=>
  simp only[D9,C7]at hc
  split at hc
  ·rename_i a ha
   simp only[uzC,uzB]at hc
   obtain⟨rfl,rfl⟩:=hc
   have hx:=hρ x
   rw[ha]at hx
   refine b2G (x' :=ρ' x) e hx rfl fun a' ha' =>?_
   simp only[execOp,ha']
  ·simp at hc
 |binOp op t x y yt=>
  simp only[D9]at hc
  split at hc
  ·exact c7z e op t x y (hρ x) (hρ y) hc
  ·exact c7z e op t x y (hρ x) (hρ y) hc
  ·rename_i hu
   split at hc
   ·exact T0 e _ t x y hu .bool trivial false rfl (hρ x) (hρ y) hc
   ·exact T0 e _ t x y hu .bool trivial true rfl (hρ x) (hρ y) hc
   ·exact(s7 hc).elim
  ·rename_i hu
   split at hc
   ·rename_i hi
    split at hc
    ·exact T0 e _ t x y hu .ptr hi false rfl (hρ x) (hρ y) hc
    ·exact T0 e _ t x y hu .ptr hi true rfl (hρ x) (hρ y) hc
    ·exact(s7 hc).elim
   ·exact(s7 hc).elim
  ·rename_i hu
   split at hc
   ·exact T0 e _ t x y hu .slice trivial false rfl (hρ x) (hρ y) hc
   ·exact T0 e _ t x y hu .slice trivial true rfl (hρ x) (hρ y) hc
   ·exact(s7 hc).elim
  ·rename_i hu
   split at hc
   ·exact T0 e _ t x y hu .map trivial false rfl (hρ x) (hρ y) hc
   ·exact T0 e _ t x y hu .map trivial true rfl (hρ x) (hρ y) hc
   ·exact(s7 hc).elim
  ·rename_i hu
   split at hc
   ·exact T0 e _ t x y hu .func trivial false rfl (hρ x) (hρ y) hc
   ·exact T0 e _ t x y hu .func trivial true rfl (hρ x) (hρ y) hc
   ·exact(s7 hc).elim
  ·split at hc
   ·rename_i ks hks
    split at hc
    ·exact b1n e _ t x y hks false rfl (hρ x) (hρ y) hc
    ·exact b1n e _ t x y hks true rfl (hρ x) (hρ y) hc
    ·exact(s7 hc).elim
   ·exact(s7 hc).elim
  ·exact(s7 hc).elim
 |unOp op t x=>exact e4C e op (hρ x) hc
 |convert s d x=>
  simp only[D9]at hc
  split at hc
  ·rename_i hs hd;exact e0k e hs hd (hρ x) hc
  ·rename_i hs hd;exact b2B e hs hd (hρ x) hc
  ·rename_i t' hs hd
   split at hc
   ·rename_i h8
    split at hc
    ·rename_i h1c
     have hn:h1.next=h.next+1:=by
      have hc2:=hc
      simp only[C7]at hc2
      split at hc2
      ·simp only[uzC,uzB]at hc2;rw[<-hc2.2];rfl
      ·simp at hc2
     exact b5w e (hfn hn) hs hd h8 h1c (hρ x) hc
    ·exact(s7 hc).elim
   ·exact(s7 hc).elim
  ·rename_i t' hs hd
   split at hc
   ·rename_i h8;exact c9E e hs hd h8 (hρ x) hc
   ·exact(s7 hc).elim
  ·rename_i t' hs hd
   split at hc
   ·rename_i hk;exact b2K e hs hd hk (hρ x) hc
   ·exact(s7 hc).elim
  ·rename_i t' hs hd
   split at hc
   ·rename_i hk;exact a8x e hs hd hk (hρ x) hc
   ·exact(s7 hc).elim
  ·exact(s7 hc).elim
 |sliceToArrayPointer t x=>exact(s7 hc).elim
 |makeInterface t x=>
  simp only[D9]at hc
  split at hc
  ·exact(s7 hc).elim
  ·rename_i d ht hd
   simp only[C7,uzC,uzB]at hc
   obtain⟨rfl,rfl⟩:=hc
   refine D2.same (s:=Instr.makeInterface t (ρ' x)) e ?_ (.iface t _ _ (hρ x))
   simp only[Instr.makeInterface,Sem.run_bind,run_underlying' w hd,Result.andThen_ok]
   cases d<;>first|rfl|exact absurd rfl (ht _)
  ·exact(s7 hc).elim
 |makeFunc fn first captured=>
  cases fn with
  |func f=>
   simp only[D9,C7,uzC,uzB]at hc
   obtain⟨rfl,rfl⟩:=hc
   refine D2.same (s:=Instr.makeFunc (.func f) (first.map ρ') (captured.map ρ')) e rfl (VR.func_of ?_ ?_)
   ·simpa using T7 hρ first.toList
   ·simpa using T7 hρ captured.toList
  |_=>exact(s7 hc).elim
 |makeMap t r=>
  cases r with
  |none=>
   simp only[D9,C7,uzC,uzB]at hc
   obtain⟨rfl,rfl⟩:=hc
   exact a4M e (hfn rfl) (by simp[Instr.makeMap])
  |some x=>
   cases x with
   |const y=>
    cases y with
    |int k n=>
     simp only[D9]at hc
     split at hc
     ·rename_i q t' ht
      simp only[C7,uzC,uzB]at hc
      obtain⟨rfl,rfl⟩:=hc
      refine a4M e (hfn rfl) ?_
      simp[Instr.makeMap,run_underlying' w ht,hcst,asInt,asIntOf]
     ·exact(s7 hc).elim
    |_=>exact(s7 hc).elim
   |_=>exact(s7 hc).elim
 |makeChan t x=>exact(s7 hc).elim
 |makeSlice t l c=>
  simp only[D9]at hc
  split at hc
  ·rename_i t' ht
   split at hc
   ·rename_i z hz
    have hc2:=hc
    simp only[C7]at hc2
    have hn:h1.next=h.next+1:=by
     split at hc2
     ·split at hc2
      ·simp only[uzC,uzB]at hc2;rw[<-hc2.2];rfl
      ·simp at hc2
     ·simp at hc2
    exact a8V e (hfn hn) ht hz (hρ l) (hρ c) hc
   ·exact(s7 hc).elim
  ·exact(s7 hc).elim
 |slice t x lo hi mx=>
  cases mx with
  |some y=>
   simp only[D9]at hc
   obtain⟨l1,l2⟩:=a5r hρ lo
   obtain⟨k1,k2⟩:=a5r hρ hi
   split at hc
   ·rename_i n t' ht
    split at hc
    ·rename_i hft;exact a8X e ht hft (hρ x) l1 l2 k1 (hρ y) hc
    ·exact(s7 hc).elim
   ·rename_i t' ht
    split at hc
    ·rename_i hft;exact b7o e ht hft (hρ x) l1 l2 k1 (hρ y) hc
    ·exact(s7 hc).elim
   ·exact(s7 hc).elim
  |none=>
   simp only[D9]at hc
   obtain⟨l1,l2⟩:=a5r hρ lo
   obtain⟨k1,k2⟩:=a5r hρ hi
   split at hc
   ·rename_i ht;exact b2J e ht (hρ x) l1 l2 k1 k2 hc
   ·rename_i t' ht
    split at hc
    ·rename_i hft;exact c9C e ht hft (hρ x) l1 l2 k1 k2 hc
    ·exact(s7 hc).elim
   ·rename_i n t' ht
    split at hc
    ·rename_i hft;exact b2I e ht hft (hρ x) l1 l2 k1 k2 hc
    ·exact(s7 hc).elim
   ·exact(s7 hc).elim
 |fieldAddr t x i=>
  simp only[D9]at hc
  split at hc
  ·rename_i fs ht
   split at hc
   ·rename_i f hff
    split at hc
    ·exact(s7 hc).elim
    ·rename_i hz;exact a8U e ht hff hz (hρ x) hc
   ·exact(s7 hc).elim
  ·exact(s7 hc).elim
 |field t x i=>
  simp only[D9]at hc
  split at hc
  ·rename_i fs ht
   split at hc
   ·rename_i f hff
    split at hc
    ·rename_i hft;exact c9A e ht hff hft (hρ x) hc
    ·exact(s7 hc).elim
   ·exact(s7 hc).elim
  ·exact(s7 hc).elim
 |indexAddr t x i=>
  simp only[D9]at hc
  split at hc
  ·rename_i t' ht
   split at hc
   ·rename_i hft;exact b5u e ht hft (hρ x) (hρ i) hc
   ·exact(s7 hc).elim
  ·rename_i n t' ht
   split at hc
   ·rename_i hft;exact b2D e ht hft (hρ x) (hρ i) hc
   ·exact(s7 hc).elim
  ·exact(s7 hc).elim
 |index t x i=>
  simp only[D9]at hc
  split at hc
  ·rename_i ht;exact b2E e ht (hρ x) (hρ i) hc
  ·rename_i n t' ht
   split at hc
   ·rename_i hft;exact b2C e ht hft (hρ x) (hρ i) hc
   ·exact(s7 hc).elim
  ·exact(s7 hc).elim
 |lookup t mm k ok=>
  simp only[D9]at hc
  split at hc
  ·rename_i q t' ht
   split at hc
   ·rename_i z kk hz hk;exact b7n e ht hz hk ok (hρ mm) (hρ k) hc
   ·exact(s7 hc).elim
  ·exact(s7 hc).elim
 |mapUpdate t mm k x=>
  simp only[D9]at hc
  split at hc
  ·rename_i q t' ht
   split at hc
   ·rename_i kk hk;exact a8W e ht hk (hρ mm) (hρ k) (hρ x) hc
   ·exact(s7 hc).elim
  ·exact(s7 hc).elim
 |mapEntry t mm k=>
  simp only[D9]at hc
  split at hc
  ·rename_i q t' ht
   split at hc
   ·rename_i z kk hz hk;exact b2F e ht hz hk (hρ mm) (hρ k) hc
   ·exact(s7 hc).elim
  ·exact(s7 hc).elim
 |entryStore t mm s x=>exact a8w e t (hρ mm) (hρ s) (hρ x) hc
 |range t x=>
  simp only[D9]at hc
  split at hc
  ·rename_i ht
   have hn:h1.next=h.next+1:=by
    have hc2:=hc
    simp only[C7]at hc2
    split at hc2
    ·simp only[uzC,uzB]at hc2;rw[<-hc2.2];rfl
    ·simp at hc2
   exact c9B e (hfn hn) ht (hρ x) hc
  ·rename_i q t' ht
   have hn:h1.next=h.next+1:=by
    have hc2:=hc
    simp only[C7]at hc2
    split at hc2
    ·simp only[uzC,uzB]at hc2;rw[<-hc2.2];rfl
    ·split at hc2
     ·simp only[uzC,uzB]at hc2;rw[<-hc2.2];rfl
     ·simp at hc2
    ·simp at hc2
   exact b2H e (hfn hn) ht (hρ x) hc
  ·exact(s7 hc).elim
 |next x isS=>
  cases isS with
  |true=>exact b5v e type (hρ x) hc
  |false=>exact(s7 hc).elim
 |entry x=>exact(s7 hc).elim
 |typeAssert x a t ok=>
  cases ok with
  |false=>exact(s7 hc).elim
  |true=>
   simp only[D9]at hc
   split at hc
   ·rename_i want z ht hz
    obtain⟨z1,z2⟩:=a2E hz
    exact b7m e ht z1 z2 (hρ x) hc
   ·exact(s7 hc).elim
 |extract x i=>exact b5t e (hρ x) hc
 |call c=>
  obtain⟨callee,args,ts⟩:=c
  cases callee with
  |value f=>exact(s7 hc).elim
  |invoke r mth=>exact(s7 hc).elim
  |builtin b=>
   have hrun:∀(s:Sem Value),builtin b ts type (args.map fun| .const _=>true|_=>false) (args.map ρ')=a3m s->D2 P S m h w (a3m s) v h1->D2 P S m h w (execOp ρ' ⟨dst,.call ⟨.builtin b,args,ts⟩,type,pos,after,guard⟩) v h1:=by
    intro s hs hd
    have:execOp ρ' ⟨dst,.call ⟨.builtin b,args,ts⟩,type,pos,after,guard⟩=a3m s:=by
     rw[<-hs];rfl
    rw[this];exact hd
   have ha2:∀l,args.toList=l->args.map ρ' =(l.map ρ').toArray:=by
    intro l hl;apply Array.ext';simp[hl]
   simp only[D9]at hc
   split at hc
   ·rename_i x t rest hargs hts
    have ha:=ha2 _ hargs
    have hat:ts[0]? =some t:=by rw[<-Array.getElem?_toList,hts];rfl
    split at hc
    ·rename_i ht
     simp only[C7]at hc
     have hx:=hρ x
     split at hc
     ·rename_i s hs
      simp only[uzC,uzB]at hc
      obtain⟨rfl,rfl⟩:=hc
      rw[hs]at hx
      have hx' :=hx.string_inv
      refine hrun _ rfl (D2.same e (v' :=goInt s.size) ?_ (.int _ _))
      simp[Builtin.len_,hat,ha,hx',run_underlying' w ht,goInt,Go.goInt]
     ·simp at hc
    ·rename_i ht
     simp only[C7]at hc
     have hx:=hρ x
     split at hc
     ·rename_i a n c hs
      simp only[uzC,uzB]at hc
      obtain⟨rfl,rfl⟩:=hc
      rw[hs]at hx
      have hx' :∃a' c',ρ' x=.slice a' n c' :=by
       cases a with
       |none=>exact⟨none,c,hx.nilSlice_inv⟩
       |some a=>
        rcases hx.slice_inv with⟨b,o,c',L,rfl,hb,hn,hcc,hg,h5⟩| ⟨rfl,rfl,_,a',h5,L0,hL0⟩
        ·exact⟨_,_,h5⟩
        ·exact⟨_,_,h5⟩
      obtain⟨a',c',hx'⟩:=hx'
      refine hrun _ rfl (D2.same e (v' :=goInt n) ?_ (.int _ _))
      simp[Builtin.len_,hat,ha,hx',run_underlying' w ht,goInt,Go.goInt]
     ·simp at hc
    ·rename_i ht
     simp only[C7]at hc
     have hx:=hρ x
     split at hc
     ·rename_i hs
      simp only[uzC,uzB]at hc
      obtain⟨rfl,rfl⟩:=hc
      rw[hs]at hx
      have hx' :=hx.nilMap_inv
      refine hrun _ rfl (D2.same e (v' :=goInt 0) ?_ (.int _ _))
      simp[Builtin.len_,hat,ha,hx',run_underlying' w ht,goInt,Go.goInt]
     ·rename_i r hs
      rw[hs]at hx
      obtain⟨L,hr,hx'⟩:=hx.map_inv
      split at hc
      ·rename_i es clock ho
       simp only[uzC,uzB]at hc
       obtain⟨rfl,rfl⟩:=hc
       obtain⟨es',hblk,he⟩:=Z7 e hr ho
       have hgo:=run_getObj' (P:=P) hblk (by simp)
       have hl:=he.1
       refine hrun _ rfl (D2.same e (v' :=goInt es.length) ?_ (.int _ _))
       simp at hl
       simp[Builtin.len_,hat,ha,hx',run_underlying' w ht,hgo,goInt,Go.goInt,hl]
      ·simp at hc
     ·simp at hc
    ·rename_i n t' ht
     simp only[C7,uzC,uzB]at hc
     obtain⟨rfl,rfl⟩:=hc
     refine hrun _ rfl (D2.same e (v' :=.int .i64 n) ?_ (.int _ _))
     simp[Builtin.len_,hat,ha,run_underlying' w ht,Go.goInt]
    ·exact(s7 hc).elim
   ·rename_i x y t u hargs hts
    have ha:=ha2 _ hargs
    have hts2:ts= #[t,u]:=by apply Array.ext';simp[hts]
    split at hc
    ·exact(s7 hc).elim
    ·rename_i t' d hnot ht hu
     split at hc
     ·rename_i z hz
      refine hrun _ rfl ?_
      rw[hts2,ha]
      exact b7l e ht hu (fun k hk=>by subst hk;exact hnot k rfl) hz type (hρ x) (hρ y) hc hf
     ·exact(s7 hc).elim
    ·exact(s7 hc).elim
   ·rename_i x y t rest hargs hts
    have ha:=ha2 _ hargs
    have hat:ts[0]? =some t:=by rw[<-Array.getElem?_toList,hts];rfl
    split at hc
    ·rename_i t' ht
     split at hc
     ·rename_i hft
      refine hrun _ rfl ?_
      rw[ha]
      exact e0l e ht hft ts hat type (hρ x) (hρ y) hc
     ·exact(s7 hc).elim
    ·exact(s7 hc).elim
   ·rename_i x t rest hargs hts
    have ha:=ha2 _ hargs
    have hat:ts[0]? =some t:=by rw[<-Array.getElem?_toList,hts];rfl
    split at hc
    ·rename_i t' ht
     split at hc
     ·rename_i z hz
      refine hrun _ rfl ?_
      rw[ha]
      exact b5s e ht hz ts hat type (hρ x) hc
     ·exact(s7 hc).elim
    ·exact(s7 hc).elim
   ·rename_i x t rest hargs hts
    have ha:=ha2 _ hargs
    split at hc
    ·refine hrun _ rfl ?_
     rw[ha]
     exact a8Y e ts type (hρ x) hc
    ·exact(s7 hc).elim
   ·rename_i x y t t2 hargs hts
    have ha:=ha2 _ hargs
    have hts2:ts= #[t,t2]:=by apply Array.ext';simpa using hts
    split at hc
    ·rename_i e' hpt
     split at hc
     ·split at hc
      ·rename_i hcz
       refine hrun _ rfl ?_
       rw[hts2,ha]
       exact a8Z e hpt hcz (hρ x) (hρ y) hc
      ·exact(s7 hc).elim
     ·exact(s7 hc).elim
    ·exact(s7 hc).elim
   ·refine hrun _ rfl ?_
    exact a8y e false ts type (xs' :=args.map ρ') (by simpa using T7 hρ args.toList) hc
   ·refine hrun _ rfl ?_
    exact a8y e true ts type (xs' :=args.map ρ') (by simpa using T7 hρ args.toList) hc
   ·exact(s7 hc).elim
 |go c=>exact(s7 hc).elim
 |defer c=>exact(s7 hc).elim
 |panic x=>exact(s7 hc).elim
 |send c x=>exact(s7 hc).elim
 |recv t c ok=>exact(s7 hc).elim
 |select cs b=>exact(s7 hc).elim
end
theorem H8{α:Type}{x:Option α}{f:α->Value×Heap}{h h1:Heap}{v:Value}(hc:x.map f=some (v,h1))(hf:∀a,h.next<=(f a).2.next):h.next<=h1.next:=by
 simp only[uzD]at hc
 obtain⟨a,_,ha⟩:=hc
 have:=hf a
 rw[ha]at this;exact this
theorem R4{α:Type}{x:Option α}{f:α->Option (Value×Heap)}{h h1:Heap}{v:Value}(hc:x.bind f=some (v,h1))(hf:∀a,f a=some (v,h1)->h.next<=h1.next):h.next<=h1.next:=by
 simp only[vhz]at hc
 obtain⟨a,_,ha⟩:=hc
 exact hf a ha
theorem E8{h h1 h2:Heap}{v u:Value}(hc:some (u,h2)=some (v,h1))(hle:h.next<=h2.next):h.next<=h1.next:=by
 simp only[uzC,uzB]at hc
 rw[<-hc.2];exact hle
theorem R5{h h1:Heap}{v:Value}(hc:(none:Option (Value×Heap))=some (v,h1)):h.next<=h1.next:=by simp at hc
theorem b4y{o:COp}{h h1:Heap}{v:Value}(hc:C7 o h=some (v,h1)):h.next<=h1.next:=by
 have r0:h.next<=h.next:=uzP _
 have ru:∀(b:Nat) (o:Obj),h.next<=(h.upd b o).next:=fun _ _=>uzP _
 have rn:∀(o:Obj),h.next<=(h.new o).next:=fun _=>vLz _
 have rk:∀(b:Nat) (o:Obj),h.next<=((h.upd b .gone).new o).next:=fun _ _=>vLz _
 cases o<;>simp only[C7,M8]at hc<;>first
  |exact E8 hc r0
  |exact E8 hc (rn _)
  |exact R5 hc
  |exact H8 hc fun _=>r0
  |exact H8 hc fun _=>rn _
  | (split at hc<;>first|exact E8 hc r0|exact E8 hc (rn _)|exact R5 hc|exact H8 hc fun _=>r0|exact H8 hc fun _=>ru _ _ |
    exact R4 hc fun _ ha=>H8 ha fun _=>r0 |
    exact R4 hc fun _ ha=>R4 ha fun _ ha=>H8 ha fun _=>r0 |
    (split at hc<;>first|exact E8 hc r0|exact E8 hc (rn _)|exact R5 hc|exact H8 hc fun _=>r0|exact H8 hc fun _=>ru _ _ |
     exact R4 hc fun _ ha=>H8 ha fun _=>r0 |
     exact R4 hc fun _ ha=>R4 ha fun _ ha=>H8 ha fun _=>r0 |
     (refine R4 hc fun _ ha=>H8 ha fun x=>?_;cases x<;>first|exact r0|exact ru _ _;done) |
     (split at hc<;>first|exact E8 hc r0|exact E8 hc (ru _ _)|exact E8 hc (rn _)|exact R5 hc|exact H8 hc fun _=>r0|exact H8 hc fun _=>ru _ _ |
      (split at hc<;>first|exact E8 hc r0|exact E8 hc (rn _)|exact E8 hc (rk _ _)|exact R5 hc|exact H8 hc fun _=>r0|exact H8 hc fun _=>ru _ _ |
       (split at hc<;>first|exact E8 hc r0|exact E8 hc (rn _)|exact E8 hc (rk _ _)|exact R5 hc|exact H8 hc fun _=>ru _ _ |
        (split at hc<;>first|exact E8 hc (rn _)|exact E8 hc (rk _ _)|exact R5 hc))))))
def a9c(P:Program)(S:Stay)(m:Map)(h:Heap)(w:World)(v:Value)(h1:Heap):Ending->World->Prop:=
 fun e w1=>∃v' m1,e=.returned v' /\VR m1 v v' /\Out P S m h w m1 h1 w1
abbrev YP:=(Nat->Option LoopI)->Prop
structure CallOK(P:Program)(Y:YP)(f:FuncId)(args:List Value)(h:Heap)(v:Value)(h1:Heap):Prop where
 has:∃F,P.funcs[f]? =some F/\(F.name== "runtime.NumGoroutine")=false/\F.body.isNone=false
 next:h.next<=h1.next
 runs:∀(S:Stay) (m:Map) (w:World) (args' :Array Value),Y S.lp->VL m args args'.toList->Emb P S m h w->K6 m h.next h1.next->K7 m->Calls P f args' w (a9c P S m h w v h1)
 runsD:b2s P f=true->∀(S:Stay) (m:Map) (w:World) (args' :Array Value) (u:FrameMode),Y S.lp->VL m args args'.toList->Emb P S m h w->K6 m h.next h1.next->K7 m->CallsD P f args' u w fun e u' w' =>u' =u/\a9c P S m h w v h1 e w'
structure YldOK(P:Program)(Y:YP)(b:Nat)(args:List Value)(h:Heap)(v:Value)(h1:Heap):Prop where
 next:h.next<=h1.next
 runs:∀(S:Stay) (m:Map) (w:World) (args' :Array Value),Y S.lp->VL m args args'.toList->Emb P S m h w->K6 m h.next h1.next->K7 m->
  ∃L f tmps asg body,m b=some L/\(Instr.yield L.blk args').run P w=.ok (.round L.blk f tmps asg body) w/\∀n,RoundIn Fence.wide n P L.blk f tmps asg body w (a9c P S m h w v h1)
structure CallsOK(P:Program)(Y:YP)(call:z8):Prop where
 fn:∀f args h v h1,call (.fn f) args h=some (v,h1)->CallOK P Y f args h v h1
 yl:∀b args h v h1,call (.yl b) args h=some (v,h1)->YldOK P Y b args h v h1
def FZ(ρ:Option Nat):Fence:={ Fence.wide with round:=ρ }
theorem a7C{ρ:Option Nat}{n:Nat}{P:Program}{f:FuncId}{args:Array Value}{w:World}{R:Ending->World->Prop}(h:Calls P f args w R):CallsIn (FZ ρ) n P f args w R:=
 (callsIn_wide (n:=n)).2 h
theorem b7g{ρ:Option Nat}{n:Nat}{P:Program}{l:Nat}{f:FuncId}{tmps:Array Value}{a b:Code}{w:World}{R:Ending->World->Prop}(h:RoundIn Fence.wide n P l f tmps a b w R):RoundIn (FZ ρ) n P l f tmps a b w R:=h
theorem a5A(ρ:Option Nat){p:Prop}:(FZ ρ).depth.isSome=true->p:=fun h=>by cases h
theorem a3F{P:Program}{Y:YP}{call:z8}(hcall:CallsOK P Y call){o:COp}{h h1:Heap}{v:Value}(hc:I0 call o h=some (v,h1)):h.next<=h1.next:=by
 unfold I0 at hc
 split at hc
 ·exact(hcall.fn _ _ _ _ _ hc).next
 ·exact(hcall.fn _ _ _ _ _ hc).next
 ·exact(hcall.yl _ _ _ _ _ hc).next
 ·exact b4y hc
theorem d9c{P:Program}{Y:YP}{call:z8}(hcall:CallsOK P Y call)(r:Reg):∀{h h1:Heap} {e1:a7},M2 call r h=some (e1,h1)->h.next<=h1.next:=by
 induction r with
 |done e=>intro h h1 e1 hc;simp only[M2,uzC,uzB]at hc;rw[hc.2];exact uzP _
 |op o k ih=>
  intro h h1 e1 hc
  simp only[M2]at hc
  split at hc
  ·rename_i v h' he;exact uzR (a3F hcall he) (ih v hc)
  ·simp at hc
 |opg g w o k ih=>
  intro h h1 e1 hc
  simp only[M2]at hc
  split at hc
  ·split at hc
   ·rename_i v h' he;exact uzR (a3F hcall he) (ih v hc)
   ·simp at hc
  ·exact ih _ hc
  ·simp at hc
 |snap k ih=>intro h h1 e1 hc;exact ih h hc
 |chk g hj o v k ih=>
  intro h h1 e1 hc
  simp only[M2]at hc
  split at hc
  ·exact ih hc
  ·simp at hc
section
variable {P:Program}
theorem b6S:(Extern.allNextRows.lookup "internal/abi.NoEscape").isNone=true/\(Extern.allNextRows.lookup "").isNone=true:=by
 refine⟨?_,?_⟩<;>kernel_rfl
theorem b6R:(Extern.allGenericRows.lookup "internal/abi.NoEscape").isNone=true/\(Extern.allTypedRows.lookup "internal/abi.NoEscape").isNone=true/\Extern.allRows.lookup "internal/abi.NoEscape" =some Extern.AbiNoEscape.same:=by
 refine⟨?_,?_,?_⟩<;>kernel_rfl
theorem c9g{f:FuncId}(h:b1c P f=true){x:Value}{w:World}:(callFunc f #[x]).run P w=.ok (.value x) w:=by
 unfold b1c at h
 split at h
 case h_2=>simp at h
 rename_i F hF
 simp only[vjz,beq_iff_eq]at h
 obtain⟨⟨hb,hn⟩,ho⟩:=h
 have e1:=b6S
 have e2:=b6R
 rw[Option.isNone_iff_eq_none]at e1 e2
 rw[run_callFunc_extern hF (by rw[hn];rfl) hb (by unfold Extern.findNext;simp[hn,ho,e1.1,Option.isNone_iff_eq_none.1 e1.2]) (e:=Extern.AbiNoEscape.same) (by unfold Extern.find;simp[hn,e2.1,Option.isNone_iff_eq_none.1 e2.2.1,e2.2.2])]
 rfl
theorem b6P{mth:String}{t:TypeId}{g:FuncId}(h:b6O P mth t=some g)(n:Nat)(v:Value){w:World}:(method (n+1) t v mth).run P w=.ok (g,v) w:=by
 unfold b6O at h
 split at h
 ·rename_i i el hi hu
  split at h
  ·rename_i mm hm
   split at h
   ·rename_i hp
    split at h
    ·rename_i f hf
     obtain rfl:=uzA h
     have hp2:mm.path.toList=[]:=by simpa using hp
     unfold method
     simp only[Sem.run_bind,run_typeInfo' w hi,Result.andThen_ok,hm,hp2,follow,Sem.run_pure,hf,receiverAt,run_underlying' w hu,Place.get]
    ·simp at h
   ·simp at h
  ·simp at h
 ·simp at h
theorem b1d{S:Stay}{Y:YP}{m:Map}{h:Heap}{w:World}{call:z8}(hcall:CallsOK P Y call)(hY:Y S.lp)(ρz:Option Nat)(nz:Nat)(e:Emb P S m h w)(o:Oper)(a:Act){ρ:Rho}(hρ:∀x,VR m (ρ x) (a.eval x)){v:Value}{h1:Heap}
  (hc:I0 call (F0 P o ρ) h=some (v,h1)) (hf:K6 m h.next h1.next) (hgl:K7 m) {next:Act->World->Prop} {Q:Exit->Act->World->Prop}
  (hn:∀v' w1 m1,VR m1 v v' ->Out P S m h w m1 h1 w1->next (a.put o.dst v') w1):o.wpIn (FZ ρz) nz P a w next Q:=by
 have hcst:∀v,a.eval (.const v)=v:=fun _=>rfl
 have nd:∀c,o.op≠.defer c:=by
  intro c hq
  unfold F0 at hc
  rw[hq]at hc
  simp only[D9,hq,COp.plain,I0,C7]at hc
  simp at hc
 have sem:∀r,(execOp a.eval o).run P w=r->o.uponIn (FZ ρz) nz P a next Q r->o.wpIn (FZ ρz) nz P a w next Q:=fun r hr hu=>by
  unfold Oper.wpIn
  rw[Oper.semAt_eq _ _ _ nd,hr]
  exact⟨fun _ _=>trivial,hu⟩
 have plain:C7 (D9 P o ρ) h=some (v,h1)->o.wpIn (FZ ρz) nz P a w next Q:=by
  intro hc
  obtain⟨n,v',w1,m1,hrun,hnv,hv,ho⟩:=e1B e o hρ hcst hc hf
  refine sem _ hrun ?_
  rcases hnv with rfl| ⟨rfl,rfl⟩
  ·exact hn _ _ _ hv ho
  ·exact hn _ _ _ hv ho
 have viacall:∀(f:FuncId) (args:List Value) (args' :Array Value),call (.fn f) args h=some (v,h1)->VL m args args'.toList->
   (execOp a.eval o).run P w=(callFunc f args').run P w->o.wpIn (FZ ρz) nz P a w next Q:=by
  intro f args args' hcl hargs hrun
  obtain⟨⟨F,hF,hname,hbody⟩,_,hruns⟩:=hcall.fn f args h v h1 hcl
  have hcf:(callFunc f args').run P w=.ok (.enter f args') w:=by
   simp only[callFunc,Sem.run_bind,run_program,Result.andThen_ok,hF,hname,hbody,vgz,if_false,Sem.run_pure]
  refine sem _ (hrun.trans hcf) ?_
  rw[Oper.uponIn_enter]
  refine⟨a5A ρz,a7C ((hruns S m w args' hY hargs e hf hgl).mono fun en w1 hp=>?_)⟩
  obtain⟨v',m1,rfl,hv,ho⟩:=hp
  exact hn _ _ _ hv ho
 have rest:F0 P o ρ=(D9 P o ρ).plain->o.wpIn (FZ ρz) nz P a w next Q:=by
  intro hres
  rw[hres]at hc
  refine plain ?_
  generalize D9 P o ρ=x at hc
  cases x<;>first|exact hc| (simp[COp.plain,I0,C7]at hc)
 cases hop:o.op with
 |call c=>
  obtain⟨callee,args,ts⟩:=c
  cases callee with
  |value f=>
   have hres:∀g,f=.func g->b1c P g=false->F0 P o ρ=.call g (args.toList.map ρ):=by
    intro g hg hne
    unfold F0
    rw[hop,hg]
    simp only[hne,vgz,if_false]
   have hres2:(∀g,f≠.func g)->F0 P o ρ=.callv (ρ f) (args.toList.map ρ):=by
    intro hg;unfold F0;rw[hop]
    cases f<;>first|rfl| (exact absurd rfl (hg _))
   have hal:VL m (args.toList.map ρ) (args.map a.eval).toList:=by simpa using T7 hρ args.toList
   have hex:∀(fn:Fn) (first captured:Array Value),a.eval f=.func fn first captured->
     (execOp a.eval o).run P w=(invoke (.fn fn captured) (first++args.map a.eval)).run P w:=by
    intro fn first captured hfv
    unfold execOp
    rw[hop]
    simp only[resolve,hfv,Deferred.ofValue,Sem.run_bind,Sem.run_pure,Result.andThen_ok]
   by_cases hg:∃g,f=.func g
   ·obtain⟨g,rfl⟩:=hg
    by_cases hne:b1c P g=true
    ·have hres3:F0 P o ρ=b2o (args.toList.map ρ):=by
      unfold F0
      rw[hop]
      simp only[hne,if_true]
     rw[hres3]at hc
     unfold b2o at hc
     split at hc
     ·rename_i x0 hx
      obtain⟨x,hx1,hx2⟩:∃x,args.toList=[x]/\ρ x=x0:=by
       rcases hq:args.toList with _| ⟨x,_| ⟨y,l⟩⟩
       ·rw[hq]at hx;simp at hx
       ·rw[hq]at hx;simp at hx;exact⟨x,rfl,hx⟩
       ·rw[hq]at hx;simp at hx
      simp only[I0,C7,uzC,uzB]at hc
      obtain⟨rfl,rfl⟩:=hc
      have hargs: #[]++args.map a.eval++ #[]= #[a.eval x]:=by
       apply Array.ext';simp[hx1]
      have hinv:(invoke (.fn (.func g) #[]) (#[]++args.map a.eval)).run P w=(callFunc g #[a.eval x]).run P w:=by
       simp only[invoke,hargs]
      refine sem _ ((hex (.func g) #[] #[] rfl).trans (hinv.trans (c9g hne))) ?_
      exact hn _ _ _ (hx2▸hρ x) (Out.refl e)
     ·simp[I0,C7]at hc
    rw[hres g rfl (by simpa using hne)]at hc
    refine viacall g _ (args.map a.eval) hc hal ?_
    rw[hex (.func g) #[] #[] rfl]
    simp[invoke]
   ·have hg' :∀g,f≠.func g:=fun g h=>hg ⟨g,h⟩
    rw[hres2 hg']at hc
    unfold I0 at hc
    split at hc
    ·rename_i heq;simp at heq
    ·rename_i g first captured args2 heq
     simp only[COp.callv.injEq]at heq
     obtain⟨hfv,rfl⟩:=heq
     have hfr:=hρ f
     rw[hfv]at hfr
     obtain⟨a',c',hfe,ha',hc'⟩:=hfr.func_inv
     refine viacall g _ (a' ++args.map a.eval++c') hc ?_ ?_
     ·simp only[Array.toList_append]
      exact VL.append (VL.append ha' hal) hc'
     ·rw[hex (.func g) a' c' hfe];rfl
    ·rename_i b first captured args2 heq
     simp only[COp.callv.injEq]at heq
     obtain⟨hfv,rfl⟩:=heq
     have hfr:=hρ f
     rw[hfv]at hfr
     obtain⟨L,hL,hfe,_,_⟩:=hfr.yield_inv
     obtain⟨L',f',tmps,asg,body,hL',hrun,hround⟩:=(hcall.yl _ _ _ _ _ hc).runs S m w (args.map a.eval) hY hal e hf hgl
     rw[hL]at hL'
     obtain rfl:=uzA hL'
     have hinv:(invoke (.fn (.yield L.blk) #[]) (#[]++args.map a.eval)).run P w=(Instr.yield L.blk (args.map a.eval)).run P w:=by
      simp[invoke]
     refine sem _ ((hex (.yield L.blk) #[] #[] hfe).trans (hinv.trans hrun)) ?_
     rw[Oper.uponIn_round]
     refine⟨a5A ρz,b7g ((hround _).mono fun en w1 hp=>?_)⟩
     obtain⟨v',m1,rfl,hv,ho⟩:=hp
     exact hn _ _ _ hv ho
    ·simp[C7]at hc
  |invoke r mth=>
   have hres:F0 P o ρ=.callv (a3c (c7m P mth) (ρ r)) (args.toList.map ρ):=by unfold F0;rw[hop]
   have hal:VL m (args.toList.map ρ) (args.map a.eval).toList:=by simpa using T7 hρ args.toList
   rw[hres]at hc
   unfold a3c at hc
   split at hc
   ·rename_i t x hr
    split at hc
    ·rename_i q hq
     obtain⟨tt,g⟩:=q
     have hmem:=List.mem_of_find?_eq_some hq
     have heq:tt=t:=Nat.eq_of_beq_eq_true (by simpa using List.find?_some hq)
     subst heq
     obtain⟨t1,ht1,hm1⟩:=List.mem_filterMap.1 hmem
     obtain⟨g1,hg1,he1⟩:=Option.map_eq_some_iff.1 hm1
     simp only[uzB]at he1
     obtain⟨rfl,rfl⟩:=he1
     have hlt:=List.mem_range.1 ht1
     have hrr:=hρ r
     rw[hr]at hrr
     obtain⟨x',hr',hx⟩:∃x',a.eval r=.iface t1 x' /\VR m x x' :=by
      generalize a.eval r=y0 at hrr
      cases hrr with
      |iface _ _ y hy=>exact⟨y,rfl,hy⟩
     have hc2:call (.fn g1) ([x]++args.toList.map ρ++[]) h=some (v,h1):=hc
     refine viacall g1 _ (#[x']++args.map a.eval) hc2 ?_ ?_
     ·rw[vtz,Array.toList_append]
      exact VL.append (VL.cons hx (VL.nil m)) hal
     ·obtain⟨k,hk⟩:∃k,P.types.size+Made.depth=k+1:=⟨P.types.size+Made.depth-1,by omega⟩
      unfold execOp
      rw[hop]
      have hex:(#[a.eval r]++args.map a.eval).extract 1 (#[a.eval r]++args.map a.eval).size=args.map a.eval:=by
       apply Array.ext'
       simp only[Array.toList_extract,Array.toList_append,Array.toList_map,List.extract_eq_take_drop,vCz,vrz,List.drop_succ_cons,vwz]
       rw[vnz (by simp)]
      have h0:(#[a.eval r]++args.map a.eval)[0]? =some (.iface t1 x'):=by rw[<-hr',Array.getElem?_append_left (Nat.zero_lt_one)];rfl
      simp only[resolve,Sem.run_bind,Sem.run_pure,Result.andThen_ok,invoke,h0,hex,callMethod,run_program,hk,b6P hg1]
    ·have hu:I0 call (.callv unk (args.toList.map ρ)) h=none:=rfl
     rw[hu]at hc;simp at hc
   ·have hu:I0 call (.callv unk (args.toList.map ρ)) h=none:=rfl
    rw[hu]at hc;simp at hc
  |builtin b=>exact rest (by unfold F0;rw[hop])
 |_=>exact rest (by unfold F0;rw[hop])
def Y4(p:Pers)(e l:a7)(t:Nat):Value:=if p.has t then e t else l t
structure Slots(p:Pers)(m:Map)(e l:a7)(a:Act):Prop where
 rel:∀t,VR m (Y4 p e l t) (a.tmps.getD t undef)
 size:p.size<=a.tmps.size
 defers:a.defers=p.ds
 glob:K7 m
theorem Slots.eval{p:Pers}{m:Map}{e l:a7}{a:Act}(s:Slots p m e l a)(x:Operand):VR m (D4 p e l x) (a.eval x):=by
 cases x with
 |tmp t=>exact s.rel t
 |const v=>
  simp only[D4,Act.eval]
  split
  ·rename_i hv;exact VR.selfV hv
  ·exact .unk v
 |global g=>exact s.glob.rel g
 |func f=>exact VR.func_of (VL.nil m) (VL.nil m)
theorem Slots.ext{p:Pers}{m m1:Map}{e l:a7}{a:Act}(s:Slots p m e l a)(hm:Ext m m1):Slots p m1 e l a:=⟨fun t=>(s.rel t).ext hm,s.size,s.defers,s.glob.ext hm⟩
theorem Slots.put{p:Pers}{m:Map}{e l:a7}{a:Act}(s:Slots p m e l a){d:Option Tmp}(hd:a0H p d=true){v v' :Value}(hv:VR m v v'):
  Slots p m (M4 p e l d v).1 (M4 p e l d v).2 (a.put d v'):=by
 cases d with
 |none=>exact s
 |some t=>
  have ht:t<p.size:=by simpa [a0H,Nat.blt_eq]using hd
  refine⟨fun x=>?_,by simp only[Act.put,Array.size_setIfInBounds];exact s.size,s.defers,s.glob⟩
  have hget:(a.put (some t) v').tmps.getD x undef=if x=t then v' else a.tmps.getD x undef:=by
   simp only[Act.put,Array.getD_eq_getD_getElem?]
   by_cases hx:x=t
   ·subst hx
    have hlt:x<a.tmps.size:=uzN ht s.size
    rw[if_pos rfl,Array.getElem?_setIfInBounds_self_of_lt hlt];rfl
   ·rw[if_neg hx,Array.getElem?_setIfInBounds_ne (fun h=>hx h.symm)]
  rw[hget]
  unfold M4 Y4
  by_cases hp:p.has t=true
  ·simp only[hp,if_true]
   by_cases hx:x=t
   ·subst hx;simp only[hp,if_true,a7.upd];exact hv
   ·rw[if_neg hx]
    have:=s.rel x
    unfold Y4 at this
    simp only[a7.upd,hx,if_false];exact this
  ·simp only[hp,vgz,if_false]
   by_cases hx:x=t
   ·subst hx;simp only[hp,vgz,if_false,if_true,a7.upd];exact hv
   ·rw[if_neg hx]
    have:=s.rel x
    unfold Y4 at this
    simp only[a7.upd,hx,if_false];exact this
theorem want_sim'{p:Pers}{m:Map}{e l:a7}{a:Act}{all:Array Oper}{o:Oper}{j:Nat}{w:Bool}(hg:o.guard=some (j,w)){t:Nat}(ht:(all[j]?).bind (·.dst)=some t)(hr:VR m (D4 p e l (.tmp t)) (a.eval (.tmp t))){b:Bool}
  (hw:U3 (D4 p e l (.tmp t)) w=some b):Region.wanted o (yielded all a.tmps)=b:=by
 generalize D4 p e l (.tmp t)=g at hw hr
 unfold Region.wanted
 rw[hg]
 simp only[yielded,ht,Option.bind_some]
 unfold U3 at hw
 split at hw
 ·rename_i x
  have hx:=hr.bool_inv
  simp only[Act.eval,Array.getD_eq_getD_getElem?]at hx
  cases hq:a.tmps[t]? with
  |none=>rw[hq]at hx;simp[undef]at hx
  |some u=>
   rw[hq]at hx
   simp only[vFz]at hx
   subst hx
   obtain rfl:=uzA hw
   cases x<;>cases w<;>rfl
 ·rename_i vs
  split at hw
  ·rename_i hsz
   obtain rfl:=uzA hw
   rcases hr.tuple_inv with⟨vs',hx,_⟩|h
   ·simp only[Act.eval,Array.getD_eq_getD_getElem?]at hx
    cases hq:a.tmps[t]? with
    |none=>rfl
    |some u=>rw[hq]at hx;simp only[vFz]at hx;subst hx;rfl
   ·subst h;simp at hsz
  ·simp at hw
 ·simp at hw
theorem b5L{p:Pers}{m:Map}{e l:a7}{a:Act}(s:Slots p m e l a){all:Array Oper}{o:Oper}{j:Nat}{w:Bool}(hg:o.guard=some (j,w)){t:Nat}(ht:(all[j]?).bind (·.dst)=some t){b:Bool}
  (hw:U3 (D4 p e l (.tmp t)) w=some b):Region.wanted o (yielded all a.tmps)=b:=want_sim' hg ht (s.eval (.tmp t)) hw
theorem a5t{S:Stay}{Y:YP}{call:z8}(hcall:CallsOK P Y call)(hY:Y S.lp)(ρz:Option Nat)(nz:Nat)(p:Pers)(all:Array Oper){Q:Exit->Act->World->Prop}{e1:a7}{h1:Heap}:∀(ops:List Oper) (m:Map) (e l:a7) (h:Heap) (a:Act) (w:World),
  M2 call (a0O P p all ops e l) h=some (e1,h1)->Slots p m e l a->Emb P S m h w->K6 m h.next h1.next->
  (∀a1 w1 m1 l1,Slots p m1 e1 l1 a1->Out P S m h w m1 h1 w1->Q .normal a1 w1)->wpListIn (FZ ρz) nz P all Q ops a w
 | [],m,e,l,h,a,w,hr,hs,hE,hf,hQ=>by
  simp only[a0O,M2,uzC,uzB]at hr
  obtain⟨rfl,rfl⟩:=hr
  exact hQ a w m l hs (Out.refl hE)
 |o::ops,m,e,l,h,a,w,hr,hs,hE,hf,hQ=>by
  simp only[a0O,a2f]at hr
  split at hr
  case isFalse=>simp[M2,I0,C7]at hr
  rename_i hd
  have done:Region.wanted o (yielded all a.tmps)=true->∀v h2,I0 call (F0 P o (D4 p e l)) h=some (v,h2)->M2 call (a0O P p all ops (M4 p e l o.dst v).1 (M4 p e l o.dst v).2) h2=some (e1,h1)->wpListIn (FZ ρz) nz P all Q (o::ops) a w:=by
   intro hw v h2 hop hrest
   have hn2:=d9c hcall _ hrest
   unfold wpListIn
   rw[if_pos hw]
   refine b1d hcall hY ρz nz hE o a hs.eval hop (hf.mono (uzP _) hn2) hs.glob fun v' w2 m2 hv ho=>?_
   refine a5t hcall hY ρz nz p all ops m2 _ _ h2 _ w2 hrest ((hs.ext ho.ext).put hd hv) ho.emb (K6.out ho hf) fun a1 w1 m1 l1 hs1 ho1=>hQ a1 w1 m1 l1 hs1 (ho.trans ho1)
  split at hr
  ·rename_i hg
   simp only[M2]at hr
   split at hr
   ·rename_i v h2 hop
    exact done (by simp[Region.wanted,hg]) v h2 hop hr
   ·simp at hr
  ·rename_i j w0 hg
   split at hr
   ·rename_i t ht
    simp only[M2]at hr
    split at hr
    ·rename_i hw
     split at hr
     ·rename_i v h2 hop
      exact done (b5L hs hg ht hw) v h2 hop hr
     ·simp at hr
    ·rename_i hw
     have hwf:=b5L hs hg ht hw
     unfold wpListIn
     rw[if_neg (by rw[hwf];simp)]
     exact⟨fun _ _=>trivial,a5t hcall hY ρz nz p all ops m _ _ h _ w hr (hs.put hd (v' :=undef) (.tuple _ _ rfl (fun i x y hx=>by simp at hx))) hE hf hQ⟩
    ·simp at hr
   ·simp[M2,I0,C7]at hr
end
theorem R0{call:z8}{o:COp}(hk:D7 o≠.write)(h:Heap):I0 call o h=C7 o h:=by
 cases o<;>first|rfl| (exact absurd rfl hk)
theorem a3J{o:COp}(hk:D7 o=.pure){h h1:Heap}{v:Value}(hc:C7 o h=some (v,h1)):h1=h/\∀h',C7 o h' =some (v,h'):=by
 cases o<;>first
  | (simp only[D7,reduceCtorEq]at hk;done)
  | (simp only[C7]at hc ⊢;(repeat' split at hc)<;>simp_all;done)
  | (simp only[C7,uzD,uzB]at hc
     obtain⟨a,ha,rfl,rfl⟩:=hc
     exact⟨rfl,fun _=>by simp only[C7,ha,vlz]⟩)
  |skip
 case eqAgg neg ks x y=>
  simp only[C7]at hc ⊢
  split at hc
  ·simp only[uzD,uzB]at hc
   obtain⟨a,ha,rfl,rfl⟩:=hc
   exact⟨rfl,fun _=>by simp only[ha,vlz]⟩
  ·simp at hc
 case sliceStr x lo hi=>
  simp only[C7]at hc ⊢
  split at hc
  ·simp only[vhz,uzD,uzB]at hc
   obtain⟨a,ha,b,hb,rfl,rfl⟩:=hc
   exact⟨rfl,fun _=>by simp only[ha,hb,Option.bind_some,vlz]⟩
  ·simp at hc
 case field off agg x=>
  simp only[C7]at hc ⊢
  split at hc
  ·cases agg with
   |some n=>
    simp only at hc ⊢
    split at hc
    ·rename_i hle
     simp only[uzC,uzB]at hc
     obtain⟨rfl,rfl⟩:=hc
     exact⟨rfl,fun _=>by rw[if_pos hle]⟩
    ·simp at hc
   |none=>
    simp only[uzD,uzB]at hc ⊢
    obtain⟨a,ha,rfl,rfl⟩:=hc
    exact⟨rfl,fun _=>⟨_,ha,rfl,trivial⟩⟩
  ·simp at hc
 case indexStr x i=>
  simp only[C7]at hc ⊢
  split at hc
  ·split at hc
   ·rename_i hle
    simp only[uzD,uzB]at hc
    obtain⟨a,ha,rfl,rfl⟩:=hc
    exact⟨rfl,fun _=>by rw[if_pos hle,ha];rfl⟩
   ·simp at hc
  ·simp at hc
 case indexAgg n size agg x i=>
  simp only[C7]at hc ⊢
  split at hc
  ·split at hc
   ·rename_i hj
    cases agg with
    |some n=>
     simp only at hc ⊢
     split at hc
     ·rename_i hle
      simp only[uzC,uzB]at hc
      obtain⟨rfl,rfl⟩:=hc
      exact⟨rfl,fun _=>by rw[if_pos hj,if_pos hle]⟩
     ·simp at hc
    |none=>
     simp only[uzD,uzB]at hc
     obtain⟨a,ha,rfl,rfl⟩:=hc
     exact⟨rfl,fun _=>by rw[if_pos hj];simp only[ha,vlz]⟩
   ·simp at hc
  ·simp at hc
 case extract x i=>
  simp only[C7]at hc ⊢
  split at hc
  ·split at hc
   ·rename_i hle
    split at hc
    ·rename_i b hb
     split at hc
     ·rename_i hi
      simp only[uzC,uzB]at hc
      obtain⟨rfl,rfl⟩:=hc
      exact⟨rfl,fun _=>by rw[if_pos hle];simp[hb,hi]⟩
     ·simp at hc
    ·simp at hc
   ·rename_i hle
    simp only[uzD,uzB]at hc
    obtain⟨a,ha,rfl,rfl⟩:=hc
    exact⟨rfl,fun _=>by rw[if_neg hle,ha];rfl⟩
  ·simp at hc
 case minmax big xs=>
  simp only[C7]at hc ⊢
  split at hc
  ·simp at hc
  ·simp only[uzD,uzB]at hc
   obtain⟨a,ha,rfl,rfl⟩:=hc
   exact⟨rfl,fun _=>by simp only[ha,vlz]⟩
theorem a3K{o:COp}(hk:D7 o=.read){h h1:Heap}{v:Value}(hc:C7 o h=some (v,h1)):h1=h:=by
 have key:∀{u:Value} {g:Heap},some (u,h)=some (v,g)->g=h:=fun hc=>by
  simp only[uzC,uzB]at hc;exact hc.2.symm
 have mp:∀{α:Type} {x:Option α} {f:α->Value},(x.map fun a=>(f a,h))=some (v,h1)->h1=h:=fun hc=>by
  simp only[uzD,uzB]at hc;obtain⟨a,_,_,e⟩:=hc;exact e.symm
 have bd:∀{α:Type} {x:Option α} {f:α->Option (Value×Heap)},(∀a,f a=some (v,h1)->h1=h)->x.bind f=some (v,h1)->h1=h:=fun hf hc=>by
  simp only[vhz]at hc;obtain⟨a,_,e⟩:=hc;exact hf a e
 cases o<;>first
  | (simp only[D7,reduceCtorEq]at hk;done)
  |skip
 case load agg a=>
  simp only[C7]at hc
  split at hc
  ·split at hc
   ·exact mp hc
   ·exact mp hc
  ·simp at hc
 case ptrSame t n x=>
  simp only[C7]at hc
  split at hc
  ·split at hc
   ·split at hc
    ·exact key hc
    ·simp at hc
   ·simp at hc
  ·simp at hc
 case toStr x=>
  simp only[C7]at hc
  split at hc
  ·exact key hc
  ·split at hc
   ·exact bd (fun a ha=>mp ha) hc
   ·simp at hc
  ·simp at hc
 case slice t s x lo hi=>
  simp only[C7]at hc
  split at hc
  ·exact bd (fun a ha=>mp ha) hc
  ·split at hc
   ·exact bd (fun a ha=>mp ha) hc
   ·simp at hc
  ·simp at hc
 case sliceArr n s x lo hi=>
  simp only[C7]at hc
  split at hc
  ·split at hc
   ·exact bd (fun a ha=>mp ha) hc
   ·simp at hc
  ·simp at hc
 case sliceArr3 n s x lo hi mx=>
  simp only[C7]at hc
  split at hc
  ·split at hc
   ·exact bd (fun a ha=>bd (fun a ha=>mp ha) ha) hc
   ·simp at hc
  ·simp at hc
 case slice3 t s x lo hi mx=>
  simp only[C7]at hc
  split at hc
  ·exact bd (fun a ha=>bd (fun a ha=>mp ha) ha) hc
  ·split at hc
   ·exact bd (fun a ha=>bd (fun a ha=>mp ha) ha) hc
   ·simp at hc
  ·simp at hc
 case lenMap x=>
  simp only[C7]at hc
  split at hc
  ·exact key hc
  ·split at hc
   ·exact key hc
   ·simp at hc
  ·simp at hc
 case lookup kk z ok mm k=>
  simp only[C7]at hc
  split at hc
  ·simp only[uzD,uzB]at hc;obtain⟨a,_,_,e⟩:=hc;exact e.symm
  ·split at hc
   ·refine bd (fun a ha=>?_) hc
    simp only[uzD]at ha
    obtain⟨b,_,hb⟩:=ha
    cases b<;>(simp only[uzB]at hb;exact hb.2.symm)
   ·simp at hc
  ·simp at hc
theorem a7Y{o:COp}(hk:D7 o=.alloc){h h1:Heap}{v:Value}(hc:C7 o h=some (v,h1)):∃ob,h1=h.new ob/\∀h',h'.next=h.next->C7 o h' =some (v,h'.new ob):=by
 cases o<;>first
  | (simp only[D7,reduceCtorEq]at hk;done)
  | (simp only[C7,uzC,uzB]at hc
     obtain⟨rfl,rfl⟩:=hc
     exact⟨_,rfl,fun h' hn=>by simp only[C7,hn]⟩)
  | (simp only[C7,uzD,uzB]at hc
     obtain⟨a,ha,rfl,rfl⟩:=hc
     exact⟨_,rfl,fun h' hn=>by simp only[C7,hn,ha,vlz]⟩)
  | (simp only[C7]at hc ⊢
     split at hc
     ·first
      | (simp only[uzC,uzB]at hc
         obtain⟨rfl,rfl⟩:=hc
         exact⟨_,rfl,fun h' hn=>by simp only[hn, *]⟩)
      | (split at hc
         ·simp only[uzC,uzB]at hc
          obtain⟨rfl,rfl⟩:=hc
          exact⟨_,rfl,fun h' hn=>by rw[if_pos ‹_›,hn]⟩
         ·simp at hc)
     ·simp at hc)
theorem b1e{ρ σ:Rho}(o:Option Operand)(h:∀x∈o.toArray,ρ x=σ x):o.map ρ=o.map σ:=by
 cases o with
 |none=>rfl
 |some x=>simp[h x (by simp)]
theorem a0E{ρ σ:Rho}(l:Array Operand)(h:∀x∈l,ρ x=σ x):l.toList.map ρ=l.toList.map σ:=
 List.map_congr_left fun x hx=>h x (by simpa using hx)
theorem a1p{ρ σ:Rho}{β:Type}(l:Array (Nat×Operand))(g:Nat->Value->β)(h:∀x∈(l.toList.map (·.2)).toArray,ρ x=σ x):(l.toList.map fun(i,x)=>g i (ρ x))=(l.toList.map fun(i,x)=>g i (σ x)):=
 List.map_congr_left fun x hx=>by
  obtain⟨i,y⟩:=x
  simp only
  rw[h y (by simp only[List.mem_toArray,List.mem_map];exact⟨(i,y),hx,rfl⟩)]
theorem b7d{P:Program}(o:Oper){ρ σ:Rho}(h:∀x∈o.op.operands,ρ x=σ x):D9 P o ρ=D9 P o σ:=by
 obtain⟨dst,op,ty,pos,after,guard⟩:=o
 cases op<;>simp only[Op.operands]at h<;>first
  |rfl
  |skip
 case move x=>simp only[D9,h x (by simp)]
 case assign x=>simp only[D9,h x (by simp)]
 case pick a b c=>simp only[D9,h a (by simp),h b (by simp),h c (by simp)]
 case box t x=>simp only[D9,h x (by simp)]
 case build t ps=>
  have h1:=a1p ps (fun i v=>(i,v)) h
  simp only[D9]
  simp only at h1
  rw[h1]
  have h2:∀e:TypeId,(ps.toList.map fun(i,x)=>(i*P.cellsOf e,P.cellsOf e,ρ x))=(ps.toList.map fun(i,x)=>(i*P.cellsOf e,P.cellsOf e,σ x)):=fun e=>a1p ps (fun i v=>(i*P.cellsOf e,P.cellsOf e,v)) h
  (repeat' split)<;>first|rfl|rw[h2]
 case buildSlice t n ps=>
  have h2:∀e:TypeId,(ps.toList.map fun(i,x)=>(i*P.cellsOf e,P.cellsOf e,ρ x))=(ps.toList.map fun(i,x)=>(i*P.cellsOf e,P.cellsOf e,σ x)):=fun e=>a1p ps (fun i v=>(i*P.cellsOf e,P.cellsOf e,v)) h
  simp only[D9,h2]
 case load t x=>simp only[D9,h x (by simp)]
 case store t x y=>simp only[D9,h x (by simp),h y (by simp)]
 case nilCheck x=>simp only[D9,h x (by simp)]
 case binOp op t x y yt=>simp only[D9,h x (by simp),h y (by simp)]
 case unOp op t x=>simp only[D9,h x (by simp)]
 case convert s d x=>simp only[D9,h x (by simp)]
 case makeFunc fn first captured=>
  have h1:=a0E first fun x hx=>h x (by simp[hx])
  have h2:=a0E captured fun x hx=>h x (by simp[hx])
  cases fn<;>simp only[D9,h1,h2]
 case makeMap t r=>
  cases r with
  |none=>rfl
  |some x=>cases x with
   |const v=>cases v<;>rfl
   |_=>rfl
 case makeSlice t x y=>simp only[D9,h x (by simp),h y (by simp)]
 case slice t x lo hi mx=>
  have h0:=h x (by simp)
  have h1:=b1e lo fun x hx=>h x (by simp at hx ⊢;simp[hx])
  have h2:=b1e hi fun x hx=>h x (by simp at hx ⊢;simp[hx])
  cases mx with
  |none=>simp only[D9,h0,h1,h2]
  |some y=>simp only[D9,h0,h1,h2,h y (by simp)]
 case makeInterface t x=>simp only[D9,h x (by simp)]
 case typeAssert x a b ok=>cases ok<;>simp only[D9,h x (by simp)]
 case fieldAddr t x i=>simp only[D9,h x (by simp)]
 case field t x i=>simp only[D9,h x (by simp)]
 case indexAddr t x i=>simp only[D9,h x (by simp),h i (by simp)]
 case index t x i=>simp only[D9,h x (by simp),h i (by simp)]
 case lookup t x i ok=>simp only[D9,h x (by simp),h i (by simp)]
 case mapUpdate t x i y=>simp only[D9,h x (by simp),h i (by simp),h y (by simp)]
 case mapEntry t x i=>simp only[D9,h x (by simp),h i (by simp)]
 case entryStore t x i y=>simp only[D9,h x (by simp),h i (by simp),h y (by simp)]
 case range t x=>simp only[D9,h x (by simp)]
 case next x b=>cases b<;>simp only[D9,h x (by simp)]
 case extract x i=>simp only[D9,h x (by simp)]
 case call c=>
  obtain⟨callee,args,ts⟩:=c
  cases callee with
  |value f=>rfl
  |invoke r mth=>rfl
  |builtin b=>
   have ha:∀x∈args.toList,ρ x=σ x:=fun x hx=>h x (by simp[Call.operands];simpa using hx)
   have hm:args.toList.map ρ=args.toList.map σ:=List.map_congr_left ha
   simp only[D9]
   split<;>first
    |rfl
    |rw[hm]
    | (rename_i hargs hts
       rw[hargs]at ha
       simp only[vxz,List.not_mem_nil,or_false,forall_eq_or_imp,forall_eq]at ha
       simp only[ha])
theorem b5i{P:Program}(o:Oper){ρ σ:Rho}(h:∀x∈o.op.operands,ρ x=σ x):F0 P o ρ=F0 P o σ:=by
 have hp:=b7d (P:=P) o h
 cases hop:o.op with
 |call c=>
  obtain⟨callee,args,ts⟩:=c
  rw[hop]at h
  simp only[Op.operands,Call.operands]at h
  cases callee with
  |value f=>
   have hf:ρ f=σ f:=h f (by simp)
   have ha:args.toList.map ρ=args.toList.map σ:=a0E args fun x hx=>h x (by simp[hx])
   unfold F0
   rw[hop]
   cases f<;>simp only[ha,hf]
  |invoke r mth=>
   have hr:ρ r=σ r:=h r (by simp)
   have ha:args.toList.map ρ=args.toList.map σ:=a0E args fun x hx=>h x (by simp[hx])
   unfold F0;rw[hop];simp only[hr,ha]
  |builtin b=>unfold F0;rw[hop];simp only[hp]
 |_=>unfold F0;rw[hop];simp only[hp]
section
variable (P:Program) (call:z8) (p:Pers) (all:Array Oper) (ah:List (List Nat))
def At(E L:Nat->a7)(j:Nat)(o:Oper):COp:=F0 P o (D4 p (E j) (L j))
structure StepT(j:Nat)(o:Oper)(E L:Nat->a7)(H:Nat->Heap)(V:Nat->Value)(R:Nat->Bool):Prop where
 dst:a0H p o.dst=true
 env:E (j+1)=(M4 p (E j) (L j) o.dst (V j)).1
 loc:L (j+1)=(M4 p (E j) (L j) o.dst (V j)).2
 guard:(o.guard=none/\R j=true)\/∃jj w t,o.guard=some (jj,w)/\(all[jj]?).bind (·.dst)=some t/\U3 (D4 p (E j) (L j) (.tmp t)) w=some (R j)
 ran:R j=true->I0 call (At P p E L j o) (H j)=some (V j,H (j+1))
 idle:R j=false->V j=.tuple #[]/\H (j+1)=H j
end
section
variable {P:Program} {call:z8} {p:Pers} {all:Array Oper} {ah:List (List Nat)}
theorem d8v{l:List Hist}{k:Reg}{h:Heap}{r:a7×Heap}(hr:M2 call (e1z l k) h=some r):(∀x∈l,W5 x.g h x.o x.v)/\M2 call k h=some r:=by
 induction l with
 |nil=>exact⟨fun x hx=>by simp at hx,hr⟩
 |cons x l ih=>
  simp only[e1z,M2]at hr
  split at hr
  ·rename_i hh
   obtain⟨h1,h2⟩:=ih hr
   exact⟨fun y hy=>by
    rcases List.mem_cons.1 hy with rfl|hy
    ·exact hh
    ·exact h1 y hy,h2⟩
  ·simp at hr
theorem b6q{x:Hist}{l:List (Nat×Heap)}{k:Reg}{h:Heap}{r:a7×Heap}(hr:M2 call (b1V x l k) h=some r):(∀s∈l,W5 x.g s.2 x.o x.v)/\M2 call k h=some r:=by
 induction l with
 |nil=>exact⟨fun x hx=>by simp at hx,hr⟩
 |cons s l ih=>
  simp only[b1V,M2]at hr
  split at hr
  ·rename_i hh
   obtain⟨h1,h2⟩:=ih hr
   exact⟨fun y hy=>by
    rcases List.mem_cons.1 hy with rfl|hy
    ·exact hh
    ·exact h1 y hy,h2⟩
  ·simp at hr
theorem a3O{o:Oper}{e l:a7}{k:Value->Reg}{h:Heap}{r:a7×Heap}(hr:M2 call (a2f P p all o e l k) h=some r):
  a0H p o.dst=true/\∃(b:Bool) (v:Value) (h' :Heap),((o.guard=none/\b=true)\/∃jj w t,o.guard=some (jj,w)/\(all[jj]?).bind (·.dst)=some t/\U3 (D4 p e l (.tmp t)) w=some b)/\
   (b=true->I0 call (F0 P o (D4 p e l)) h=some (v,h'))/\(b=false->v=.tuple #[]/\h' =h)/\M2 call (k v) h' =some r:=by
 unfold a2f at hr
 split at hr
 case isFalse=>simp[M2,I0,C7]at hr
 rename_i hd
 refine⟨hd,?_⟩
 split at hr
 ·rename_i hg
  simp only[M2]at hr
  split at hr
  ·rename_i v h' hop
   exact⟨true,v,h',.inl ⟨hg,rfl⟩,fun _=>hop,fun h=>by simp at h,hr⟩
  ·simp at hr
 ·rename_i j w hg
  split at hr
  ·rename_i t ht
   simp only[M2]at hr
   split at hr
   ·rename_i hw
    split at hr
    ·rename_i v h' hop
     exact⟨true,v,h',.inr ⟨j,w,t,hg,ht,hw⟩,fun _=>hop,fun h=>by simp at h,hr⟩
    ·simp at hr
   ·rename_i hw
    exact⟨false,.tuple #[],h,.inr ⟨j,w,t,hg,ht,hw⟩,fun h=>by simp at h,fun _=>⟨rfl,rfl⟩,hr⟩
   ·simp at hr
  ·simp[M2,I0,C7]at hr
theorem W5.at{o:Oper}{e l:a7}{b:Bool}(hb:(o.guard=none/\b=true)\/∃jj w t,o.guard=some (jj,w)/\(all[jj]?).bind (·.dst)=some t/\U3 (D4 p e l (.tmp t)) w=some b)(ht:b=true)
  {h:Heap} {c:COp} {v:Value} (hh:W5 (a0D p all o e l) h c v):C7 c h=some (v,h):=by
 subst ht
 unfold a0D at hh
 rcases hb with⟨hg,_⟩| ⟨jj,w,t,hg,ht,hw⟩
 ·rw[hg]at hh;exact hh
 ·rw[hg]at hh
  simp only[ht]at hh
  rcases hh with h1|h1
  ·rw[hw]at h1;simp at h1
  ·exact h1
structure Trace(P:Program)(call:z8)(p:Pers)(all:Array Oper)(ah:List (List Nat))(i:Nat)(ops:List Oper)(E L:Nat->a7)(H:Nat->Heap)(V:Nat->Value)(R:Nat->Bool):Prop where
 step:∀k o,ops[k]? =some o->StepT P call p all (i+k) o E L H V R
 rw:∀r j x y,r<j->ops[r]? =some x->ops[j]? =some y->D7 (At P p E L (i+r) x)=.read->D7 (At P p E L (i+j) y)=.write->(ah.getD (i+j) []).elem (i+r)=false->R (i+r)=true->
  C7 (At P p E L (i+r) x) (H (i+j+1))=some (V (i+r),H (i+j+1))
 wr:∀j r y x,j<r->ops[j]? =some y->ops[r]? =some x->D7 (At P p E L (i+j) y)=.write->D7 (At P p E L (i+r) x)=.read->(ah.getD (i+r) []).elem (i+j)=false->R (i+r)=true->
  C7 (At P p E L (i+r) x) (H (i+j))=some (V (i+r),H (i+j))
 ww:∀j r y x,j<r->ops[j]? =some y->ops[r]? =some x->D7 (At P p E L (i+j) y)=.write->D7 (At P p E L (i+r) x)=.write->(ah.getD (i+r) []).elem (i+j)=true
theorem b5H:∀(ops:List Oper) (i:Nat) (e l:a7) (hist:List Hist) (snaps:List (Nat×Heap)) (h:Heap) (r:a7×Heap),M2 call (W4 P p all ah ops i e l hist snaps) h=some r->
  ∃(E L:Nat->a7) (H:Nat->Heap) (V:Nat->Value) (R:Nat->Bool),E i=e/\L i=l/\H i=h/\E (i+ops.length)=r.1/\H (i+ops.length)=r.2/\Trace P call p all ah i ops E L H V R/\
   (∀x∈hist,∀k o,ops[k]? =some o->D7 (At P p E L (i+k) o)=.write->(ah.getD (i+k) []).elem x.no=false->W5 x.g (H (i+k+1)) x.o x.v)/\
   (∀s∈snaps,∀k o,ops[k]? =some o->D7 (At P p E L (i+k) o)=.read->(ah.getD (i+k) []).elem s.1=false->R (i+k)=true->C7 (At P p E L (i+k) o) s.2=some (V (i+k),s.2))/\
   (∀s∈snaps,∀k o,ops[k]? =some o->D7 (At P p E L (i+k) o)=.write->(ah.getD (i+k) []).elem s.1=true)
 | [],i,e,l,hist,snaps,h,r,hr=>by
  simp only[W4,M2,uzC]at hr
  subst hr
  exact⟨fun _=>e,fun _=>l,fun _=>h,fun _=> .nilIface,fun _=>false,rfl,rfl,rfl,rfl,rfl,⟨fun k o hk=>by simp at hk,fun _ _ _ _ _ hk=>by simp at hk,fun _ _ _ _ _ hk=>by simp at hk,fun _ _ _ _ _ hk=>by simp at hk⟩,
   fun x _ k o hk=>by simp at hk,fun s _ k o hk=>by simp at hk,fun s _ k o hk=>by simp at hk⟩
 |o::ops,i,e,l,hist,snaps,h,r,hr=>by
  have glue:∀(b:Bool) (v:Value) (h' :Heap) (hist' :List Hist) (snaps' :List (Nat×Heap)),a0H p o.dst=true->
    ((o.guard=none/\b=true)\/∃jj w t,o.guard=some (jj,w)/\(all[jj]?).bind (·.dst)=some t/\U3 (D4 p e l (.tmp t)) w=some b)->
    (b=true->I0 call (F0 P o (D4 p e l)) h=some (v,h'))->(b=false->v=.tuple #[]/\h' =h)->
    M2 call (W4 P p all ah ops (i+1) (M4 p e l o.dst v).1 (M4 p e l o.dst v).2 hist' snaps') h' =some r->
    (∀x∈hist,x∈hist')->(∀s∈snaps,s∈snaps')->
    (D7 (F0 P o (D4 p e l))=.read->(⟨i,a0D p all o e l,F0 P o (D4 p e l),v⟩:Hist)∈hist')->
    (D7 (F0 P o (D4 p e l))=.write->(i,h)∈snaps')->
    (D7 (F0 P o (D4 p e l))=.write->∀x∈hist,(ah.getD i []).elem x.no=false->W5 x.g h' x.o x.v)->
    (D7 (F0 P o (D4 p e l))=.read->∀s∈snaps,(ah.getD i []).elem s.1=false->W5 (a0D p all o e l) s.2 (F0 P o (D4 p e l)) v)->
    (D7 (F0 P o (D4 p e l))=.write->∀s∈snaps,(ah.getD i []).elem s.1=true)->
    ∃(E L:Nat->a7) (H:Nat->Heap) (V:Nat->Value) (R:Nat->Bool),E i=e/\L i=l/\H i=h/\E (i+(o::ops).length)=r.1/\H (i+(o::ops).length)=r.2/\Trace P call p all ah i (o::ops) E L H V R/\
     (∀x∈hist,∀k o',(o::ops)[k]? =some o' ->D7 (At P p E L (i+k) o')=.write->(ah.getD (i+k) []).elem x.no=false->W5 x.g (H (i+k+1)) x.o x.v)/\
     (∀s∈snaps,∀k o',(o::ops)[k]? =some o' ->D7 (At P p E L (i+k) o')=.read->(ah.getD (i+k) []).elem s.1=false->R (i+k)=true->C7 (At P p E L (i+k) o') s.2=some (V (i+k),s.2))/\
     (∀s∈snaps,∀k o',(o::ops)[k]? =some o' ->D7 (At P p E L (i+k) o')=.write->(ah.getD (i+k) []).elem s.1=true):=by
   intro b v h' hist' snaps' hd hg hran hidle hrest hhi hsn hread hwrite hck1 hck2 hck3
   obtain⟨E,L,H,V,R,q1,q2,q3,q4,q5,q6,q7,q8,q9⟩:=b5H ops (i+1) _ _ hist' snaps' h' r hrest
   let E' :Nat->a7:=fun n=>if n=i then e else E n
   let L' :Nat->a7:=fun n=>if n=i then l else L n
   let H' :Nat->Heap:=fun n=>if n=i then h else H n
   let V' :Nat->Value:=fun n=>if n=i then v else V n
   let R' :Nat->Bool:=fun n=>if n=i then b else R n
   have ei:E' i=e:=if_pos rfl
   have li:L' i=l:=if_pos rfl
   have hi:H' i=h:=if_pos rfl
   have vi:V' i=v:=if_pos rfl
   have ri:R' i=b:=if_pos rfl
   have en:∀n,i<n->E' n=E n:=fun n hn=>if_neg (by omega)
   have ln:∀n,i<n->L' n=L n:=fun n hn=>if_neg (by omega)
   have hn' :∀n,i<n->H' n=H n:=fun n hn=>if_neg (by omega)
   have vn:∀n,i<n->V' n=V n:=fun n hn=>if_neg (by omega)
   have rn:∀n,i<n->R' n=R n:=fun n hn=>if_neg (by omega)
   have at0:∀x,At P p E' L' i x=F0 P x (D4 p e l):=fun x=>by unfold At;rw[ei,li]
   have atn:∀n x,i<n->At P p E' L' n x=At P p E L n x:=fun n x hn=>by unfold At;rw[en n hn,ln n hn]
   have hh' :H' (i+1)=h' :=by rw[hn' _ (by omega),q3]
   have sh:∀k:Nat,i+(k+1)=i+1+k:=fun k=>by omega
   refine⟨E',L',H',V',R',ei,li,hi,?_,?_,⟨?_,?_,?_,?_⟩,?_,?_,?_⟩
   ·rw[en _ (by simp)];rw[<-q4];congr 1;simp;omega
   ·rw[hn' _ (by simp)];rw[<-q5];congr 1;simp;omega
   ·intro k o' hk
    cases k with
    |zero=>
     simp only[List.getElem?_cons_zero,uzC]at hk
     subst hk
     rw[Nat.add_zero]
     refine⟨hd,?_,?_,?_,?_,?_⟩
     ·rw[en _ (by omega),q1,ei,li,vi]
     ·rw[ln _ (by omega),q2,ei,li,vi]
     ·rw[ri,ei,li];exact hg
     ·rw[ri,at0,hi,vi,hh'];exact hran
     ·rw[ri,vi,hh',hi];exact hidle
    |succ k=>
     simp only[vBz]at hk
     have s:=q6.step k o' hk
     rw[sh]
     refine⟨s.dst,?_,?_,?_,?_,?_⟩
     ·rw[en _ (by omega),en _ (by omega),ln _ (by omega),vn _ (by omega)];exact s.env
     ·rw[ln _ (by omega),en _ (by omega),ln _ (by omega),vn _ (by omega)];exact s.loc
     ·rw[rn _ (by omega),en _ (by omega),ln _ (by omega)];exact s.guard
     ·rw[rn _ (by omega),atn _ _ (by omega),hn' _ (by omega),hn' _ (by omega),vn _ (by omega)];exact s.ran
     ·rw[rn _ (by omega),hn' _ (by omega),hn' _ (by omega),vn _ (by omega)];exact s.idle
   ·intro r0 j x y hlt hx hy hkx hky hno hr0
    obtain⟨j,rfl⟩:∃q,j=q+1:=⟨j-1,by omega⟩
    simp only[vBz]at hy
    rw[sh]at hky hno ⊢
    rw[atn _ _ (by omega)]at hky
    rw[hn' _ (by omega)]
    cases r0 with
    |zero=>
     simp only[List.getElem?_cons_zero,uzC]at hx
     subst hx
     rw[Nat.add_zero]at hkx hno hr0 ⊢
     rw[at0]at hkx ⊢
     rw[ri]at hr0
     rw[vi]
     exact(q7 _ (hread hkx) j y hy hky hno).at hg hr0
    |succ r0=>
     simp only[vBz]at hx
     rw[sh]at hkx hno hr0 ⊢
     rw[atn _ _ (by omega)]at hkx ⊢
     rw[rn _ (by omega)]at hr0
     rw[vn _ (by omega)]
     exact q6.rw r0 j x y (by omega) hx hy hkx hky hno hr0
   ·intro j r0 y x hlt hy hx hky hkx hno hr0
    obtain⟨r0,rfl⟩:∃q,r0=q+1:=⟨r0-1,by omega⟩
    simp only[vBz]at hx
    rw[sh]at hkx hno hr0 ⊢
    rw[atn _ _ (by omega)]at hkx ⊢
    rw[rn _ (by omega)]at hr0
    rw[vn _ (by omega)]
    cases j with
    |zero=>
     simp only[List.getElem?_cons_zero,uzC]at hy
     subst hy
     simp only[Nat.add_zero]at hky hno ⊢
     rw[at0]at hky
     rw[hi]
     exact q8 (i,h) (hwrite hky) r0 x hx hkx hno hr0
    |succ j=>
     simp only[vBz]at hy
     rw[sh j]at hky hno ⊢
     rw[atn _ _ (by omega)]at hky
     rw[hn' (i+1+j) (by omega)]
     exact q6.wr j r0 y x (by omega) hy hx hky hkx hno hr0
   ·intro j r0 y x hlt hy hx hky hkx
    obtain⟨r0,rfl⟩:∃q,r0=q+1:=⟨r0-1,by omega⟩
    simp only[vBz]at hx
    rw[sh]at hkx ⊢
    rw[atn _ _ (by omega)]at hkx
    cases j with
    |zero=>
     simp only[List.getElem?_cons_zero,uzC]at hy
     subst hy
     rw[Nat.add_zero]at hky ⊢
     rw[at0]at hky
     exact q9 (i,h) (hwrite hky) r0 x hx hkx
    |succ j=>
     simp only[vBz]at hy
     rw[sh]at hky ⊢
     rw[atn _ _ (by omega)]at hky
     exact q6.ww j r0 y x (by omega) hy hx hky hkx
   ·intro x hx k o' hk hkw hno
    cases k with
    |zero=>
     simp only[List.getElem?_cons_zero,uzC]at hk
     subst hk
     rw[Nat.add_zero]at hkw hno ⊢
     rw[at0]at hkw
     rw[hh']
     exact hck1 hkw x hx hno
    |succ k=>
     simp only[vBz]at hk
     rw[sh]at hkw hno ⊢
     rw[atn _ _ (by omega)]at hkw
     rw[hn' _ (by omega)]
     exact q7 x (hhi x hx) k o' hk hkw hno
   ·intro s hs k o' hk hkr hno hr0
    cases k with
    |zero=>
     simp only[List.getElem?_cons_zero,uzC]at hk
     subst hk
     rw[Nat.add_zero]at hkr hno hr0 ⊢
     rw[at0]at hkr ⊢
     rw[ri]at hr0
     rw[vi]
     exact(hck2 hkr s hs hno).at hg hr0
    |succ k=>
     simp only[vBz]at hk
     rw[sh]at hkr hno hr0 ⊢
     rw[atn _ _ (by omega)]at hkr ⊢
     rw[rn _ (by omega)]at hr0
     rw[vn _ (by omega)]
     exact q8 s (hsn s hs) k o' hk hkr hno hr0
   ·intro s hs k o' hk hkw
    cases k with
    |zero=>
     simp only[List.getElem?_cons_zero,uzC]at hk
     subst hk
     rw[Nat.add_zero]at hkw ⊢
     rw[at0]at hkw
     exact hck3 hkw s hs
    |succ k=>
     simp only[vBz]at hk
     rw[sh]at hkw ⊢
     rw[atn _ _ (by omega)]at hkw
     exact q9 s (hsn s hs) k o' hk hkw
  simp only[W4]at hr
  split at hr
  ·rename_i hk
   split at hr
   ·rename_i hall
    simp only[M2]at hr
    obtain⟨hd,b,v,h',hg,hran,hidle,hrest⟩:=a3O hr
    obtain⟨hc,hrest⟩:=d8v hrest
    refine glue b v h' hist ((i,h)::snaps) hd hg hran hidle hrest (fun x hx=>hx) (fun s hs=>List.mem_cons_of_mem _ hs) (fun hk2=>by rw[hk]at hk2;simp at hk2) (fun _=>vyz) (fun _ x hx hno=>?_) (fun hk2=>by rw[hk]at hk2;simp at hk2) (fun _ s hs=>?_)
    ·exact hc x (List.mem_filter.2 ⟨hx,by rw[hno];rfl⟩)
    ·exact List.all_eq_true.1 hall s hs
   ·simp[M2,I0,C7]at hr
  ·rename_i hk
   obtain⟨hd,b,v,h',hg,hran,hidle,hrest⟩:=a3O hr
   obtain⟨hc,hrest⟩:=b6q hrest
   refine glue b v h' _ snaps hd hg hran hidle hrest (fun x hx=>List.mem_cons_of_mem _ hx) (fun s hs=>hs) (fun _=>vyz) (fun hk2=>by rw[hk]at hk2;simp at hk2) (fun hk2=>by rw[hk]at hk2;simp at hk2) (fun _ s hs hno=>?_) (fun hk2=>by rw[hk]at hk2;simp at hk2)
   exact hc s (List.mem_filter.2 ⟨hs,by rw[hno];rfl⟩)
  ·rename_i hk1 hk2
   obtain⟨hd,b,v,h',hg,hran,hidle,hrest⟩:=a3O hr
   exact glue b v h' hist snaps hd hg hran hidle hrest (fun x hx=>hx) (fun s hs=>hs) (fun hk=>absurd hk hk2) (fun hk=>absurd hk hk1) (fun hk=>absurd hk hk1) (fun hk=>absurd hk hk2) (fun hk=>absurd hk hk1)
end
end Go.Proofs.YtlakhgibjfmjjaaGreat.Can
