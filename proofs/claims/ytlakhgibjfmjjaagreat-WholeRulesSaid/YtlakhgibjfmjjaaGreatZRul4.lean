/- Part 4 of 6 of the proof of the row RowWholeRules: whatever the input, the law returns true. No condition. -/
import Derived.Test.YtlakhgibjfmjjaaGreatZRul3
import Derived.Laws.BitsLemmas
set_option linter.unusedSimpArgs false
set_option linter.unusedVariables false
set_option linter.defProp false
set_option maxHeartbeats 4000000
open Nat renaming reduceEqDiff → zA, reduceAdd → zB, reduceMul → zC, reduceSub → zD, reduceLT → zE, reduceLeDiff → zF, reduceBEq → zG, lt_of_lt_of_le → yN, le_refl → yP, le_trans → yR, mul_one → yS
open Int renaming reduceLT → zH, reduceLE → zI, reduceToNat → zJ, reduceAdd → zK, reduceSub → zL, reduceMul → zM, reduceBEq → zN, mul_nonneg → yO, le_refl → yQ
open Option renaming some.inj → yA, some.injEq → yC, map_eq_some_iff → yD
open Prod renaming mk.injEq → yB
open List renaming getElem?_eq_some_iff → yE, getElem?_eq_getElem → yF, length_append → yG, getElem?_set_self → yH, getElem?_set_ne → yI, getElem?_map → yJ, mem_of_getElem? → yK, length_map → yL, length_cons → yM
namespace Go.Proofs.YtlakhgibjfmjjaaGreat.Can
open Go
attribute [local congr] m9 l8 f7 f6 i7 l7 l9 s9 s7
def bs(l:List Int):ByteArray:=⟨(l.map fun n=>UInt8.ofNat n.toNat).toArray⟩
theorem a4g(l:List Int):(bs l).size=l.length:=by
 show(l.map fun n=>UInt8.ofNat n.toNat).toArray.size=_
 simp
def H7(l:List Int):Prop:=∀x∈l,0<=x/\x<256
theorem H7.app{a b:List Int}(h:H7 a)(k:H7 b):H7 (a++b):=fun x hx=>(List.mem_append.1 hx).elim (h x) (k x)
abbrev B8:Enc Int:=Enc.int .u8
theorem a3i:∀l:List Int,bytesOf (B8.all l)=some (l.map fun n=>UInt8.ofNat n.toNat)
 | []=>rfl
 |x::t=>by
  show bytesOf (Value.int .u8 x::B8.all t)=_
  unfold bytesOf
  rw[a3i t];rfl
theorem b3O(l:List Int)(h:H7 l):y8 (bs l).data.toList=B8.all l:=by
 induction l with
 |nil=>rfl
 |cons x t ih=>
  have e:=ih fun y hy=>h y (List.mem_cons_of_mem _ hy)
  have hx:=h x List.mem_cons_self
  have h2:(UInt8.ofNat x.toNat).toNat=x.toNat:=by simp;omega
  have h3:((UInt8.ofNat x.toNat).toNat:Int)=x:=by rw[h2];omega
  show Value.int .u8 ((UInt8.ofNat x.toNat).toNat:Int)::y8 (bs t).data.toList=Value.int .u8 x::B8.all t
  rw[h3,e]
theorem d9L(h:Heap)(l:List Int)(hb:H7 l):C1 h 1 (.string (bs l))=some (B8.all l,l.length):=by
 show(if(1:Nat)=1 then some (y8 (bs l).data.toList,(bs l).size)else none)=_
 rw[if_pos rfl,b3O l hb,a4g]
theorem e5m(s:ByteArray):∃l,H7 l/\s=bs l:=by
 refine⟨s.data.toList.map fun b=>(b.toNat:Int),fun x hx=>?_,?_⟩
 ·obtain⟨b,_,rfl⟩:=List.mem_map.1 hx
  have:=b.toNat_lt
  omega
 ·apply ByteArray.ext
  have e:((fun n:Int=>UInt8.ofNat n.toNat)∘fun b:UInt8=>(b.toNat:Int))=id:=by
   funext b
   simp
  simp[bs,e]
def R7:Nat->Int->List Int
 |0,_=>[]
 |n+1,x=>R7 n (x / 256)++[x % 256]
def a0V(l:List Int):Int:=l.foldl (fun a c=>a*256+c) 0
theorem a2J(l:List Int)(c:Int):a0V (l++[c])=a0V l*256+c:=by unfold a0V;rw[List.foldl_append];rfl
theorem F6:∀n x,(R7 n x).length=n
 |0,_=>rfl
 |n+1,x=>by simp only[R7,yG,List.length_singleton,F6 n]
theorem a2C:∀n x,H7 (R7 n x)
 |0,_=>fun y hy=>by simp[R7]at hy
 |n+1,x=>fun y hy=>by
  simp only[R7,List.mem_append,List.mem_singleton]at hy
  rcases hy with hy|rfl
  ·exact a2C n _ y hy
  ·omega
theorem a1s:∀(n:Nat) (l:List Int),l.length=n->H7 l->0<=a0V l/\a0V l<256 ^ n:=by
 intro n
 induction n with
 |zero=>intro l hl _;rw[List.length_eq_zero_iff.1 hl];decide
 |succ n ih=>
  intro l hl hb
  obtain⟨m,c,rfl⟩:∃m c,l=m++[c]:=⟨l.dropLast,l.getLast (by intro h;rw[h]at hl;simp at hl),(List.dropLast_concat_getLast _).symm⟩
  have h1:=ih m (by simpa using hl) fun y hy=>hb y (List.mem_append_left _ hy)
  have h2:=hb c (by simp)
  rw[a2J,Int.pow_succ]
  omega
theorem b7y:∀(n:Nat) (x:Int),0<=x->x<256 ^ n->a0V (R7 n x)=x
 |0,x,h0,h1=>by simp at h1;have:x=0:=by omega
                subst this;rfl
 |n+1,x,h0,h1=>by
  rw[Int.pow_succ]at h1
  simp only[R7]
  rw[a2J,b7y n (x / 256) (by omega) (by omega)]
  omega
theorem b3r:∀(n:Nat) (x:Int) (i:Nat),i<n->(R7 n x)[i]? =some (x / 256 ^ (n-1-i) % 256)
 |0,_,_,h=>by omega
 |n+1,x,i,h=>by
  simp only[R7]
  by_cases e:i<n
  ·rw[List.getElem?_append_left (by rw[F6];exact e),b3r n (x / 256) i e]
   rw[show n+1-1-i=(n-1-i)+1 by omega,Int.pow_succ,Int.mul_comm,<-Int.ediv_ediv_of_nonneg (by decide)]
  ·have:i=n:=by omega
   subst this
   rw[List.getElem?_append_right (by rw[F6];exact yP _),F6,Nat.sub_self]
   simp
def d8j(x:Int):List Int:=R7 8 (x % 18446744073709551616)
theorem a7X(x:Int):H7 (d8j x):=a2C 8 _
theorem d6G{ob:Obj}{o n a k:Nat}{l:List Value}(h:ob.read o n=some l)(hk:a+k<=n):ob.read (o+a) k=some ((l.drop a).take k):=by
 cases ob with
 |cells c t g=>
  simp only[Obj.read]at h ⊢
  split at h
  ·rename_i hle
   obtain rfl:=yA h
   rw[if_pos (by omega)]
   congr 1
   apply List.ext_getElem?
   intro i
   rw[List.getElem?_take,List.getElem?_take,List.getElem?_drop,List.getElem?_drop,List.getElem?_take,List.getElem?_drop]
   by_cases hi:i<k
   ·rw[if_pos hi,if_pos hi,if_pos (by omega),Nat.add_assoc]
   ·rw[if_neg hi,if_neg hi]
  ·simp at h
 |_=>simp[Obj.read]at h
theorem d9p:∀(l:List Int) (a k:Nat),((B8.all l).drop a).take k=B8.all ((l.drop a).take k):=fun l a k=>by
 have e:∀l:List Int,B8.all l=l.map fun x=>Value.int .u8 x:=fun l=>by
  induction l with
  |nil=>rfl
  |cons x t ih=>show Value.int .u8 x::B8.all t=_;rw[ih];rfl
 rw[e,e,<-List.map_drop,<-List.map_take]
theorem e0E(l:List Int):(B8.all l).length=l.length:=by
 have:=B8.all_len l
 rw[show B8.sz=1 from rfl,yS]at this
 exact this
theorem e0K(l:List Int){i:Nat}{x:Int}(hx:l[i]? =some x):(B8.all l)[i]? =some (.int .u8 x):=by
 have e:∀l:List Int,B8.all l=l.map fun x=>Value.int .u8 x:=fun l=>by
  induction l with
  |nil=>rfl
  |cons x t ih=>show Value.int .u8 x::B8.all t=_;rw[ih];rfl
 rw[e,yJ,hx];rfl
def X7(h:Heap)(v:Value)(l:List Int):Prop:=
 (v=.slice none 0 0/\l=[])\/∃b o cap,v=.slice (some ⟨b,o,none⟩) l.length cap/\l.length<=cap/\b<h.next/\(h.obj b).elemOk 5=true/\(h.obj b).read o l.length=some (B8.all l)
theorem X7.old{h h' :Heap}{v:Value}{l:List Int}(s:X7 h v l)(o:Old h h'):X7 h' v l:=by
 rcases s with s| ⟨b,off,cap,h1,h2,h3,h4,h5⟩
 ·exact .inl s
 ·exact .inr ⟨b,off,cap,h1,h2,yN h3 o.next,by rw[o.obj b h3];exact h4,by rw[o.obj b h3];exact h5⟩
theorem X7.val{h:Heap}{v:Value}{l:List Int}(s:X7 h v l):∃a cap,v=.slice a l.length cap/\l.length<=cap:=by
 rcases s with⟨rfl,rfl⟩| ⟨b,off,cap,h1,h2,_⟩
 ·exact⟨none,0,rfl,yP _⟩
 ·exact⟨_,cap,h1,h2⟩
theorem X7.at{h:Heap}{v:Value}{l:List Int}(s:X7 h v l)(hl:0<l.length):∃b o cap,v=.slice (some ⟨b,o,none⟩) l.length cap/\l.length<=cap/\b<h.next/\(h.obj b).elemOk 5=true/\(h.obj b).read o l.length=some (B8.all l):=by
 rcases s with⟨rfl,rfl⟩|s
 ·simp at hl
 ·exact s
theorem X7.get{h:Heap}{l:List Int}{b o cap:Nat}(s:(h.obj b).read o l.length=some (B8.all l)){i:Nat}{x:Int}(hx:l[i]? =some x):(h.obj b).get (o+i)=some (.int .u8 x):=
 a4y s (List.getElem?_eq_some_iff.1 hx).1 (e0K l hx)
theorem X7.sub{h:Heap}{l:List Int}{b o cap:Nat}(hb:b<h.next)(he:(h.obj b).elemOk 5=true)(s:(h.obj b).read o l.length=some (B8.all l))(hc:l.length<=cap)(i j:Nat)(hij:i<=j)(hj:j<=l.length):X7 h (.slice (some ⟨b,o+i,none⟩) (j-i) (cap-i)) ((l.drop i).take (j-i)):=by
 have hlen:((l.drop i).take (j-i)).length=j-i:=by rw[List.length_take,List.length_drop];omega
 refine .inr ⟨b,o+i,cap-i,by rw[hlen],by rw[hlen];omega,hb,he,?_⟩
 rw[hlen,d6G s (by omega),d9p]
theorem Y7.bys{h:Heap}{v:Value}{l:List Int}(s:Y7 h B8 v l):X7 h v l:=by
 rcases s with⟨rfl,rfl⟩| ⟨b,o,cap,rfl,h2,h3,c,t,hob,hend,hat⟩
 ·exact .inl ⟨rfl,rfl⟩
 ·have hs:=Y7.src (E:=B8) (.inr ⟨b,o,cap,rfl,h2,h3,c,t,hob,hend,hat⟩)
  have hb1:B8.sz=1:=rfl
  refine .inr ⟨b,o,cap,rfl,h2,h3,by rw[hob];rfl,?_⟩
  unfold C1 at hs
  simp only[if_true,hob,hb1,yS,d7E]at hs
  rw[hob,M1]
  rw[hb1,yS]at hend
  rw[if_pos (by omega)]
  split at hs
  ·simp only[Option.map_some,yC,yB]at hs
   rw[hs.1];rfl
  ·simp at hs
theorem or_u64'(i:Nat)(x y:Int)(hx0:0<=x)(hx:x % 2 ^ i=0)(hx1:x<18446744073709551616)(hy0:0<=y)(hy:y<2 ^ i)(hy1:y<18446744073709551616):
  IntKind.u64.wrap ((BitVec.ofInt IntKind.u64.bits x |||BitVec.ofInt IntKind.u64.bits y).toNat:Int)=x+y:=
 bits_join .u64 64 (by decide) (b0u 64 (by decide)) i x y hx0 hx (by omega) hy0 hy (by omega)
theorem d7y(h:Heap)(v:Value)(l:List Int)(s:X7 h v l)(hl:l.length<=8)(byt:H7 l){Q:Value->Heap->Prop}(hQ:Q (.int .u64 (a0V l)) h):r8 cp 46 [v] h Q:=by
 obtain⟨a,cap,rfl,hcap⟩:=s.val
 rw[a8 cp e7L]
 simp(disch:=omega)only[c46,↓R46,↓j0,l0,zA,zB,zC,zD,zE,zF,zG,zH,zI,reduceCtorEq,zJ,zK,zL,zM]
 refine y6 cp b0G _ (fun d e hh=>∃i:Nat,i+d=l.length/\hh=h/\e 3=.int .u64 (a0V (l.take i))/\e 6=.slice a l.length cap/\e 7=.int .i64 l.length/\e 8=.int .i64 i) ?_ l.length _ _
  ⟨0,by omega,rfl,rfl,rfl,rfl,rfl⟩
 rintro d e hh ⟨i,hi,rfl,e3,e6,e7,e8⟩
 by_cases ci:i<l.length
 ·have b1:decide ((i:Int)<(l.length:Int))=true:=decide_eq_true (by omega)
  have nx:(i:Int)+1=((i+1:Nat):Int):=by omega
  have hx:l[i]? =some l[i]:=yF ci
  obtain⟨c,hc⟩:∃c,c=l[i]:=⟨_,rfl⟩
  rw[<-hc]at hx
  have cr:=byt c (yK hx)
  obtain⟨b,o,cap',hv,_,_,_,hr⟩:=s.at (by omega)
  simp only[Value.slice.injEq]at hv
  obtain⟨rfl,_,_⟩:=hv
  have hg:=X7.get (cap:=cap) hr hx
  have s8' :=fun x:Int=>b1j .u64 x 8 (by decide)
  have p8:(2:Int) ^ 8=256:=by decide
  have bt:H7 (l.take i):=fun y hy=>byt y (List.mem_of_mem_take hy)
  have il:(l.take i).length=i:=by rw[List.length_take];omega
  have rg:=a1s i _ il bt
  have pw:(256:Int) ^ i<=72057594037927936:=by
   have:i=0\/i=1\/i=2\/i=3\/i=4\/i=5\/i=6\/i=7:=by omega
   rcases this with rfl|rfl|rfl|rfl|rfl|rfl|rfl|rfl<;>decide
  obtain⟨x,hxd⟩:∃x,x=a0V (l.take i):=⟨_,rfl⟩
  rw[<-hxd]at rg e3
  have nxd:a0V (l.take (i+1))=x*256+c:=by rw[H6 hx,a2J,hxd]
  have eor:IntKind.u64.wrap ((BitVec.ofInt IntKind.u64.bits (x*256) |||BitVec.ofInt IntKind.u64.bits c).toNat:Int)=a0V (l.take (i+1)):=by
   rw[nxd]
   exact or_u64' 8 _ _ (by omega) (by rw[p8];omega) (by omega) (by omega) (by rw[p8];omega) (by omega)
  simp(disch:=omega)only[b0G,c46,↓R46,e3,e6,e7,e8,b1,hg,s8',p8,eor,nx,yS,↓j0,l0,zA,zB,zC,zD,zE,zF,zG,zH,zI,reduceCtorEq,zJ,zK,zL,zM]
  refine⟨d-1,by omega,i+1,by omega,rfl,?_⟩
  repeat' first|assumption|rfl|apply And.intro
 ·have b1:decide ((i:Int)<(l.length:Int))=false:=decide_eq_false (by omega)
  obtain rfl:i=l.length:=by omega
  rw[List.take_length]at e3
  simp(disch:=omega)only[b0G,c46,↓R46,e3,e6,e7,e8,b1,↓j0,l0,zA,zB,zC,zD,zE,zF,zG,zH,zI,reduceCtorEq,zJ,zK,zL,zM]
  exact hQ
theorem F1.old{α:Type}{h h' :Heap}{t:TypeId}{E:Enc α}{v:Value}{l:List α}{b:Nat}(V:F1 h t E v l b)(o:Old h h'):F1 h' t E v l b:=V.keep o.next fun hb=>o.obj b hb
theorem F1.src{α:Type}{h:Heap}{t:TypeId}{E:Enc α}{v:Value}{l:List α}{b:Nat}(V:F1 h t E v l b)(hl:0<l.length):C1 h E.sz v=some (E.all l,l.length):=by
 obtain⟨cap,rest,rfl,hb,ho,h4,h5⟩:=V.at hl
 have hm:l.length*E.sz<=(E.all l++rest).length:=by rw[yG,E.all_len];omega
 unfold C1
 simp only[if_true,ho,a0q,Nat.zero_add,hm,List.drop_zero]
 rw[List.take_append_of_le_length (by rw[E.all_len];exact yP _),List.take_of_length_le (by rw[E.all_len];exact yP _)]
 rfl
theorem F1.src0{α:Type}{h:Heap}{t:TypeId}{E:Enc α}{v:Value}{l:List α}{b:Nat}(V:F1 h t E v l b):C1 h E.sz v=some (E.all l,l.length):=by
 by_cases c:0<l.length
 ·exact V.src c
 ·obtain rfl:l=[]:=List.length_eq_zero_iff.1 (by omega)
  rcases V with⟨rfl,_⟩| ⟨cap,rest,rfl,h2,h3,h4,h5⟩
  ·rfl
  ·unfold C1
   simp only[List.length_nil,Nat.zero_mul,if_true,h3,a0q,Nat.zero_add,Nat.zero_le,List.drop_zero,List.take_zero]
   rfl
theorem F1.blk{α:Type}{h:Heap}{t:TypeId}{E:Enc α}{v:Value}{l:List α}{b z o n cap:Nat}(V:F1 h t E v l b)(hv:v=.slice (some ⟨z,o,none⟩) n cap):z=b:=by
 rcases V with⟨rfl,_⟩| ⟨cap,rest,rfl,_⟩
 ·simp at hv
 ·simp at hv;omega
theorem F1.bys{h:Heap}{v:Value}{l:List Int}{b:Nat}(V:F1 h 5 B8 v l b):X7 h v l:=by
 rcases V with⟨rfl,rfl⟩| ⟨cap,rest,rfl,h2,h3,h4,h5⟩
 ·exact .inl ⟨rfl,rfl⟩
 ·have e:=e0E l
  refine .inr ⟨b,0,cap,rfl,h5,h2,by rw[h3];rfl,?_⟩
  rw[h3,M1,if_pos (by rw[yG,e];omega),List.drop_zero,List.take_append_of_le_length (by rw[e];exact yP _),List.take_of_length_le (by rw[e];exact yP _)]
theorem F1.new8{h:Heap}{v:Value}{l:List Int}{b:Nat}(V:F1 h 5 B8 v l b)(ob:Obj):F1 (h.new ob) 5 B8 v l b:=by
 rcases V.ne h.next (yP _)with hv|hne
 ·subst hv
  rcases V with⟨_,hl⟩| ⟨_,_,hv,_⟩
  ·rw[hl];exact F1.nil _ _ _ _
  ·simp at hv
 ·exact V.keep (Nat.le_succ _) fun hb=>b7 _ _ (Ne.symm hne)
theorem a0H{h:Heap}{v:Value}{l:List Int}(s:X7 h v l):A0 (.toStr v) h=some (.string (bs l),h):=by
 rcases s with⟨rfl,rfl⟩| ⟨b,o,cap,rfl,_,_,_,h5⟩
 ·rfl
 ·simp only[A0,if_true,h5,Option.bind_some,a3i]
  rfl
end Go.Proofs.YtlakhgibjfmjjaaGreat.Can
namespace Go.Proofs.YtlakhgibjfmjjaaGreat.Can.Keys
open Go
attribute [local congr] m9 l8 f7 f6 i7 l7 l9 s9 s7
structure KS where
 p:Nat
 bb:Nat
 bs:Nat
 bn:Nat
 n:Nat
 by_:List UInt8
 sz:List Int
 nx:List Int
 fr:Int
 us:Int
structure KS.At(s:KS)(h:Heap):Prop where
 hp:h.obj s.p=.cells [.slice (some ⟨s.bb,0,none⟩) (s.n*64) (s.n*64),.slice (some ⟨s.bs,0,none⟩) s.n s.n,.slice (some ⟨s.bn,0,none⟩) s.n s.n,.int .i32 s.fr,.int .i64 s.us] 191 .fix
 hb:h.obj s.bb=.cells (y8 s.by_) 5 .grow
 hs:h.obj s.bs=.cells (ints .i8 s.sz) 206 .grow
 hn:h.obj s.bn=.cells (ints .i32 s.nx) 21 .grow
 lb:s.by_.length=s.n*64
 ls:s.sz.length=s.n
 ln:s.nx.length=s.n
 d1:s.p≠s.bb
 d2:s.p≠s.bs
 d3:s.p≠s.bn
 d4:s.bb≠s.bs
 d5:s.bb≠s.bn
 d6:s.bs≠s.bn
 nn:s.n<=65536
theorem byteVals_len(l:List UInt8):(y8 l).length=l.length:=by simp[y8]
theorem bytes_len(k:ByteArray):k.data.toList.length=k.size:=by simp
def setB:List UInt8->Nat->List UInt8->List UInt8
 |c,_,[]=>c
 |c,o,v::vs=>setB (c.set o v) (o+1) vs
theorem setB_len:∀(c:List UInt8) (o:Nat) (l:List UInt8),(setB c o l).length=c.length
 |_,_,[]=>rfl
 |c,o,v::vs=>by simp only[setB];rw[setB_len];simp
theorem setAt_bytes:∀(c:List UInt8) (o:Nat) (l:List UInt8),setAt (y8 c) o (y8 l)=y8 (setB c o l)
 |_,_,[]=>rfl
 |c,o,v::vs=>by
  have:y8 (v::vs)=.int .u8 v.toNat::y8 vs:=rfl
  rw[this]
  simp only[setAt,setB]
  rw[<-setAt_bytes (c.set o v) (o+1) vs]
  simp[y8,List.map_set]
structure Kept(h h' :Heap)(A:List Nat):Prop where
 next:h'.next=h.next
 obj:∀b,b∉A->h'.obj b=h.obj b
def KS.own(s:KS):List Nat:=[s.p,s.bb,s.bs,s.bn]
def KS.put(s:KS)(i:Nat)(v:Int)(key:ByteArray):KS:=
 { s with by_:=setB s.by_ (i*64) key.data.toList,sz:=s.sz.set i key.size,fr:=v,us:=s.us+1 }
theorem put_ok{h:Heap}{s:KS}(hs:s.At h)(key:ByteArray)(i:Nat)(v:Int){Q:Value->Heap->Prop}
  (hf:s.fr=i) (hfn:i<s.n) (hk:key.size<=64) (hv:s.nx[i]? =some v) (hu:0<=s.us) (hun:s.us<s.n)
  (hQ:∀h',(s.put i v key).At h' ->Kept h h' s.own->Q (.int .i64 i) h'):
  r8 cp 168 [.pointer (some ⟨s.p,0,none⟩),.string key] h Q:=by
 rw[a8 cp e4i]
 obtain⟨p,bb,bs,bn,n,by_,sz,nx,fr,us⟩:=s
 obtain⟨hp,hb,hs,hn,lb,ls,ln,d1,d2,d3,d4,d5,d6,nn⟩:=hs
 simp only at*
 subst hf
 have a1:decide ((i:Int)<0)=false:=by simp
 have a2:decide ((key.size:Int)>64)=false:=by simp;omega
 have g1:=B0 .i32 nx hv
 have w1:IntKind.i64.wrap (i*64)=((i*64:Nat):Int):=by rw[N3]<;>omega
 have w2:min key.size (n*64-i*64)=key.size:=by omega
 have lb' :(y8 by_).length=n*64:=by simp[y8,lb]
 have e1:key.extract 0 key.size=key:=by simp
 simp(disch:=omega)only[d7O,↓e8g,hp,hb,hs,hn,a1,a2,g1,w1,w2,C1,e1,lb',byteVals_len,bytes_len,setAt_bytes,E9,↓j0,l0,zA,zB,zC,zD,zE,zF,zG,zH,zI,reduceCtorEq,zJ,zK,zL,zM]
 have d1' :=d1.symm;have d2' :=d2.symm;have d3' :=d3.symm;have d4' :=d4.symm;have d5' :=d5.symm;have d6' :=d6.symm
 refine hQ _ ⟨?_,?_,?_,?_,?_,?_,?_,d1,d2,d3,d4,d5,d6,nn⟩ ⟨rfl,fun b hb=>?_⟩
 ·simp[Heap.upd,KS.put]
 ·simp[Heap.upd,KS.put,d1',d4]
 ·simp[Heap.upd,KS.put,d2']
 ·simp[Heap.upd,KS.put,d3',d5',d6',hn]
 ·simp[KS.put,setB_len,lb]
 ·simp[KS.put,ls]
 ·simp[KS.put,ln]
 ·simp only[KS.own,List.mem_cons,List.not_mem_nil,or_false,not_or]at hb
  simp[Heap.upd,hb]
theorem len_ok{h:Heap}{s:KS}(hs:s.At h)(Q:Value->Heap->Prop):r8 cp 100 [.pointer (some ⟨s.p,0,none⟩)] h Q↔Q (.int .i64 s.n) h:=by
 refine p6 ?_ Q
 rw[a8 cp e5W]
 have hp:=hs.hp
 simp(disch:=omega)only[d9a,↓e6s,hp,↓j0,l0,zA,zB,zC,zD,zE,zF,zG,zH,zI,reduceCtorEq,zJ,zK,zL,zM]
theorem used_ok{h:Heap}{s:KS}(hs:s.At h)(Q:Value->Heap->Prop):r8 cp 70 [.pointer (some ⟨s.p,0,none⟩)] h Q↔Q (.int .i64 s.us) h:=by
 refine p6 ?_ Q
 rw[a8 cp e7C]
 have hp:=hs.hp
 simp(disch:=omega)only[c70,↓R70,hp,↓j0,l0,zA,zB,zC,zD,zE,zF,zG,zH,zI,reduceCtorEq,zJ,zK,zL,zM]
def KS.has(s:KS)(i:Int):Bool:=decide (0<=i) && decide (i<s.n) && decide (0<=s.sz.getD i.toNat (-1))
theorem has_ok{h:Heap}{s:KS}(hs:s.At h)(i:Int)(Q:Value->Heap->Prop):r8 cp 177 [.pointer (some ⟨s.p,0,none⟩),.int .i64 i] h Q↔Q (.bool (s.has i)) h:=by
 refine p6 ?_ Q
 rw[a8 cp e4b]
 have hp:=hs.hp
 have hl:=len_ok hs
 by_cases h1:0<=i
 ·have a1:decide (i>=0)=true:=by simp[h1]
  by_cases h2:i<s.n
  ·obtain⟨k,rfl⟩:=Int.eq_ofNat_of_zero_le h1
   have hk:k<s.sz.length:=by have:=hs.ls;omega
   have a2:decide ((k:Int)<s.n)=true:=by simp;omega
   have g1:=B0 .i8 s.sz (yF hk)
   have hz:=hs.hs
   have e1:s.has k=decide (s.sz[k]>=0):=by
    unfold KS.has
    simp only[h1,h2,decide_true,Bool.true_and,Int.toNat_natCast,List.getD_eq_getElem?_getD,yF hk,Option.getD_some,ge_iff_le]
   simp(disch:=omega)only[c5s,↓e0I,a1,a2,hl,hp,hz,g1,↓j0,l0,zA,zB,zC,zD,zE,zF,zG,zH,zI,reduceCtorEq,zJ,zK,zL,zM]
   rw[e1]
  ·have a2:decide (i<s.n)=false:=by simp;omega
   have e1:s.has i=false:=by unfold KS.has;simp[h2]
   simp(disch:=omega)only[c5s,↓e0I,a1,a2,hl,e1,↓j0,l0,zA,zB,zC,zD,zE,zF,zG,zH,zI,reduceCtorEq,zJ,zK,zL,zM]
 ·have a1:decide (i>=0)=false:=by simp;omega
  have e1:s.has i=false:=by unfold KS.has;simp[h1]
  simp(disch:=omega)only[c5s,↓e0I,a1,e1,↓j0,l0,zA,zB,zC,zD,zE,zF,zG,zH,zI,reduceCtorEq,zJ,zK,zL,zM]
theorem has_inv{s:KS}{i:Int}(h:s.has i=true):∃k z:Nat,i=k/\k<s.n/\s.sz[k]? =some (z:Int):=by
 unfold KS.has at h
 simp only[Bool.and_eq_true,decide_eq_true_eq]at h
 obtain⟨⟨h1,h2⟩,h3⟩:=h
 obtain⟨k,rfl⟩:=Int.eq_ofNat_of_zero_le h1
 refine⟨k,(s.sz.getD k (-1)).toNat,rfl,by omega,?_⟩
 simp only[Int.toNat_natCast,List.getD_eq_getElem?_getD]at h3 ⊢
 cases hq:s.sz[k]? with
 |none=>rw[hq]at h3;simp at h3
 |some x=>rw[hq]at h3;simp only[Option.getD_some]at h3 ⊢;congr 1;omega
theorem byteVals_drop(l:List UInt8)(n:Nat):(y8 l).drop n=y8 (l.drop n):=by simp[y8]
theorem byteVals_take(l:List UInt8)(n:Nat):(y8 l).take n=y8 (l.take n):=by simp[y8]
theorem bytesOf_vals:∀(l:List UInt8),bytesOf (y8 l)=some l
 | []=>rfl
 |b::l=>by
  have:y8 (b::l)=.int .u8 b.toNat::y8 l:=rfl
  rw[this]
  simp only[bytesOf,bytesOf_vals l,Option.map_some]
  simp
def KS.key(s:KS)(k z:Nat):ByteArray:=⟨((s.by_.drop (k*64)).take z).toArray⟩
theorem key_no{h:Heap}{s:KS}(hs:s.At h){i:Int}(hi:s.has i=false)(Q:Value->Heap->Prop):r8 cp 166 [.pointer (some ⟨s.p,0,none⟩),.int .i64 i] h Q↔Q (.tuple #[.string ⟨#[]⟩,.bool false]) h:=by
 refine p6 ?_ Q
 rw[a8 cp d9D]
 have hh:=has_ok hs i
 simp(disch:=omega)only[d2r,↓e1R,hh,hi,↓j0,l0,zA,zB,zC,zD,zE,zF,zG,zH,zI,reduceCtorEq,zJ,zK,zL,zM]
theorem key_ok{h:Heap}{s:KS}(hs:s.At h){k z:Nat}(hk:k<s.n)(hz:s.sz[k]? =some (z:Int))(hz64:z<=64)(Q:Value->Heap->Prop):
  r8 cp 166 [.pointer (some ⟨s.p,0,none⟩),.int .i64 k] h Q↔Q (.tuple #[.string (s.key k z),.bool true]) h:=by
 refine p6 ?_ Q
 rw[a8 cp d9D]
 have hh:=has_ok hs k
 have hi:s.has k=true:=by unfold KS.has;simp[hk,List.getD_eq_getElem?_getD,hz]
 have hp:=hs.hp
 have hzz:=hs.hs
 have hb:=hs.hb
 have lb:=hs.lb
 have nn:=hs.nn
 have g1:=B0 .i8 s.sz hz
 have w1:IntKind.i64.wrap (k*64)=((k*64:Nat):Int):=by rw[N3]<;>omega
 have w2:IntKind.i64.wrap (((k*64:Nat):Int)+z)=((k*64+z:Nat):Int):=by rw[N3]<;>omega
 have e1:k*64+z-k*64=z:=by omega
 simp(disch:=omega)only[d2r,↓e1R,hh,hi,hp,hzz,hb,g1,w1,w2,e1,byteVals_len,byteVals_drop,byteVals_take,bytesOf_vals,↓j0,l0,zA,zB,zC,zD,zE,zF,zG,zH,zI,reduceCtorEq,zJ,zK,zL,zM]
 first|trivial|exact⟨rfl,trivial⟩
theorem is_ok{h:Heap}{s:KS}(hs:s.At h){k z:Nat}(hk:k<s.n)(hz:s.sz[k]? =some (z:Int))(hz64:z<=64)(key:ByteArray)(Q:Value->Heap->Prop):
  r8 cp 176 [.pointer (some ⟨s.p,0,none⟩),.int .i64 k,.string key] h Q↔Q (.bool ((s.key k z).toList==key.toList)) h:=by
 refine p6 ?_ Q
 rw[a8 cp e1B]
 have hh:=has_ok hs k
 have hi:s.has k=true:=by unfold KS.has;simp[hk,List.getD_eq_getElem?_getD,hz]
 have hp:=hs.hp
 have hzz:=hs.hs
 have hb:=hs.hb
 have lb:=hs.lb
 have nn:=hs.nn
 have g1:=B0 .i8 s.sz hz
 have w1:IntKind.i64.wrap (k*64)=((k*64:Nat):Int):=by rw[N3]<;>omega
 have w2:IntKind.i64.wrap (((k*64:Nat):Int)+z)=((k*64+z:Nat):Int):=by rw[N3]<;>omega
 have e1:k*64+z-k*64=z:=by omega
 simp(disch:=omega)only[d8X,↓e6R,hh,hi,hp,hzz,hb,g1,w1,w2,e1,byteVals_len,byteVals_drop,byteVals_take,bytesOf_vals,a5E,↓j0,l0,zA,zB,zC,zD,zE,zF,zG,zH,zI,reduceCtorEq,zJ,zK,zL,zM]
 first|trivial|exact⟨rfl,trivial⟩
def KS.free(s:KS)(k:Nat):KS:={ s with sz:=s.sz.set k (-1),nx:=s.nx.set k s.fr,fr:=k,us:=s.us-1 }
theorem free_ok{h:Heap}{s:KS}(hs:s.At h){k z:Nat}(hk:k<s.n)(hz:s.sz[k]? =some (z:Int))(hu:0<s.us)(hu2:s.us<=s.n){Q:Value->Heap->Prop}
  (hQ:∀h',(s.free k).At h' ->Kept h h' s.own->Q (.tuple #[]) h'):
  r8 cp 178 [.pointer (some ⟨s.p,0,none⟩),.int .i64 k] h Q:=by
 rw[a8 cp e3A]
 have hh:=has_ok hs k
 have hi:s.has k=true:=by unfold KS.has;simp[hk,List.getD_eq_getElem?_getD,hz]
 obtain⟨p,bb,bs,bn,n,by_,sz,nx,fr,us⟩:=s
 obtain⟨hp,hb,hs,hn,lb,ls,ln,d1,d2,d3,d4,d5,d6,nn⟩:=hs
 simp only at*
 have w1:IntKind.i32.wrap k=k:=by rw[a6o]<;>omega
 simp(disch:=omega)only[d8G,↓e6z,hh,hi,hp,hb,hs,hn,w1,E9,↓j0,l0,zA,zB,zC,zD,zE,zF,zG,zH,zI,reduceCtorEq,zJ,zK,zL,zM]
 have d1' :=d1.symm;have d2' :=d2.symm;have d3' :=d3.symm;have d4' :=d4.symm;have d5' :=d5.symm;have d6' :=d6.symm
 refine hQ _ ⟨?_,?_,?_,?_,?_,?_,?_,d1,d2,d3,d4,d5,d6,nn⟩ ⟨rfl,fun b hb=>?_⟩
 ·simp[Heap.upd,KS.free]
 ·simp[Heap.upd,KS.free,d1',d4,d5,hb]
 ·simp[Heap.upd,KS.free,d2',d6]
 ·simp[Heap.upd,KS.free,d3']
 ·simp[KS.free,lb]
 ·simp[KS.free,ls]
 ·simp[KS.free,ln]
 ·simp only[KS.own,List.mem_cons,List.not_mem_nil,or_false,not_or]at hb
  simp[Heap.upd,hb]
def nxs(n:Nat):List Int:=(List.range n).map fun i=>if i+1=n then-1 else(i:Int)+1
def KS.stage(b n d:Nat):KS:=⟨b+3,b,b+1,b+2,n,List.replicate (n*64) 0,List.replicate d 0++List.replicate (n-d) (-1),List.replicate d 0++(nxs n).drop d,if d=n then-1 else d,0⟩
theorem nxs_len(n:Nat):(nxs n).length=n:=by simp[nxs]
theorem nxs_drop{n d:Nat}(h:d<n):(nxs n).drop d=(if d+1=n then-1 else(d:Int)+1)::(nxs n).drop (d+1):=by
 have hd:d<(nxs n).length:=by rw[nxs_len];exact h
 rw[List.drop_eq_getElem_cons hd]
 simp[nxs]
theorem set_rep{α:Type}(d:Nat)(x y:α)(l:List α):(List.replicate (d+1) x++l).set d y=List.replicate d x++y::l:=by
 rw[List.replicate_succ',List.append_assoc,List.set_append_right _ _ (by simp)]
 simp
theorem reps_byte:∀(n:Nat),F8 n [.int .u8 0]=y8 (List.replicate n 0)
 |0=>rfl
 |n+1=>by simp only[F8,reps_byte n];rfl
theorem J9(k:IntKind):∀(n:Nat),F8 n [.int k 0]=ints k (List.replicate n 0)
 |0=>rfl
 |n+1=>by simp only[F8,J9 k n];rfl
theorem b5m(h:Heap)(n:Nat)(hn:n<=65536){Q:Value->Heap->Prop}
  (hQ:∀h',(KS.stage h.next n 0).At h' ->h'.next=h.next+4->(∀b,b<h.next->h'.obj b=h.obj b)->Q (.pointer (some ⟨h.next+3,0,none⟩)) h'):
  r8 cp 92 [.int .i64 n] h Q:=by
 rw[a8 cp e7Z]
 have a1:decide ((n:Int)<0)=false:=by simp
 have a2:decide ((n:Int)>65536)=false:=by simp;omega
 have w1:IntKind.i64.wrap (n*64)=((n*64:Nat):Int):=by rw[N3]<;>omega
 simp(disch:=omega)only[c92,↓R92,a1,a2,w1,and_true,true_and,reps_byte,J9 .i8,J9 .i32,u5,↓j0,l0,zA,zB,zC,zD,zE,zF,zG,zH,zI,reduceCtorEq,zJ,zK,zL,zM]
 refine y6 cp b0p _ (fun d e hh=>e 3=.pointer (some ⟨h.next+3,0,none⟩)/\e 4=.int .i64 ((d:Int)-1)/\d<=n/\(KS.stage h.next n d).At hh/\hh.next=h.next+4/\∀b,b<h.next->hh.obj b=h.obj b) ?_ n _ _ ?_
 ·rintro d e hh ⟨e3,e4,hd,hAt,hnx,hold⟩
  cases d with
  |zero=>
   have b1:decide (((0:Nat):Int)-1>=0)=false:=by decide
   simp(disch:=omega)only[b0p,c92,↓R92,e3,e4,b1,↓j0,l0,zA,zB,zC,zD,zE,zF,zG,zH,zI,reduceCtorEq,zJ,zK,zL,zM]
   exact hQ hh hAt hnx hold
  |succ d=>
   have b1:decide (((d+1:Nat):Int)-1>=0)=true:=by simp
   have b2:((d+1:Nat):Int)-1=(d:Int):=by omega
   have w2:IntKind.i32.wrap (d:Int)=d:=by rw[a6o]<;>omega
   obtain⟨hp,hb,hs,hn',lb,ls,ln,d1,d2,d3,d4,d5,d6,nn⟩:=hAt
   rw[b2]at e4 b1
   simp only[KS.stage]at hp hb hs hn' lb ls ln d1 d2 d3 d4 d5 d6
   simp(disch:=omega)only[b0p,c92,↓R92,e3,e4,b1,hp,hb,hs,hn',ls,ln,w2,E9,set_rep,↓j0,l0,zA,zB,zC,zD,zE,zF,zG,zH,zI,reduceCtorEq,zJ,zK,zL,zM]
   have hdn:d≠n:=by omega
   have r1: -1::List.replicate (n-(d+1)) (-1:Int)=List.replicate (n-d) (-1):=by
    rw[show n-d=(n-(d+1))+1 by omega,List.replicate_succ]
   have r2:(if d+1=n then(-1:Int)else((d+1:Nat):Int))::(nxs n).drop (d+1)=(nxs n).drop d:=by
    rw[nxs_drop (n:=n) (d:=d) (by omega)];rfl
   rw[r1,r2]
   refine⟨d,by omega,rfl,by omega,⟨?_,?_,?_,?_,?_,?_,?_,d1,d2,d3,d4,d5,d6,nn⟩,hnx,fun b hb=>?_⟩
   ·simp[Heap.upd,KS.stage,hdn]
   ·simp[Heap.upd,KS.stage,hb]
   ·simp[Heap.upd,KS.stage]
   ·simp[Heap.upd,KS.stage]
   ·simp[KS.stage]
   ·simp[KS.stage];omega
   ·simp[KS.stage,nxs_len];omega
   ·have h1:b≠h.next+1:=by omega
    have h2:b≠h.next+2:=by omega
    have h3:b≠h.next+3:=by omega
    simp[Heap.upd,h1,h2,h3,hold b hb]
 ·refine⟨rfl,rfl,yP _,⟨?_,?_,?_,?_,?_,?_,?_,?_,?_,?_,?_,?_,?_,hn⟩,rfl,fun b hb=>?_⟩
  ·simp[Heap.new,KS.stage]
  ·simp only[Heap.new,KS.stage]
   rw[if_neg (by omega),if_neg (by omega),if_neg (by omega),if_pos trivial]
  ·simp[Heap.new,KS.stage]
  ·simp[Heap.new,KS.stage,List.drop_eq_nil_of_le (Nat.le_of_eq (nxs_len n))]
  ·simp[KS.stage]
  ·simp[KS.stage]
  ·simp[KS.stage,nxs_len]
  ·simp[KS.stage]
  ·simp[KS.stage]
  ·simp[KS.stage]
  ·simp[KS.stage]
  ·simp[KS.stage]
  ·simp[KS.stage]
  ·have h0:b≠h.next:=by omega
   have h1:b≠h.next+1:=by omega
   have h2:b≠h.next+1+1:=by omega
   have h3:b≠h.next+1+1+1:=by omega
   simp[Heap.new,h0,h1,h2,h3]
theorem setB_get:∀(l:List UInt8) (c:List UInt8) (o j:Nat),(setB c o l)[j]? =if o<=j/\j<o+l.length/\j<c.length then l[j-o]? else c[j]?
 | [],c,o,j=>by
  rw[if_neg (by simp only[List.length_nil];omega)];rfl
 |v::vs,c,o,j=>by
  simp only[setB]
  rw[setB_get vs (c.set o v) (o+1) j]
  simp only[List.length_set,yM,List.getElem?_set]
  by_cases h1:o+1<=j/\j<o+1+vs.length/\j<c.length
  ·rw[if_pos h1,if_pos (by omega),show j-o=(j-(o+1))+1 by omega,List.getElem?_cons_succ]
  ·rw[if_neg h1]
   by_cases h2:o=j
   ·subst h2
    by_cases h3:o<c.length
    ·rw[if_pos (show o<=o/\o<o+(vs.length+1)/\o<c.length by omega),Nat.sub_self]
     simp[h3]
    ·rw[if_neg (show ¬(o<=o/\o<o+(vs.length+1)/\o<c.length) by omega)]
     simp[h3]
   ·rw[if_neg (show ¬(o<=j/\j<o+(vs.length+1)/\j<c.length) by omega)]
    simp[h2]
def Link(nx:List Int):List Nat->Prop
 | []=>True
 | [i]=>nx[i]? =some (-1)
 |i::j::r=>nx[i]? =some (j:Int)/\Link nx (j::r)
def first:List Nat->Int
 | []=> -1
 |i::_=>i
def kset(f:Nat->Option ByteArray)(i:Nat)(v:Option ByteArray):Nat->Option ByteArray:=fun k=>if k=i then v else f k
structure KS.Good(s:KS)(keys:Nat->Option ByteArray)(fl:List Nat):Prop where
 fr:s.fr=first fl
 link:Link s.nx fl
 nodup:fl.Nodup
 lt:∀i∈fl,i<s.n
 free:∀i,i<s.n->(i∈fl↔keys i=none)
 gone:∀i,i<s.n->keys i=none->s.sz[i]? =some (-1)
 held:∀i k,i<s.n->keys i=some k->s.sz[i]? =some (k.size:Int)/\k.size<=64/\s.key i k.size=k
 us:s.us=(s.n:Int)-fl.length
 le:fl.length<=s.n
theorem Link.tail{nx:List Int}{i:Nat}{r:List Nat}(h:Link nx (i::r)):nx[i]? =some (first r)/\Link nx r:=by
 cases r with
 |nil=>exact⟨h,trivial⟩
 |cons j r=>exact h
theorem Link.set{nx:List Int}{k:Nat}{v:Int}:∀{l:List Nat},k∉l->Link nx l->Link (nx.set k v) l
 | [],_,_=>trivial
 | [i],hk,h=>by
  simp only[List.mem_singleton]at hk
  show(nx.set k v)[i]? =_
  rw[yI hk];exact h
 |i::j::r,hk,h=>by
  simp only[List.mem_cons,not_or]at hk
  refine⟨?_,Link.set (by simp only[List.mem_cons,not_or];exact hk.2) h.2⟩
  rw[yI hk.1];exact h.1
theorem Link.cons{nx:List Int}{i:Nat}{r:List Nat}(h:nx[i]? =some (first r))(hr:Link nx r):Link nx (i::r):=by
 cases r with
 |nil=>exact h
 |cons j r=>exact⟨h,hr⟩
theorem good_put{s:KS}{keys:Nat->Option ByteArray}{i:Nat}{fl:List Nat}(g:s.Good keys (i::fl))(lb:s.by_.length=s.n*64)(ls:s.sz.length=s.n){key:ByteArray}(hk:key.size<=64):(s.put i (first fl) key).Good (kset keys i (some key)) fl:=by
 have hi:=g.lt i List.mem_cons_self
 have hni:i∉fl:=(List.nodup_cons.1 g.nodup).1
 have hle:=g.le
 have hus:=g.us
 simp only[yM]at hle hus
 refine⟨rfl,g.link.tail.2,(List.nodup_cons.1 g.nodup).2,fun k hk=>g.lt k (List.mem_cons_of_mem _ hk),fun k hkn=>?_,fun k hkn hkk=>?_,fun k key' hkn hkk=>?_,?_,show fl.length<=s.n by omega⟩
 ·unfold kset
  by_cases hki:k=i
  ·subst hki;simp[hni]
  ·rw[if_neg hki,<-g.free k hkn];simp[hki]
 ·unfold kset at hkk
  split at hkk
  ·simp at hkk
  ·rename_i hki
   show(s.sz.set i _)[k]? =_
   rw[yI (fun h=>hki h.symm)];exact g.gone k hkn hkk
 ·unfold kset at hkk
  split at hkk
  ·rename_i hki
   obtain rfl:=yA hkk
   subst hki
   refine⟨?_,hk,?_⟩
   ·show(s.sz.set k _)[k]? =_
    rw[yH (by rw[ls];exact hkn)]
   ·show(⟨(((setB s.by_ (k*64) key.data.toList).drop (k*64)).take key.size).toArray⟩:ByteArray)=key
    have:((setB s.by_ (k*64) key.data.toList).drop (k*64)).take key.size=key.data.toList:=by
     apply List.ext_getElem?
     intro j
     rw[List.getElem?_take,List.getElem?_drop,setB_get]
     have hks:key.data.toList.length=key.size:=by simp
     by_cases hj:j<key.size
     ·rw[if_pos hj,if_pos (by change k<s.n at hkn;omega),Nat.add_sub_cancel_left]
     ·rw[if_neg hj,List.getElem?_eq_none (by omega)]
    rw[this]
  ·rename_i hki
   obtain⟨h1,h2,h3⟩:=g.held k key' hkn hkk
   refine⟨?_,h2,?_⟩
   ·show(s.sz.set i _)[k]? =_
    rw[yI (fun h=>hki h.symm)];exact h1
   ·have:(s.put i (first fl) key).key k key'.size=s.key k key'.size:=by
     unfold KS.key
     congr 2
     apply List.ext_getElem?
     intro j
     have hks:key.data.toList.length=key.size:=by simp
     rw[List.getElem?_take,List.getElem?_take,List.getElem?_drop,List.getElem?_drop]
     split
     ·show(setB s.by_ (i*64) key.data.toList)[k*64+j]? =_
      rw[setB_get,if_neg (by rw[hks];intro hc;rcases Nat.lt_or_gt_of_ne hki with h|h<;>omega)]
     ·rfl
    rw[this];exact h3
 ·show s.us+1=_
  rw[hus];simp only[KS.put];omega
theorem nodup_le:∀(n:Nat) (l:List Nat),l.Nodup->(∀x∈l,x<n)->l.length<=n
 |0,[],_,_=>yP _
 |0,x::l,_,h=>by have:=h x List.mem_cons_self;omega
 |n+1,l,hd,h=>by
  have h1:=nodup_le n (l.erase n) (hd.erase n) fun x hx=>by
   have h2:=(hd.mem_erase_iff).1 hx
   have h3:=h x h2.2
   have h4:=h2.1
   omega
  have h2:=List.length_erase (l:=l) (a:=n)
  split at h2<;>omega
theorem good_free{s:KS}{keys:Nat->Option ByteArray}{k:Nat}{fl:List Nat}(g:s.Good keys fl)(ls:s.sz.length=s.n)(ln:s.nx.length=s.n)(hk:k<s.n){key:ByteArray}(hkey:keys k=some key):(s.free k).Good (kset keys k none) (k::fl):=by
 have hni:k∉fl:=fun h=>by rw[(g.free k hk).1 h]at hkey;simp at hkey
 have hle:=g.le
 have hus:=g.us
 have hlt:fl.length<s.n:=by
  rcases Nat.lt_or_ge fl.length s.n with h|h
  ·exact h
  ·exfalso
   have h3:=nodup_le s.n (k::fl) (List.nodup_cons.2 ⟨hni,g.nodup⟩) fun x hx=>by
    rcases List.mem_cons.1 hx with rfl|hx
    ·exact hk
    ·exact g.lt x hx
   simp only[yM]at h3
   omega
 refine⟨rfl,?_,List.nodup_cons.2 ⟨hni,g.nodup⟩,fun i hi=>?_,fun i hin=>?_,fun i hin hii=>?_,fun i key' hin hii=>?_,?_,?_⟩
 ·refine Link.cons ?_ (Link.set hni g.link)
  show(s.nx.set k s.fr)[k]? =_
  rw[yH (by rw[ln];exact hk),g.fr]
 ·rcases List.mem_cons.1 hi with rfl|hi
  ·exact hk
  ·exact g.lt i hi
 ·unfold kset
  by_cases hki:i=k
  ·subst hki;simp
  ·rw[if_neg hki,<-g.free i hin];simp[hki]
 ·unfold kset at hii
  show(s.sz.set k (-1))[i]? =_
  split at hii
  ·rename_i h;subst h;rw[yH (by rw[ls];exact hk)]
  ·rename_i h;rw[yI (fun h' =>h h'.symm)];exact g.gone i hin hii
 ·unfold kset at hii
  split at hii
  ·simp at hii
  ·rename_i h
   obtain⟨h1,h2,h3⟩:=g.held i key' hin hii
   refine⟨?_,h2,h3⟩
   show(s.sz.set k (-1))[i]? =_
   rw[yI (fun h' =>h h'.symm)];exact h1
 ·show s.us-1=_
  rw[hus];simp only[KS.free,yM];omega
 ·simp only[KS.free,yM];omega
theorem link_nxs(n:Nat):∀(m d:Nat),d+m=n->Link (nxs n) (List.range' d m)
 |0,d,h=>trivial
 |m+1,d,h=>by
  rw[List.range'_succ]
  refine Link.cons ?_ (link_nxs n m (d+1) (by omega))
  have hd:(nxs n)[d]? =some (if d+1=n then-1 else(d:Int)+1):=by simp[nxs,show d<n by omega]
  rw[hd]
  cases m with
  |zero=>rw[if_pos (by omega)];rfl
  |succ m=>rw[if_neg (by omega),List.range'_succ];rfl
theorem good_new(b n:Nat):(KS.stage b n 0).Good (fun _=>none) (List.range n):=by
 refine⟨?_,?_,List.nodup_range,fun i hi=>List.mem_range.1 hi,fun i hi=>?_,fun i hi _=>?_,fun i k hi hk=>by simp at hk,?_,?_⟩
 ·simp only[KS.stage]
  cases n with
  |zero=>rfl
  |succ n=>rw[if_neg (by omega),List.range_succ_eq_map];rfl
 ·have:=link_nxs n n 0 (by omega)
  rw[List.range_eq_range']
  simpa [KS.stage]using this
 ·simp[KS.stage]at hi ⊢;exact hi
 ·have hi' :i<n:=hi
  simp[KS.stage,hi']
 ·simp[KS.stage]
 ·simp[KS.stage]
def Store(h:Heap)(p:Nat)(A:List Nat)(n:Nat)(keys:Nat->Option ByteArray)(fl:List Nat):Prop:=
 ∃s:KS,s.p=p/\s.own=A/\s.n=n/\s.At h/\s.Good keys fl
section
variable {h:Heap} {p:Nat} {A:List Nat} {n:Nat} {keys:Nat->Option ByteArray} {fl:List Nat}
theorem st_new(h:Heap)(n:Nat)(hn:n<=65536){Q:Value->Heap->Prop}
  (hQ:∀h',Store h' (h.next+3) [h.next+3,h.next,h.next+1,h.next+2] n (fun _=>none) (List.range n)->h'.next=h.next+4->(∀b,b<h.next->h'.obj b=h.obj b)->Q (.pointer (some ⟨h.next+3,0,none⟩)) h'):
  r8 cp 92 [.int .i64 n] h Q:=
 b5m h n hn fun h' hs hnx ho=>hQ h' ⟨_,rfl,rfl,rfl,hs,good_new h.next n⟩ hnx ho
theorem st_put{i:Nat}(S:Store h p A n keys (i::fl)){key:ByteArray}(hk:key.size<=64){Q:Value->Heap->Prop}
  (hQ:∀h',Store h' p A n (kset keys i (some key)) fl->Kept h h' A->Q (.int .i64 i) h'):r8 cp 168 [.pointer (some ⟨p,0,none⟩),.string key] h Q:=by
 obtain⟨s,rfl,rfl,rfl,hs,g⟩:=S
 have hi:=g.lt i List.mem_cons_self
 have hle:=g.le
 have hus:=g.us
 simp only[yM]at hle hus
 exact put_ok hs key i (first fl) g.fr hi hk g.link.tail.1 (by omega) (by omega) fun h' hs' k=>hQ h' ⟨s.put i (first fl) key,rfl,rfl,rfl,hs',good_put g hs.lb hs.ls hk⟩ k
theorem has_keys{s:KS}(g:s.Good keys fl){k:Nat}(hk:k<s.n):s.has k=(keys k).isSome:=by
 unfold KS.has
 simp only[Int.toNat_natCast,List.getD_eq_getElem?_getD]
 cases hq:keys k with
 |none=>rw[g.gone k hk hq];simp
 |some key=>rw[(g.held k key hk hq).1];simp;omega
def NoKey(n:Nat)(keys:Nat->Option ByteArray)(i:Int):Prop:=∀k:Nat,i=k->k<n->keys k=none
theorem has_no{s:KS}(g:s.Good keys fl){i:Int}(hi:NoKey s.n keys i):s.has i=false:=by
 cases hq:s.has i with
 |false=>rfl
 |true=>
  obtain⟨k,z,rfl,hk,hz⟩:=has_inv hq
  have:=hi k rfl hk
  rw[has_keys g hk,this]at hq
  simp at hq
theorem st_free(S:Store h p A n keys fl){k:Nat}(hk:k<n){key:ByteArray}(hkey:keys k=some key){Q:Value->Heap->Prop}
  (hQ:∀h',Store h' p A n (kset keys k none) (k::fl)->Kept h h' A->Q (.tuple #[]) h'):r8 cp 178 [.pointer (some ⟨p,0,none⟩),.int .i64 k] h Q:=by
 obtain⟨s,rfl,rfl,rfl,hs,g⟩:=S
 have g' :=good_free g hs.ls hs.ln hk hkey
 have h1:=g'.le
 have h2:=g.us
 simp only[yM]at h1
 change fl.length+1<=s.n at h1
 exact free_ok hs hk (g.held k key hk hkey).1 (by omega) (by omega) fun h' hs' kp=>hQ h' ⟨s.free k,rfl,rfl,rfl,hs',g'⟩ kp
theorem st_key(S:Store h p A n keys fl){k:Nat}(hk:k<n){key:ByteArray}(hkey:keys k=some key)(Q:Value->Heap->Prop):r8 cp 166 [.pointer (some ⟨p,0,none⟩),.int .i64 k] h Q↔Q (.tuple #[.string key,.bool true]) h:=by
 obtain⟨s,rfl,rfl,rfl,hs,g⟩:=S
 obtain⟨h1,h2,h3⟩:=g.held k key hk hkey
 rw[key_ok hs hk h1 h2,h3]
theorem st_key_no(S:Store h p A n keys fl){i:Int}(hi:NoKey n keys i)(Q:Value->Heap->Prop):r8 cp 166 [.pointer (some ⟨p,0,none⟩),.int .i64 i] h Q↔Q (.tuple #[.string ⟨#[]⟩,.bool false]) h:=by
 obtain⟨s,rfl,rfl,rfl,hs,g⟩:=S
 exact key_no hs (has_no g hi) Q
theorem st_is(S:Store h p A n keys fl){k:Nat}(hk:k<n){key:ByteArray}(hkey:keys k=some key)(x:ByteArray)(Q:Value->Heap->Prop):r8 cp 176 [.pointer (some ⟨p,0,none⟩),.int .i64 k,.string x] h Q↔Q (.bool (key.toList==x.toList)) h:=by
 obtain⟨s,rfl,rfl,rfl,hs,g⟩:=S
 obtain⟨h1,h2,h3⟩:=g.held k key hk hkey
 rw[is_ok hs hk h1 h2,h3]
theorem st_len(S:Store h p A n keys fl)(Q:Value->Heap->Prop):r8 cp 100 [.pointer (some ⟨p,0,none⟩)] h Q↔Q (.int .i64 n) h:=by
 obtain⟨s,rfl,rfl,rfl,hs,g⟩:=S
 exact len_ok hs Q
theorem st_used(S:Store h p A n keys fl)(Q:Value->Heap->Prop):r8 cp 70 [.pointer (some ⟨p,0,none⟩)] h Q↔Q (.int .i64 ((n:Int)-fl.length)) h:=by
 obtain⟨s,rfl,rfl,rfl,hs,g⟩:=S
 rw[used_ok hs,g.us]
end
end Go.Proofs.YtlakhgibjfmjjaaGreat.Can.Keys
namespace Go.Proofs.YtlakhgibjfmjjaaGreat.Digit
theorem test_iff{v1 v0 u d q rhat y:Nat}(hy:y=v1*4294967296+v0)(hr:q*v1+rhat=u):
  u*4294967296+d<q*y↔rhat*4294967296+d<q*v0:=by
 subst hy hr
 rw[Nat.mul_add,Nat.add_mul,<-Nat.mul_assoc]
 omega
theorem less{N y q:Nat}(h:N<q*y):N / y<=q-1:=by
 have h0:q≠0:=by intro e;subst e;omega
 have h1:N / y<q:=by
  rcases Nat.eq_zero_or_pos y with e|e
  ·subst e;omega
  ·exact(Nat.div_lt_iff_lt_mul e).mpr h
 omega
theorem same{N y q:Nat}(hy:0<y)(h:N / y<=q)(h2:q*y<=N):q=N / y:=by
 have h3:q<=N / y:=(Nat.le_div_iff_mul_le hy).mpr h2
 omega
theorem guess{v1 v0 u d y:Nat}(hy:y=v1*4294967296+v0)(hv1:0<v1):(u*4294967296+d) / y<=u / v1\/4294967296<=d:=by
 by_cases hd:d<4294967296
 ·left
  rw[<-Nat.lt_add_one_iff]
  have hy0:0<y:=by omega
  rw[Nat.div_lt_iff_lt_mul hy0]
  have h1:u<(u / v1+1)*v1:=by
   have:=Nat.div_add_mod u v1
   have:=Nat.mod_lt u hv1
   rw[Nat.add_mul,Nat.mul_comm];omega
  subst hy
  have h2:(u+1)*4294967296<=(u / v1+1)*v1*4294967296:=Nat.mul_le_mul_right _ h1
  rw[Nat.mul_add,<-Nat.mul_assoc]
  omega
 ·right;omega
theorem guess_max{v1 v0 u y:Nat}(hy:y=v1*4294967296+v0)(hv0:v0<4294967296)(hv1:2147483648<=v1)(hu:u<y):u / v1<=4294967297:=by
 rw[<-Nat.lt_add_one_iff,Nat.div_lt_iff_lt_mul (by omega)]
 omega
theorem two{u d1 d0 y:Nat}(hy:0<y):
  let q1:=(u*4294967296+d1) / y;let r1:=(u*4294967296+d1) % y
  let q0:=(r1*4294967296+d0) / y;let r0:=(r1*4294967296+d0) % y
  (u*18446744073709551616+d1*4294967296+d0) / y=q1*4294967296+q0/\(u*18446744073709551616+d1*4294967296+d0) % y=r0:=by
 intro q1 r1 q0 r0
 have e1:y*q1+r1=u*4294967296+d1:=Nat.div_add_mod _ _
 have e0:y*q0+r0=r1*4294967296+d0:=Nat.div_add_mod _ _
 have hr:r0<y:=Nat.mod_lt _ hy
 have e:u*18446744073709551616+d1*4294967296+d0=r0+y*(q1*4294967296+q0):=by
  rw[Nat.mul_add,<-Nat.mul_assoc]
  omega
 rw[e]
 constructor
 ·rw[Nat.add_mul_div_left _ _ hy,Nat.div_eq_of_lt hr,Nat.zero_add]
 ·rw[Nat.add_mul_mod_self_left,Nat.mod_eq_of_lt hr]
theorem shifted(n y:Nat)(s:Nat):n*2 ^ s / (y*2 ^ s)=n / y/\n*2 ^ s % (y*2 ^ s) / 2 ^ s=n % y:=by
 have hp:0<2 ^ s:=Nat.two_pow_pos s
 constructor
 ·exact Nat.mul_div_mul_right _ _ hp
 ·rw[Nat.mul_mod_mul_right,Nat.mul_div_cancel _ hp]
end Go.Proofs.YtlakhgibjfmjjaaGreat.Digit
namespace Go.Proofs.YtlakhgibjfmjjaaGreat.Can
open Go
attribute [local congr] m9 l8 f7 f6 i7 l7 l9 s9 s7
def b4j(x:Nat):Nat:=if x=0 then 0 else Nat.log2 x+1
theorem c8z:∀x:Nat,x<256->d7r.data[x]? =some (UInt8.ofNat (b4j x))/\b4j x<=8/\x<2 ^ b4j x/\(x≠0->2 ^ b4j x<=2*x):=by decide+kernel
theorem d4h(x:Nat)(hx:x<18446744073709551616):∃n:Nat,n<=64/\x<2 ^ n/\(x≠0->2 ^ n<=2*x)/\∀(h:Heap) (Q:Value->Heap->Prop),r8 cp 190 [.int .u64 x] h Q↔Q (.int .i64 n) h:=by
 have step:∀(y k n:Nat),y<2 ^ n->(y≠0->2 ^ n<=2*y)->∀z,y=z / 2 ^ k->y≠0->z<2 ^ (k+n)/\2 ^ (k+n)<=2*z:=fun y k n h1 h2 z hz hy=>by
  have h3:=h2 hy
  subst hz
  have hp:=Nat.two_pow_pos k
  rw[Nat.pow_add]
  constructor
  ·have:=(Nat.div_lt_iff_lt_mul hp).1 h1
   rw[Nat.mul_comm];exact this
  ·have h4:=Nat.mul_le_mul_left (2 ^ k) h3
   have h5:2 ^ k*(z / 2 ^ k)<=z:=Nat.mul_div_le _ _
   rw[Nat.mul_left_comm]at h4
   omega
 have last:∀(y:Nat),y<256->∃t,t<=8/\y<2 ^ t/\(y≠0->2 ^ t<=2*y)/\∀h,A0 (.indexStr (.string d7r) (.int .u8 y)) h=some (.int .u8 (t:Nat),h):=fun y hy=>by
  obtain⟨h1,h2,h3,h4⟩:=c8z y hy
  refine⟨b4j y,h2,h3,h4,fun h=>?_⟩
  show(if(0:Int)<=(y:Int)then(d7r.data[((y:Nat):Int).toNat]?).map (fun b=>(Value.int .u8 b.toNat,h))else none)=_
  generalize d7r.data=d at h1
  rw[if_pos (by omega),Int.toNat_natCast,h1]
  have h5:(UInt8.ofNat (b4j y)).toNat=b4j y:=by simp;omega
  rw[Option.map_some,h5]
 have sh:∀(y k:Nat),k<=64->((y:Nat):Int).fdiv (2 ^ (min k IntKind.u64.bits))=((y / 2 ^ k:Nat):Int):=fun y k hk=>by
  rw[a1B .u64 _ k hk,Int.natCast_ediv,Int.natCast_pow];rfl
 have c8:∀y:Nat,y<256->IntKind.u8.wrap (y:Int)=y:=fun y hy=>by rw[wu8];omega
 by_cases c0:4294967296<=x
 ·have a0:decide (((x:Nat):Int)>=4294967296)=true:=decide_eq_true (by omega)
  have e0:=sh x 32 (by decide)
  obtain⟨y0,hy0⟩:∃y,y=x / 2 ^ 32:=⟨_,rfl⟩
  rw[<-hy0]at e0
  by_cases c1:65536<=y0
  ·have a1:decide (((y0:Nat):Int)>=65536)=true:=decide_eq_true (by omega)
   have e1:=sh y0 16 (by decide)
   obtain⟨y1,hy1⟩:∃y,y=y0 / 2 ^ 16:=⟨_,rfl⟩
   rw[<-hy1]at e1
   by_cases c2:256<=y1
   ·have a2:decide (((y1:Nat):Int)>=256)=true:=decide_eq_true (by omega)
    have e2:=sh y1 8 (by decide)
    obtain⟨y2,hy2⟩:∃y,y=y1 / 2 ^ 8:=⟨_,rfl⟩
    rw[<-hy2]at e2
    obtain⟨t,t8,u1,u2,f⟩:=last y2 (by omega)
    have k8:=c8 y2 (by omega)
    have b1:=u1
    have b2:=u2
    obtain⟨b1,b2'⟩:=step y2 8 _ b1 b2 y1 hy2 (by omega)
    have b2:y1≠0->_:=fun _=>b2'
    obtain⟨b1,b2'⟩:=step y1 16 _ b1 b2 y0 hy1 (by omega)
    have b2:y0≠0->_:=fun _=>b2'
    obtain⟨b1,b2'⟩:=step y0 32 _ b1 b2 x hy0 (by omega)
    have b2:x≠0->_:=fun _=>b2'
    refine⟨32+(16+(8+t)),by omega,b1,b2,fun h Q=>p6 ?_ Q⟩
    rw[a8 cp a3b]
    simp(disch:=omega)only[a4S,↓b2C,↓f,a0,e0,a1,e1,a2,e2,k8,↓j0,l0,zA,zB,zC,zD,zE,zF,zG,zH,zI,reduceCtorEq,zJ,zK,zL,zM]
    all_goals first| (congr 1;done)| (congr 1;omega)
   ·have a2:decide (((y1:Nat):Int)>=256)=false:=decide_eq_false (by omega)
    obtain⟨t,t8,u1,u2,f⟩:=last y1 (by omega)
    have k8:=c8 y1 (by omega)
    have b1:=u1
    have b2:=u2
    obtain⟨b1,b2'⟩:=step y1 16 _ b1 b2 y0 hy1 (by omega)
    have b2:y0≠0->_:=fun _=>b2'
    obtain⟨b1,b2'⟩:=step y0 32 _ b1 b2 x hy0 (by omega)
    have b2:x≠0->_:=fun _=>b2'
    refine⟨32+(16+t),by omega,b1,b2,fun h Q=>p6 ?_ Q⟩
    rw[a8 cp a3b]
    simp(disch:=omega)only[a4S,↓b2C,↓f,a0,e0,a1,e1,a2,k8,↓j0,l0,zA,zB,zC,zD,zE,zF,zG,zH,zI,reduceCtorEq,zJ,zK,zL,zM]
    all_goals first| (congr 1;done)| (congr 1;omega)
  ·have a1:decide (((y0:Nat):Int)>=65536)=false:=decide_eq_false (by omega)
   by_cases c2:256<=y0
   ·have a2:decide (((y0:Nat):Int)>=256)=true:=decide_eq_true (by omega)
    have e2:=sh y0 8 (by decide)
    obtain⟨y2,hy2⟩:∃y,y=y0 / 2 ^ 8:=⟨_,rfl⟩
    rw[<-hy2]at e2
    obtain⟨t,t8,u1,u2,f⟩:=last y2 (by omega)
    have k8:=c8 y2 (by omega)
    have b1:=u1
    have b2:=u2
    obtain⟨b1,b2'⟩:=step y2 8 _ b1 b2 y0 hy2 (by omega)
    have b2:y0≠0->_:=fun _=>b2'
    obtain⟨b1,b2'⟩:=step y0 32 _ b1 b2 x hy0 (by omega)
    have b2:x≠0->_:=fun _=>b2'
    refine⟨32+(8+t),by omega,b1,b2,fun h Q=>p6 ?_ Q⟩
    rw[a8 cp a3b]
    simp(disch:=omega)only[a4S,↓b2C,↓f,a0,e0,a1,a2,e2,k8,↓j0,l0,zA,zB,zC,zD,zE,zF,zG,zH,zI,reduceCtorEq,zJ,zK,zL,zM]
    all_goals first| (congr 1;done)| (congr 1;omega)
   ·have a2:decide (((y0:Nat):Int)>=256)=false:=decide_eq_false (by omega)
    obtain⟨t,t8,u1,u2,f⟩:=last y0 (by omega)
    have k8:=c8 y0 (by omega)
    have b1:=u1
    have b2:=u2
    obtain⟨b1,b2'⟩:=step y0 32 _ b1 b2 x hy0 (by omega)
    have b2:x≠0->_:=fun _=>b2'
    refine⟨32+t,by omega,b1,b2,fun h Q=>p6 ?_ Q⟩
    rw[a8 cp a3b]
    simp(disch:=omega)only[a4S,↓b2C,↓f,a0,e0,a1,a2,k8,↓j0,l0,zA,zB,zC,zD,zE,zF,zG,zH,zI,reduceCtorEq,zJ,zK,zL,zM]
    all_goals first| (congr 1;done)| (congr 1;omega)
 ·have a0:decide (((x:Nat):Int)>=4294967296)=false:=decide_eq_false (by omega)
  by_cases c1:65536<=x
  ·have a1:decide (((x:Nat):Int)>=65536)=true:=decide_eq_true (by omega)
   have e1:=sh x 16 (by decide)
   obtain⟨y1,hy1⟩:∃y,y=x / 2 ^ 16:=⟨_,rfl⟩
   rw[<-hy1]at e1
   by_cases c2:256<=y1
   ·have a2:decide (((y1:Nat):Int)>=256)=true:=decide_eq_true (by omega)
    have e2:=sh y1 8 (by decide)
    obtain⟨y2,hy2⟩:∃y,y=y1 / 2 ^ 8:=⟨_,rfl⟩
    rw[<-hy2]at e2
    obtain⟨t,t8,u1,u2,f⟩:=last y2 (by omega)
    have k8:=c8 y2 (by omega)
    have b1:=u1
    have b2:=u2
    obtain⟨b1,b2'⟩:=step y2 8 _ b1 b2 y1 hy2 (by omega)
    have b2:y1≠0->_:=fun _=>b2'
    obtain⟨b1,b2'⟩:=step y1 16 _ b1 b2 x hy1 (by omega)
    have b2:x≠0->_:=fun _=>b2'
    refine⟨16+(8+t),by omega,b1,b2,fun h Q=>p6 ?_ Q⟩
    rw[a8 cp a3b]
    simp(disch:=omega)only[a4S,↓b2C,↓f,a0,a1,e1,a2,e2,k8,↓j0,l0,zA,zB,zC,zD,zE,zF,zG,zH,zI,reduceCtorEq,zJ,zK,zL,zM]
    all_goals first| (congr 1;done)| (congr 1;omega)
   ·have a2:decide (((y1:Nat):Int)>=256)=false:=decide_eq_false (by omega)
    obtain⟨t,t8,u1,u2,f⟩:=last y1 (by omega)
    have k8:=c8 y1 (by omega)
    have b1:=u1
    have b2:=u2
    obtain⟨b1,b2'⟩:=step y1 16 _ b1 b2 x hy1 (by omega)
    have b2:x≠0->_:=fun _=>b2'
    refine⟨16+t,by omega,b1,b2,fun h Q=>p6 ?_ Q⟩
    rw[a8 cp a3b]
    simp(disch:=omega)only[a4S,↓b2C,↓f,a0,a1,e1,a2,k8,↓j0,l0,zA,zB,zC,zD,zE,zF,zG,zH,zI,reduceCtorEq,zJ,zK,zL,zM]
    all_goals first| (congr 1;done)| (congr 1;omega)
  ·have a1:decide (((x:Nat):Int)>=65536)=false:=decide_eq_false (by omega)
   by_cases c2:256<=x
   ·have a2:decide (((x:Nat):Int)>=256)=true:=decide_eq_true (by omega)
    have e2:=sh x 8 (by decide)
    obtain⟨y2,hy2⟩:∃y,y=x / 2 ^ 8:=⟨_,rfl⟩
    rw[<-hy2]at e2
    obtain⟨t,t8,u1,u2,f⟩:=last y2 (by omega)
    have k8:=c8 y2 (by omega)
    have b1:=u1
    have b2:=u2
    obtain⟨b1,b2'⟩:=step y2 8 _ b1 b2 x hy2 (by omega)
    have b2:x≠0->_:=fun _=>b2'
    refine⟨8+t,by omega,b1,b2,fun h Q=>p6 ?_ Q⟩
    rw[a8 cp a3b]
    simp(disch:=omega)only[a4S,↓b2C,↓f,a0,a1,a2,e2,k8,↓j0,l0,zA,zB,zC,zD,zE,zF,zG,zH,zI,reduceCtorEq,zJ,zK,zL,zM]
    all_goals first| (congr 1;done)| (congr 1;omega)
   ·have a2:decide (((x:Nat):Int)>=256)=false:=decide_eq_false (by omega)
    obtain⟨t,t8,u1,u2,f⟩:=last x (by omega)
    have k8:=c8 x (by omega)
    have b1:=u1
    have b2:=u2
    refine⟨t,by omega,b1,b2,fun h Q=>p6 ?_ Q⟩
    rw[a8 cp a3b]
    simp(disch:=omega)only[a4S,↓b2C,↓f,a0,a1,a2,k8,↓j0,l0,zA,zB,zC,zD,zE,zF,zG,zH,zI,reduceCtorEq,zJ,zK,zL,zM]
    all_goals first| (congr 1;done)| (congr 1;omega)
theorem e5e(x:Nat)(hx:x<18446744073709551616)(h0:x≠0):∃s:Nat,s<=63/\9223372036854775808<=x*2 ^ s/\x*2 ^ s<18446744073709551616/\∀(h:Heap) (Q:Value->Heap->Prop),r8 cp 189 [.int .u64 x] h Q↔Q (.int .i64 s) h:=by
 obtain⟨n,hn,b,a,f⟩:=d4h x hx
 have a:=a h0
 have hl:1<=n:=by
  rcases Nat.eq_zero_or_pos n with e|e
  ·rw[e]at b;omega
  ·exact e
 have e:2 ^ n*2 ^ (64-n)=2 ^ 64:=by rw[<-Nat.pow_add];congr 1;omega
 refine⟨64-n,by omega,?_,?_,fun h Q=>p6 ?_ Q⟩
 ·have:=Nat.mul_le_mul_right (2 ^ (64-n)) a
  rw[e,Nat.mul_assoc]at this
  omega
 ·have:=Nat.mul_lt_mul_of_pos_right b (Nat.two_pow_pos (64-n))
  rw[e]at this
  omega
 ·rw[a8 cp e3I]
  simp(disch:=omega)only[d8S,↓e7e,f,↓j0,l0,zA,zB,zC,zD,zE,zF,zG,zH,zI,reduceCtorEq,zJ,zK,zL,zM]
  congr 1;omega
theorem a1V{u d y:Nat}(hu:u<y)(hd:d<4294967296):(u*4294967296+d) / y<4294967296:=by
 rw[Nat.div_lt_iff_lt_mul (by omega)]
 have:=Nat.mul_le_mul_left 4294967296 (show u+1<=y from hu)
 omega
theorem c0K(u d y q:Nat)(hy0:0<y)(hy:y<18446744073709551616)(hq:q=(u*4294967296+d) / y):
  IntKind.u64.wrap (IntKind.u64.wrap (IntKind.u64.wrap ((u:Int)*4294967296)+(d:Int))-IntKind.u64.wrap ((q:Int)*(y:Int)))=(((u*4294967296+d) % y:Nat):Int):=by
 have h1:=Nat.div_add_mod (u*4294967296+d) y
 have h2:=Nat.mod_lt (u*4294967296+d) hy0
 rw[<-hq]at h1
 rw[<-Int.natCast_mul,Nat.mul_comm q y]
 obtain⟨B,hB⟩:∃B,B=y*q:=⟨_,rfl⟩
 obtain⟨r,hr⟩:∃r,r=(u*4294967296+d) % y:=⟨_,rfl⟩
 rw[<-hB]at h1 ⊢
 rw[<-hr]at h1 h2 ⊢
 simp only[a2y]
 omega
theorem e0H(h:Heap)(y v1 v0 u d:Nat)(hy:y=v1*4294967296+v0)(hv1:2147483648<=v1)(hv1' :v1<4294967296)(hv0:v0<4294967296)(hd:d<4294967296)(hu:u<y){Q:y7}(keep:List Nat)(hk1:keep.elem 15=false)(hk2:keep.elem 16=false)(hk3:keep.all (fun t=>t<19)=true)
  (n q rhat:Nat) (h1:4294967296<=rhat+n*v1) (h2:q*v1+rhat=u) (h3:(u*4294967296+d) / y<=q) (h4:q<=4294967297) (h5:rhat<4294967296) (e:a7)
  (e9:e 9=.int .u64 v1) (e10:e 10=.int .u64 v0) (ed:e 13=.int .u64 d) (eq:e 15=.int .u64 q) (er:e 16=.int .u64 rhat)
  (hQ:∀e',K6 keep e e' ->e' 15=.int .u64 (((u*4294967296+d) / y:Nat):Int)->Q (.exit 0) e' h):F9 cp (.loop Z3) e h Q:=by
 have hy0:0<y:=by omega
 obtain⟨Q0,hQ0⟩:∃Q0,Q0=(u*4294967296+d) / y:=⟨_,rfl⟩
 rw[<-hQ0]at h3 hQ
 have kp:∀t,19<=t->keep.elem t=false:=fun t ht=>by
  cases hh:keep.elem t with
  |false=>rfl
  |true=>
   have hm:t∈keep:=List.elem_iff.1 hh
   have:=List.all_eq_true.1 hk3 t hm
   simp at this;omega
 refine y6 cp _ Q (fun n e' h' =>h' =h/\K6 keep e e' /\e' 9=.int .u64 v1/\e' 10=.int .u64 v0/\e' 13=.int .u64 d/\∃q rhat:Nat,e' 15=.int .u64 q/\e' 16=.int .u64 rhat/\4294967296<=rhat+n*v1/\q*v1+rhat=u/\Q0<=q/\q<=4294967297/\rhat<4294967296) ?_ n e h
  ⟨rfl,K6.refl _ _,e9,e10,ed,q,rhat,eq,er,h1,h2,h3,h4,h5⟩
 clear h1 h2 h3 h4 h5 eq er e9 e10 ed
 rintro n e' h' ⟨rfl,ag,e9,e10,ed,q,rhat,eq,er,h1,h2,h3,h4,h5⟩
 have hti:= @Digit.test_iff v1 v0 u d q rhat y hy h2
 by_cases c:4294967296<=q\/u*4294967296+d<q*y
 ·
  obtain⟨n,rfl⟩:∃m,n=m+1:=⟨n-1,by
   rcases Nat.eq_zero_or_pos n with h0|h0
   ·subst h0;omega
   ·omega⟩
  have hle:Q0<=q-1:=by
   rcases c with c|c
   ·have:Q0<4294967296:=by rw[hQ0];exact a1V hu hd
    omega
   ·rw[hQ0];exact Digit.less c
  have hq0:1<=q:=by
   rcases c with c|c
   ·omega
   ·rcases Nat.eq_zero_or_pos q with e|e
    ·subst e;omega
    ·exact e
  have h2' :(q-1)*v1+(rhat+v1)=u:=by
   obtain⟨p,rfl⟩:∃p,q=p+1:=⟨q-1,by omega⟩
   rw[Nat.add_mul]at h2;rw[Nat.add_sub_cancel];omega
  have k1:(q:Int)-1=((q-1:Nat):Int):=by omega
  have k2:(rhat:Int)+(v1:Int)=((rhat+v1:Nat):Int):=by omega
  have h1' :4294967296<=(rhat+v1)+n*v1:=by rw[Nat.add_mul]at h1;omega
  have last:4294967296<=rhat+v1->q-1=Q0:=fun c2=>by
   have hti2:= @Digit.test_iff v1 v0 u d (q-1) (rhat+v1) y hy h2'
   have hp:(q-1)*v0<=4294967296*4294967295:=Nat.mul_le_mul (by omega) (by omega)
   rw[hQ0];refine Digit.same hy0 (by rw[<-hQ0];exact hle) (Nat.le_of_not_lt fun h=>?_)
   have:=hti2.mp h
   omega
  by_cases cq:4294967296<=q
  ·have b1:decide ((q:Int)>=4294967296)=true:=decide_eq_true (by omega)
   by_cases c2:4294967296<=rhat+v1
   ·have b2:decide (((rhat+v1:Nat):Int)>=4294967296)=true:=decide_eq_true (by omega)
    simp(disch:=omega)only[Z3,a0m,↓a1x,e9,e10,ed,eq,er,b1,b2,k1,k2,↓j0,l0,zA,zB,zC,zD,zE,zF,zG,zH,zI,reduceCtorEq,zJ,zK,zL,zM]
    refine hQ _ ?_ (by rw[<-last c2];rfl)
    repeat' (first|exact ag| (refine K6.upd ?_ (by first|exact hk1|exact hk2|exact kp _ (by decide)) _))
   ·have b2:decide (((rhat+v1:Nat):Int)>=4294967296)=false:=decide_eq_false (by omega)
    simp(disch:=omega)only[Z3,a0m,↓a1x,e9,e10,ed,eq,er,b1,b2,k1,k2,↓j0,l0,zA,zB,zC,zD,zE,zF,zG,zH,zI,reduceCtorEq,zJ,zK,zL,zM]
    refine⟨n,by omega,?_,q-1,rhat+v1,rfl,rfl,h1',h2',hle,by omega,by omega⟩
    repeat' (first|exact ag| (refine K6.upd ?_ (by first|exact hk1|exact hk2|exact kp _ (by decide)) _))
  ·have hp:q*v0<=4294967295*4294967295:=Nat.mul_le_mul (by omega) (by omega)
   have b1:decide ((q:Int)>=4294967296)=false:=decide_eq_false (by omega)
   have w1:IntKind.u64.wrap ((q:Int)*(v0:Int))=((q*v0:Nat):Int):=by rw[<-Int.natCast_mul,P9]<;>omega
   have b3:decide (((q*v0:Nat):Int)>4294967296*(rhat:Int)+(d:Int))=true:=decide_eq_true (by have:=hti.1 (c.resolve_left cq);omega)
   by_cases c2:4294967296<=rhat+v1
   ·have b2:decide (((rhat+v1:Nat):Int)>=4294967296)=true:=decide_eq_true (by omega)
    simp(disch:=omega)only[Z3,a0m,↓a1x,e9,e10,ed,eq,er,b1,b2,b3,w1,k1,k2,↓j0,l0,zA,zB,zC,zD,zE,zF,zG,zH,zI,reduceCtorEq,zJ,zK,zL,zM]
    refine hQ _ ?_ (by rw[<-last c2];rfl)
    repeat' (first|exact ag| (refine K6.upd ?_ (by first|exact hk1|exact hk2|exact kp _ (by decide)) _))
   ·have b2:decide (((rhat+v1:Nat):Int)>=4294967296)=false:=decide_eq_false (by omega)
    simp(disch:=omega)only[Z3,a0m,↓a1x,e9,e10,ed,eq,er,b1,b2,b3,w1,k1,k2,↓j0,l0,zA,zB,zC,zD,zE,zF,zG,zH,zI,reduceCtorEq,zJ,zK,zL,zM]
    refine⟨n,by omega,?_,q-1,rhat+v1,rfl,rfl,h1',h2',hle,by omega,by omega⟩
    repeat' (first|exact ag| (refine K6.upd ?_ (by first|exact hk1|exact hk2|exact kp _ (by decide)) _))
 ·
  have cq:q<4294967296:=by omega
  have hsame:q=Q0:=by
   rw[hQ0];refine Digit.same hy0 (by rw[<-hQ0];exact h3) (Nat.le_of_not_lt fun h=>c (Or.inr h))
  have hp:q*v0<=4294967295*4294967295:=Nat.mul_le_mul (by omega) (by omega)
  have b1:decide ((q:Int)>=4294967296)=false:=decide_eq_false (by omega)
  have w1:IntKind.u64.wrap ((q:Int)*(v0:Int))=((q*v0:Nat):Int):=by rw[<-Int.natCast_mul,P9]<;>omega
  have b3:decide (((q*v0:Nat):Int)>4294967296*(rhat:Int)+(d:Int))=false:=decide_eq_false (by
   have:¬rhat*4294967296+d<q*v0:=fun hh=>c (.inr (hti.2 hh))
   omega)
  simp(disch:=omega)only[Z3,a0m,↓a1x,e9,e10,ed,eq,er,b1,b3,w1,↓j0,l0,zA,zB,zC,zD,zE,zF,zG,zH,zI,reduceCtorEq,zJ,zK,zL,zM]
  refine hQ _ ?_ (by rw[<-hsame];exact eq)
  repeat' (first|exact ag| (refine K6.upd ?_ (by first|exact hk1|exact hk2|exact kp _ (by decide)) _))
theorem e0F(h:Heap)(y v1 v0 u d:Nat)(hy:y=v1*4294967296+v0)(hv1:2147483648<=v1)(hv1' :v1<4294967296)(hv0:v0<4294967296)(hd:d<4294967296)(hu:u<y){Q:y7}(keep:List Nat)(hk1:keep.elem 18=false)(hk2:keep.elem 16=false)(hk3:keep.all (fun t=>t<19)=true)
  (n q rhat:Nat) (h1:4294967296<=rhat+n*v1) (h2:q*v1+rhat=u) (h3:(u*4294967296+d) / y<=q) (h4:q<=4294967297) (h5:rhat<4294967296) (e:a7)
  (e9:e 9=.int .u64 v1) (e10:e 10=.int .u64 v0) (ed:e 14=.int .u64 d) (eq:e 18=.int .u64 q) (er:e 16=.int .u64 rhat)
  (hQ:∀e',K6 keep e e' ->e' 18=.int .u64 (((u*4294967296+d) / y:Nat):Int)->Q (.exit 2) e' h):F9 cp (.loop Y9) e h Q:=by
 have hy0:0<y:=by omega
 obtain⟨Q0,hQ0⟩:∃Q0,Q0=(u*4294967296+d) / y:=⟨_,rfl⟩
 rw[<-hQ0]at h3 hQ
 have kp:∀t,19<=t->keep.elem t=false:=fun t ht=>by
  cases hh:keep.elem t with
  |false=>rfl
  |true=>
   have hm:t∈keep:=List.elem_iff.1 hh
   have:=List.all_eq_true.1 hk3 t hm
   simp at this;omega
 refine y6 cp _ Q (fun n e' h' =>h' =h/\K6 keep e e' /\e' 9=.int .u64 v1/\e' 10=.int .u64 v0/\e' 14=.int .u64 d/\∃q rhat:Nat,e' 18=.int .u64 q/\e' 16=.int .u64 rhat/\4294967296<=rhat+n*v1/\q*v1+rhat=u/\Q0<=q/\q<=4294967297/\rhat<4294967296) ?_ n e h
  ⟨rfl,K6.refl _ _,e9,e10,ed,q,rhat,eq,er,h1,h2,h3,h4,h5⟩
 clear h1 h2 h3 h4 h5 eq er e9 e10 ed
 rintro n e' h' ⟨rfl,ag,e9,e10,ed,q,rhat,eq,er,h1,h2,h3,h4,h5⟩
 have hti:= @Digit.test_iff v1 v0 u d q rhat y hy h2
 by_cases c:4294967296<=q\/u*4294967296+d<q*y
 ·
  obtain⟨n,rfl⟩:∃m,n=m+1:=⟨n-1,by
   rcases Nat.eq_zero_or_pos n with h0|h0
   ·subst h0;omega
   ·omega⟩
  have hle:Q0<=q-1:=by
   rcases c with c|c
   ·have:Q0<4294967296:=by rw[hQ0];exact a1V hu hd
    omega
   ·rw[hQ0];exact Digit.less c
  have hq0:1<=q:=by
   rcases c with c|c
   ·omega
   ·rcases Nat.eq_zero_or_pos q with e|e
    ·subst e;omega
    ·exact e
  have h2' :(q-1)*v1+(rhat+v1)=u:=by
   obtain⟨p,rfl⟩:∃p,q=p+1:=⟨q-1,by omega⟩
   rw[Nat.add_mul]at h2;rw[Nat.add_sub_cancel];omega
  have k1:(q:Int)-1=((q-1:Nat):Int):=by omega
  have k2:(rhat:Int)+(v1:Int)=((rhat+v1:Nat):Int):=by omega
  have h1' :4294967296<=(rhat+v1)+n*v1:=by rw[Nat.add_mul]at h1;omega
  have last:4294967296<=rhat+v1->q-1=Q0:=fun c2=>by
   have hti2:= @Digit.test_iff v1 v0 u d (q-1) (rhat+v1) y hy h2'
   have hp:(q-1)*v0<=4294967296*4294967295:=Nat.mul_le_mul (by omega) (by omega)
   rw[hQ0];refine Digit.same hy0 (by rw[<-hQ0];exact hle) (Nat.le_of_not_lt fun h=>?_)
   have:=hti2.mp h
   omega
  by_cases cq:4294967296<=q
  ·have b1:decide ((q:Int)>=4294967296)=true:=decide_eq_true (by omega)
   by_cases c2:4294967296<=rhat+v1
   ·have b2:decide (((rhat+v1:Nat):Int)>=4294967296)=true:=decide_eq_true (by omega)
    simp(disch:=omega)only[Y9,a0m,↓a1x,e9,e10,ed,eq,er,b1,b2,k1,k2,↓j0,l0,zA,zB,zC,zD,zE,zF,zG,zH,zI,reduceCtorEq,zJ,zK,zL,zM]
    refine hQ _ ?_ (by rw[<-last c2];rfl)
    repeat' (first|exact ag| (refine K6.upd ?_ (by first|exact hk1|exact hk2|exact kp _ (by decide)) _))
   ·have b2:decide (((rhat+v1:Nat):Int)>=4294967296)=false:=decide_eq_false (by omega)
    simp(disch:=omega)only[Y9,a0m,↓a1x,e9,e10,ed,eq,er,b1,b2,k1,k2,↓j0,l0,zA,zB,zC,zD,zE,zF,zG,zH,zI,reduceCtorEq,zJ,zK,zL,zM]
    refine⟨n,by omega,?_,q-1,rhat+v1,rfl,rfl,h1',h2',hle,by omega,by omega⟩
    repeat' (first|exact ag| (refine K6.upd ?_ (by first|exact hk1|exact hk2|exact kp _ (by decide)) _))
  ·have hp:q*v0<=4294967295*4294967295:=Nat.mul_le_mul (by omega) (by omega)
   have b1:decide ((q:Int)>=4294967296)=false:=decide_eq_false (by omega)
   have w1:IntKind.u64.wrap ((q:Int)*(v0:Int))=((q*v0:Nat):Int):=by rw[<-Int.natCast_mul,P9]<;>omega
   have b3:decide (((q*v0:Nat):Int)>4294967296*(rhat:Int)+(d:Int))=true:=decide_eq_true (by have:=hti.1 (c.resolve_left cq);omega)
   by_cases c2:4294967296<=rhat+v1
   ·have b2:decide (((rhat+v1:Nat):Int)>=4294967296)=true:=decide_eq_true (by omega)
    simp(disch:=omega)only[Y9,a0m,↓a1x,e9,e10,ed,eq,er,b1,b2,b3,w1,k1,k2,↓j0,l0,zA,zB,zC,zD,zE,zF,zG,zH,zI,reduceCtorEq,zJ,zK,zL,zM]
    refine hQ _ ?_ (by rw[<-last c2];rfl)
    repeat' (first|exact ag| (refine K6.upd ?_ (by first|exact hk1|exact hk2|exact kp _ (by decide)) _))
   ·have b2:decide (((rhat+v1:Nat):Int)>=4294967296)=false:=decide_eq_false (by omega)
    simp(disch:=omega)only[Y9,a0m,↓a1x,e9,e10,ed,eq,er,b1,b2,b3,w1,k1,k2,↓j0,l0,zA,zB,zC,zD,zE,zF,zG,zH,zI,reduceCtorEq,zJ,zK,zL,zM]
    refine⟨n,by omega,?_,q-1,rhat+v1,rfl,rfl,h1',h2',hle,by omega,by omega⟩
    repeat' (first|exact ag| (refine K6.upd ?_ (by first|exact hk1|exact hk2|exact kp _ (by decide)) _))
 ·
  have cq:q<4294967296:=by omega
  have hsame:q=Q0:=by
   rw[hQ0];refine Digit.same hy0 (by rw[<-hQ0];exact h3) (Nat.le_of_not_lt fun h=>c (Or.inr h))
  have hp:q*v0<=4294967295*4294967295:=Nat.mul_le_mul (by omega) (by omega)
  have b1:decide ((q:Int)>=4294967296)=false:=decide_eq_false (by omega)
  have w1:IntKind.u64.wrap ((q:Int)*(v0:Int))=((q*v0:Nat):Int):=by rw[<-Int.natCast_mul,P9]<;>omega
  have b3:decide (((q*v0:Nat):Int)>4294967296*(rhat:Int)+(d:Int))=false:=decide_eq_false (by
   have:¬rhat*4294967296+d<q*v0:=fun hh=>c (.inr (hti.2 hh))
   omega)
  simp(disch:=omega)only[Y9,a0m,↓a1x,e9,e10,ed,eq,er,b1,b3,w1,↓j0,l0,zA,zB,zC,zD,zE,zF,zG,zH,zI,reduceCtorEq,zJ,zK,zL,zM]
  refine hQ _ ?_ (by rw[<-hsame];exact eq)
  repeat' (first|exact ag| (refine K6.upd ?_ (by first|exact hk1|exact hk2|exact kp _ (by decide)) _))
theorem b4w(i:Nat)(x y:Int)(hx0:0<=x)(hx:x % 2 ^ i=0)(hx1:x<18446744073709551616)(hy0:0<=y)(hy:y<2 ^ i)(hy1:y<18446744073709551616):
  IntKind.u64.wrap ((BitVec.ofInt IntKind.u64.bits x |||BitVec.ofInt IntKind.u64.bits y).toNat:Int)=x+y:=
 bits_join .u64 64 (by decide) (b0u 64 (by decide)) i x y hx0 hx (by omega) hy0 hy (by omega)
theorem a6a(U v1:Nat)(hv:0<v1)(hU:U<18446744073709551616):IntKind.u64.wrap (Int.tdiv (U:Int) (v1:Int))=((U / v1:Nat):Int)/\IntKind.u64.wrap ((U:Int)-IntKind.u64.wrap (((U / v1:Nat):Int)*(v1:Int)))=((U % v1:Nat):Int):=by
 have hm:U / v1*v1+U % v1=U:=by rw[Nat.mul_comm];exact Nat.div_add_mod U v1
 have h1:U / v1<=U:=Nat.div_le_self _ _
 constructor
 ·rw[a4c _ _ (by omega),<-Int.natCast_ediv,P9 (Int.natCast_nonneg _) (by omega)]
 ·rw[<-Int.natCast_mul,P9 (n:=((U / v1*v1:Nat):Int)) (by omega) (by omega),P9 (by omega) (by omega)]
  omega
theorem d2v(h:Heap)(hi lo y:Nat)(hhi:hi<y)(hlo:lo<18446744073709551616)(hy:y<18446744073709551616)(Q:Value->Heap->Prop):
  r8 cp 184 [.int .u64 hi,.int .u64 lo,.int .u64 y] h Q↔Q (.tuple #[.int .u64 (((hi*18446744073709551616+lo) / y:Nat):Int),.int .u64 (((hi*18446744073709551616+lo) % y:Nat):Int)]) h:=by
 refine p6 ?_ Q
 rw[a8 cp e5n]
 have hy0:y≠0:=by omega
 have a1:((y:Int)==0)=false:=beq_eq_false_iff_ne.2 (by omega)
 have a2:decide ((y:Int)<=(hi:Int))=false:=decide_eq_false (by omega)
 by_cases h0:hi=0
 ·subst h0
  have z0:(((0:Nat):Int)==0)=true:=rfl
  have n0:((y:Int)=0)=False:=by simp;omega
  have e1:IntKind.u64.wrap (Int.tdiv (lo:Int) (y:Int))=((lo / y:Nat):Int):=(a6a lo y (by omega) hlo).1
  have e2:Int.tmod (lo:Int) (y:Int)=((lo % y:Nat):Int):=by rw[I0 _ _ (by omega),<-Int.natCast_emod]
  simp(disch:=omega)only[a0m,↓a1x,a1,a2,z0,n0,e1,e2,Nat.zero_mul,↓j0,l0,zA,zB,zC,zD,zE,zF,zG,zH,zI,reduceCtorEq,zJ,zK,zL,zM]
 have a3:((hi:Int)==0)=false:=beq_eq_false_iff_ne.2 (by omega)
 obtain⟨s,hs,hn1,hn2,flz⟩:=e5e y hy hy0
 have hp:0<2 ^ s:=Nat.two_pow_pos s
 have hps:2 ^ s*2 ^ (64-s)=18446744073709551616:=by rw[<-Nat.pow_add,show s+(64-s)=64 from by omega]
 have k64:(64-(s:Int)).toNat=64-s:=by omega
 have sh:∀(y k:Nat),k<=64->((y:Nat):Int).fdiv (2 ^ (min k IntKind.u64.bits))=((y / 2 ^ k:Nat):Int):=fun y k hk=>by
  rw[a1B .u64 _ k hk,Int.natCast_ediv,Int.natCast_pow];rfl
 have sl:∀(x:Nat),IntKind.u64.wrap ((x:Int)*2 ^ (min s IntKind.u64.bits))=((x*2 ^ s % 18446744073709551616:Nat):Int):=fun x=>by
  rw[b1j .u64 _ s (by show s<=64;omega),a2y,Int.natCast_emod,Int.natCast_mul,Int.natCast_pow];rfl
 have ey:=sl y
 rw[Nat.mod_eq_of_lt hn2]at ey
 have eh:=sl hi
 have hhs' :hi*2 ^ s<y*2 ^ s:=Nat.mul_lt_mul_of_pos_right hhi hp
 rw[Nat.mod_eq_of_lt (by omega)]at eh
 have el:=sh lo (64-s) (by omega)
 have el2:=sl lo
 have hlq:lo / 2 ^ (64-s)<2 ^ s:=by
  rw[Nat.div_lt_iff_lt_mul (Nat.two_pow_pos _),hps];exact hlo
 have hhs:hi*2 ^ s+2 ^ s<=y*2 ^ s:=by
  have:=Nat.mul_le_mul_right (2 ^ s) (show hi+1<=y from hhi)
  rw[Nat.add_mul,Nat.one_mul]at this;exact this
 have eor:IntKind.u64.wrap ((BitVec.ofInt IntKind.u64.bits ((hi*2 ^ s:Nat):Int) |||BitVec.ofInt IntKind.u64.bits ((lo / 2 ^ (64-s):Nat):Int)).toNat:Int)=((hi*2 ^ s+lo / 2 ^ (64-s):Nat):Int):=by
  have hm:((hi*2 ^ s:Nat):Int) % 2 ^ s=0:=by
   have:((hi*2 ^ s % 2 ^ s:Nat):Int)=0:=by rw[Nat.mul_mod_left];rfl
   rw[Int.natCast_emod,Int.natCast_pow]at this;exact this
  have hlq' :((lo / 2 ^ (64-s):Nat):Int)<2 ^ s:=by
   have:((lo / 2 ^ (64-s):Nat):Int)<((2 ^ s:Nat):Int):=by exact_mod_cast hlq
   rw[Int.natCast_pow]at this;exact this
  clear el el2 eh ey hps sl sh k64 flz
  generalize hi*2 ^ s=A at*
  generalize lo / 2 ^ (64-s)=B at*
  generalize y*2 ^ s=C at*
  generalize hD:(2:Nat) ^ s=D at*
  rw[b4w s _ _ (Int.natCast_nonneg _) hm (by omega) (Int.natCast_nonneg _) hlq' (by omega)];omega
 obtain⟨Y,hY⟩:∃Y,Y=y*2 ^ s:=⟨_,rfl⟩
 obtain⟨U,hU⟩:∃U,U=hi*2 ^ s+lo / 2 ^ (64-s):=⟨_,rfl⟩
 obtain⟨L,hL⟩:∃L,L=lo*2 ^ s % 18446744073709551616:=⟨_,rfl⟩
 have hsum:(hi*18446744073709551616+lo)*2 ^ s=U*18446744073709551616+L / 4294967296*4294967296+L % 4294967296:=by
  have e1:lo*2 ^ s / 18446744073709551616=lo / 2 ^ (64-s):=by
   rw[<-hps,Nat.mul_comm (2 ^ s),Nat.mul_div_mul_right _ _ hp]
  have e2:=Nat.div_add_mod (lo*2 ^ s) 18446744073709551616
  rw[e1,<-hL]at e2
  rw[hU,Nat.add_mul,Nat.mul_assoc,Nat.mul_comm 18446744073709551616,<-Nat.mul_assoc,Nat.add_mul]
  generalize hi*2 ^ s=A
  omega
 have hLlt:L<18446744073709551616:=by rw[hL];exact Nat.mod_lt _ (by decide)
 have hUY:U<Y:=by rw[hU,hY];omega
 have hd:=Digit.shifted (hi*18446744073709551616+lo) y s
 rw[<-hY]at hn1 hn2 hd ey
 rw[<-hU]at eor
 rw[<-hL]at el2
 obtain⟨v1,hv1⟩:∃v,v=Y / 4294967296:=⟨_,rfl⟩
 obtain⟨v0,hv0⟩:∃v,v=Y % 4294967296:=⟨_,rfl⟩
 obtain⟨d1,hd1⟩:∃v,v=L / 4294967296:=⟨_,rfl⟩
 obtain⟨d0,hd0⟩:∃v,v=L % 4294967296:=⟨_,rfl⟩
 have i1:=sh Y 32 (by decide)
 rw[show(2:Nat) ^ 32=4294967296 from rfl,<-hv1]at i1
 have i2:IntKind.u64.wrap ((BitVec.ofInt IntKind.u64.bits (Y:Int) &&& BitVec.ofInt IntKind.u64.bits 4294967295).toNat:Int)=(v0:Int):=by
  rw[a2c 32 (by decide) _ _ (by decide)]
  have:(2:Int) ^ 32=4294967296:=by decide
  rw[this];omega
 have i3:=sh L 32 (by decide)
 rw[show(2:Nat) ^ 32=4294967296 from rfl,<-hd1]at i3
 have i4:IntKind.u64.wrap ((BitVec.ofInt IntKind.u64.bits (L:Int) &&& BitVec.ofInt IntKind.u64.bits 4294967295).toNat:Int)=(d0:Int):=by
  rw[a2c 32 (by decide) _ _ (by decide)]
  have:(2:Int) ^ 32=4294967296:=by decide
  rw[this];omega
 have v1p:0<v1:=by omega
 have nv:((v1:Int)=0)=False:=by simp;omega
 obtain⟨q1,q2⟩:=a6a U v1 v1p (by omega)
 have q2' :(U:Int)-((U / v1:Nat):Int)*(v1:Int)=((U % v1:Nat):Int):=by
  have hm:U / v1*v1+U % v1=U:=by rw[Nat.mul_comm];exact Nat.div_add_mod U v1
  rw[<-Int.natCast_mul];omega
 have hyv:Y=v1*4294967296+v0:=by omega
 have hUm:U / v1*v1+U % v1=U:=by rw[Nat.mul_comm];exact Nat.div_add_mod U v1
 have hUl:U % v1<v1:=Nat.mod_lt _ v1p
 have gs:∀u d:Nat,d<4294967296->(u*4294967296+d) / Y<=u / v1:=fun u d hd=>by
  rcases Digit.guess (u:=u) (d:=d) hyv v1p with h|h
  ·exact h
  ·omega
 simp(disch:=omega)only[a0m,↓a1x,a1,a2,a3,flz,ey,eh,el,el2,eor,k64,i1,i2,i3,i4,nv,q1,q2,q2',↓j0,l0,zA,zB,zC,zD,zE,zF,zG,zH,zI,reduceCtorEq,zJ,zK,zL,zM]
 refine e0H h Y v1 v0 U d1 hyv (by omega) (by omega) (by omega) (by omega) hUY [2,8,9,11,13,10,14] (by decide) (by decide) (by decide) 2 (U / v1) (U % v1) (by omega) hUm (gs U d1 (by omega)) (Digit.guess_max hyv (by omega) (by omega) hUY) (by omega) _ rfl rfl rfl rfl rfl fun e ag e15=>?_
 have e2:e 2=.int .u64 Y:=ag 2 (by decide)
 have e8:e 8=.int .u64 s:=ag 8 (by decide)
 have e9:e 9=.int .u64 v1:=ag 9 (by decide)
 have e10:e 10=.int .u64 v0:=ag 10 (by decide)
 have e11:e 11=.int .u64 U:=ag 11 (by decide)
 have e13:e 13=.int .u64 d1:=ag 13 (by decide)
 have e14:e 14=.int .u64 d0:=ag 14 (by decide)
 have hr:=c0K U d1 Y _ (by omega) hn2 rfl
 have hQlt:=a1V (u:=U) (d:=d1) (y:=Y) hUY (by omega)
 obtain⟨Q1,hQ1⟩:∃z,(U*4294967296+d1) / Y=z:=⟨_,rfl⟩
 rw[hQ1]at hr e15 hQlt
 have hU2:(U*4294967296+d1) % Y<Y:=Nat.mod_lt _ (by omega)
 obtain⟨U2,hU2d⟩:∃z,(U*4294967296+d1) % Y=z:=⟨_,rfl⟩
 rw[hU2d]at hr hU2
 obtain⟨q3,q4⟩:=a6a U2 v1 v1p (by omega)
 have q4' :(U2:Int)-((U2 / v1:Nat):Int)*(v1:Int)=((U2 % v1:Nat):Int):=by
  have hm:U2 / v1*v1+U2 % v1=U2:=by rw[Nat.mul_comm];exact Nat.div_add_mod U2 v1
  rw[<-Int.natCast_mul];omega
 have hUm2:U2 / v1*v1+U2 % v1=U2:=by rw[Nat.mul_comm];exact Nat.div_add_mod U2 v1
 have hUl2:U2 % v1<v1:=Nat.mod_lt _ v1p
 simp(disch:=omega)only[a0m,↓a1x,e2,e9,e11,e13,e15,hr,nv,q3,q4,q4',↓j0,l0,zA,zB,zC,zD,zE,zF,zG,zH,zI,reduceCtorEq,zJ,zK,zL,zM]
 refine e0F h Y v1 v0 U2 d0 hyv (by omega) (by omega) (by omega) (by omega) hU2 [2,8,14,15,17] (by decide) (by decide) (by decide) 2 (U2 / v1) (U2 % v1) (by omega) hUm2 (gs U2 d0 (by omega)) (Digit.guess_max hyv (by omega) (by omega) hU2) (by omega) _ e9 e10 e14 rfl rfl fun f ag2 f18=>?_
 have f2:f 2=.int .u64 Y:=(ag2 2 (by decide)).trans e2
 have f8:f 8=.int .u64 s:=(ag2 8 (by decide)).trans e8
 have f14:f 14=.int .u64 d0:=(ag2 14 (by decide)).trans e14
 have f15:f 15=.int .u64 Q1:=(ag2 15 (by decide)).trans e15
 have f17:f 17=.int .u64 U2:=ag2 17 (by decide)
 have hr2:=c0K U2 d0 Y _ (by omega) hn2 rfl
 have hQlt2:=a1V (u:=U2) (d:=d0) (y:=Y) hU2 (by omega)
 have hr3:=sh ((U2*4294967296+d0) % Y) s (by omega)
 obtain⟨t1,t2⟩:=Digit.two (u:=U) (d1:=d1) (d0:=d0) (y:=Y) (by omega)
 simp only[hQ1,hU2d]at t1 t2
 have hUs:U*18446744073709551616+d1*4294967296+d0=(hi*18446744073709551616+lo)*2 ^ s:=by rw[hsum,hd1,hd0]
 rw[hUs,hd.1]at t1
 rw[hUs]at t2
 rw[<-t2,hd.2]at hr3
 rw[<-t2]at hr2
 obtain⟨Q2,hQ2⟩:∃z,(U2*4294967296+d0) / Y=z:=⟨_,rfl⟩
 rw[hQ2]at hr2 f18 hQlt2 t1
 simp(disch:=omega)only[a0m,↓a1x,f2,f8,f14,f15,f17,f18,hr2,hr3,↓j0,l0,zA,zB,zC,zD,zE,zF,zG,zH,zI,reduceCtorEq,zJ,zK,zL,zM]
 rw[t1]
 congr 3
theorem b5t(h:Heap)(x:Nat)(hx:x<18446744073709551616)(Q:Value->Heap->Prop):r8 cp 90 [.int .u64 x] h Q↔Q (.int .u64 ((x % 2305843009213693951:Nat):Int)) h:=by
 refine p6 ?_ Q
 rw[a8 cp e8r]
 have m1:=fun x:Int=>a2c 61 (by decide) x 2305843009213693951 (by decide)
 have s1:=fun x:Int=>a1B .u64 x 61 (by decide)
 have p61:(2:Int) ^ 61=2305843009213693952:=by decide
 by_cases c:2305843009213693951<=x / 2305843009213693952+x % 2305843009213693952
 ·have a1:decide ((x:Int) / 2305843009213693952+(x:Int) % 2305843009213693952>=2305843009213693951)=true:=decide_eq_true (by omega)
  simp(disch:=omega)only[c90,↓R90,m1,s1,p61,a1,↓j0,l0,zA,zB,zC,zD,zE,zF,zG,zH,zI,reduceCtorEq,zJ,zK,zL,zM]
  congr 1;omega
 ·have a1:decide ((x:Int) / 2305843009213693952+(x:Int) % 2305843009213693952>=2305843009213693951)=false:=decide_eq_false (by omega)
  simp(disch:=omega)only[c90,↓R90,m1,s1,p61,a1,↓j0,l0,zA,zB,zC,zD,zE,zF,zG,zH,zI,reduceCtorEq,zJ,zK,zL,zM]
  congr 1;omega
theorem b0l(h:Heap)(a b:Nat)(hx:a+b<18446744073709551616)(Q:Value->Heap->Prop):r8 cp 186 [.int .u64 a,.int .u64 b] h Q↔Q (.int .u64 (((a+b) % 2305843009213693951:Nat):Int)) h:=by
 refine p6 ?_ Q
 rw[a8 cp e2q]
 have e:((a:Int)+(b:Int))=((a+b:Nat):Int):=by omega
 have f:=fun h=>b5t h (a+b) hx
 simp(disch:=omega)only[d8Z,↓e7f,e,f,↓j0,l0,zA,zB,zC,zD,zE,zF,zG,zH,zI,reduceCtorEq,zJ,zK,zL,zM]
theorem e0a(n:Nat):(n / 2305843009213693952 % 2305843009213693951+n % 2305843009213693952 % 2305843009213693951) % 2305843009213693951=n % 2305843009213693951:=by
 omega
theorem b6O(h:Heap)(a b:Nat)(ha:a<2305843009213693952)(hb:b<2305843009213693952)(Q:Value->Heap->Prop):r8 cp 187 [.int .u64 a,.int .u64 b] h Q↔Q (.int .u64 ((a*b % 2305843009213693951:Nat):Int)) h:=by
 refine p6 ?_ Q
 rw[a8 cp e2E]
 obtain⟨n,hn⟩:∃n,n=a*b:=⟨_,rfl⟩
 have hnl:n<=2305843009213693951*2305843009213693951:=by rw[hn];exact Nat.mul_le_mul (by omega) (by omega)
 have f1:∀(h:Heap) (Q:Value->Heap->Prop),r8 cp 85 [.int .u64 a,.int .u64 b] h Q↔Q (.tuple #[.int .u64 ((n / 18446744073709551616:Nat):Int),.int .u64 ((n % 18446744073709551616:Nat):Int)]) h:=fun h Q=>by
  have e:((a:Int)*(b:Int))=(n:Int):=by rw[hn,Int.natCast_mul]
  rw[a6t h a b (by unfold U64;omega) (by unfold U64;omega),e];rfl
 have m1:=fun x:Int=>a2c 61 (by decide) x 2305843009213693951 (by decide)
 have s1:=fun x:Int=>a1B .u64 x 61 (by decide)
 have s3:=fun x:Int=>b1j .u64 x 3 (by decide)
 have p61:(2:Int) ^ 61=2305843009213693952:=by decide
 have p3:(2:Int) ^ 3=8:=by decide
 have eor:IntKind.u64.wrap ((BitVec.ofInt IntKind.u64.bits (((n / 18446744073709551616:Nat):Int)*8) |||BitVec.ofInt IntKind.u64.bits (((n % 18446744073709551616:Nat):Int) / 2305843009213693952)).toNat:Int)=((n / 2305843009213693952:Nat):Int):=by
  rw[b4w 3 _ _ (by omega) (by rw[p3];omega) (by omega) (by omega) (by rw[p3];omega) (by omega)];omega
 have t1:Int.tmod (((n % 18446744073709551616:Nat):Int) % 2305843009213693952) 2305843009213693951=((n % 2305843009213693952 % 2305843009213693951:Nat):Int):=by
  rw[I0 _ _ (by omega)];omega
 have f2:=fun h=>b5t h (n / 2305843009213693952) (by omega)
 have f3:=fun h=>b0l h (n / 2305843009213693952 % 2305843009213693951) (n % 2305843009213693952 % 2305843009213693951) (by omega)
 simp(disch:=omega)only[d7R,↓e6O,f1,m1,s1,s3,p61,p3,eor,t1,f2,f3,↓j0,l0,zA,zB,zC,zD,zE,zF,zG,zH,zI,reduceCtorEq,zJ,zK,zL,zM]
 rw[e0a,hn]
theorem a9r(h:Heap)(a b c:Nat)(ha:a<18446744073709551616)(hb:b<18446744073709551616)(hc:c<18446744073709551616)(hf:a*b / 18446744073709551616<c)(Q:Value->Heap->Prop):
  r8 cp 181 [.int .u64 a,.int .u64 b,.int .u64 c] h Q↔Q (.tuple #[.int .u64 ((a*b / c:Nat):Int),.int .u64 ((a*b % c:Nat):Int),.bool true]) h:=by
 refine p6 ?_ Q
 rw[a8 cp e2X]
 have f1:∀(h:Heap) (Q:Value->Heap->Prop),r8 cp 85 [.int .u64 a,.int .u64 b] h Q↔Q (.tuple #[.int .u64 ((a*b / 18446744073709551616:Nat):Int),.int .u64 ((a*b % 18446744073709551616:Nat):Int)]) h:=fun h Q=>by
  rw[a6t h a b (by unfold U64;omega) (by unfold U64;omega)];rfl
 have a1:((c:Int)==0)=false:=beq_eq_false_iff_ne.2 (by omega)
 have a2:decide (((a*b / 18446744073709551616:Nat):Int)>=(c:Int))=false:=decide_eq_false (by omega)
 have f2:=fun h=>d2v h (a*b / 18446744073709551616) (a*b % 18446744073709551616) c hf (Nat.mod_lt _ (by decide)) hc
 have e:a*b / 18446744073709551616*18446744073709551616+a*b % 18446744073709551616=a*b:=by rw[Nat.mul_comm (a*b / _)];exact Nat.div_add_mod _ _
 rw[e]at f2
 simp(disch:=omega)only[d8E,↓e8k,f1,f2,a1,a2,↓j0,l0,zA,zB,zC,zD,zE,zF,zG,zH,zI,reduceCtorEq,zJ,zK,zL,zM]
theorem d8f(h:Heap)(a b c:Nat)(ha:a<18446744073709551616)(hb:b<18446744073709551616)(hc:c<18446744073709551616)(hf:a*b / 18446744073709551616<c)(Q:Value->Heap->Prop):
  r8 cp 185 [.int .u64 a,.int .u64 b,.int .u64 c] h Q↔Q (.tuple #[.int .u64 ((a*b / c:Nat):Int),.bool true]) h:=by
 refine p6 ?_ Q
 rw[a8 cp e4Z]
 have f:=fun h=>a9r h a b c ha hb hc hf
 simp(disch:=omega)only[d9i,↓e6Q,f,↓j0,l0,zA,zB,zC,zD,zE,zF,zG,zH,zI,reduceCtorEq,zJ,zK,zL,zM]
theorem d7f(h:Heap)(x n:Nat)(hx:x<2305843009213693951)(hn:1<=n)(hm:n<9223372036854775808)(Q:Value->Heap->Prop):
  r8 cp 182 [.int .u64 x,.int .i64 n] h Q↔Q (.int .i64 ((x*n / 2305843009213693951:Nat):Int)) h:=by
 refine p6 ?_ Q
 rw[a8 cp e5Q]
 have hp:x*n<=2305843009213693950*9223372036854775807:=Nat.mul_le_mul (by omega) (by omega)
 have hpn:x*n<=2305843009213693951*n:=Nat.mul_le_mul_right n (by omega)
 have hq:x*n / 2305843009213693951<=n:=Nat.div_le_of_le_mul hpn
 have a1:decide ((n:Int)<1)=false:=decide_eq_false (by omega)
 have f:∀(h:Heap) (Q:Value->Heap->Prop),r8 cp 185 [.int .u64 x,.int .u64 n,.int .u64 2305843009213693951] h Q↔Q (.tuple #[.int .u64 ((x*n / 2305843009213693951:Nat):Int),.bool true]) h:=
  fun h=>d8f h x n 2305843009213693951 (by omega) (by omega) (by omega) (by omega)
 simp(disch:=omega)only[d9r,↓e9j,f,a1,↓j0,l0,zA,zB,zC,zD,zE,zF,zG,zH,zI,reduceCtorEq,zJ,zK,zL,zM]
def W2(s:ByteArray):Nat->Nat
 |0=>0
 |i+1=>W2 s i*256+(s.data[i]?.getD 0).toNat
theorem a4K(s:ByteArray):∀i,W2 s i<256 ^ i
 |0=>by simp[W2]
 |i+1=>by
  have h1:=a4K s i
  have h2:=UInt8.toNat_lt (s.data[i]?.getD 0)
  simp only[W2,Nat.pow_succ]
  omega
theorem c6a(s:ByteArray){i:Nat}(h:i<=7):W2 s i<72057594037927936:=
 yN (a4K s i) (Nat.pow_le_pow_right (by decide) h)
theorem c6c(s:ByteArray){i:Nat}(h:i<=6):W2 s i<281474976710656:=
 yN (a4K s i) (Nat.pow_le_pow_right (by decide) h)
def b5u(s:ByteArray)(k:Nat):ByteArray:=s.extract (7*k) (min (7*k+7) s.size)
def blk(s:ByteArray)(k:Nat):Nat:=W2 (b5u s k) (b5u s k).size
theorem a8N(s:ByteArray)(k:Nat):(b5u s k).size<=7:=by
 unfold b5u
 rw[ByteArray.size_extract];omega
theorem d9S(s:ByteArray)(k:Nat):blk s k<72057594037927936:=c6a _ (a8N s k)
def a0Z(s:ByteArray)(X:Nat):Nat->Nat
 |0=>s.size+1
 |k+1=>(a0Z s X k*X % 2305843009213693951+blk s k) % 2305843009213693951
theorem b2j(s:ByteArray)(hs:s.size<=140737488355328)(X:Nat):∀k,a0Z s X k<2305843009213693951
 |0=>by simp only[a0Z];omega
 |k+1=>Nat.mod_lt _ (by decide)
abbrev K2:=Int×Int×Int
abbrev Y5:Enc K2:=Enc.pair (Enc.int .u64) (Enc.pair (Enc.int .u64) (Enc.int .u64))
structure K2.OK(r:K2):Prop where
 x:0<=r.1/\r.1<=2305843009213693951
 a:0<=r.2.1/\r.2.1<=2305843009213693951
 b:0<=r.2.2/\r.2.2<=2305843009213693951
def hOf(r:K2)(s:ByteArray):Nat:=(a0Z s r.1.toNat ((s.size+6) / 7)*r.2.1.toNat % 2305843009213693951+r.2.2.toNat) % 2305843009213693951
theorem d1m(r:K2)(s:ByteArray):hOf r s<2305843009213693951:=Nat.mod_lt _ (by decide)
def bkt(r:K2)(s:ByteArray)(n:Nat):Nat:=hOf r s*n / 2305843009213693951
theorem b5a(r:K2)(s:ByteArray){n:Nat}(hn:1<=n):bkt r s n<n:=by
 unfold bkt
 rw[Nat.div_lt_iff_lt_mul (by decide),Nat.mul_comm n]
 exact Nat.mul_lt_mul_of_pos_right (d1m r s) hn
theorem c5S(h:Heap)(s:ByteArray)(n:Nat)(hn:s.size=n)(h7:n<=7){Q:y7}(e:a7)(e0:e 0=.string s)(e3:e 3=.int .u64 ((0:Nat):Int))(e6:e 6=.int .i64 n)(e7:e 7=.int .i64 ((0:Nat):Int))
  (hQ:∀e',e' 3=.int .u64 (W2 s n:Nat)->Q (.exit 0) e' h):F9 cp (.loop a4e) e h Q:=by
 refine y6 cp _ Q (fun d e' h' =>h' =h/\∃i:Nat,i<=n/\d=n-i/\e' 0=.string s/\e' 3=.int .u64 (W2 s i:Nat)/\e' 6=.int .i64 n/\e' 7=.int .i64 i) ?_ n e h ⟨rfl,0,Nat.zero_le _,rfl,e0,e3,e6,e7⟩
 clear e0 e3 e6 e7
 rintro d e' h' ⟨rfl,i,hi,rfl,e0,e3,e6,e7⟩
 by_cases c:i<n
 ·have b1:decide ((i:Int)<(n:Int))=true:=decide_eq_true (by omega)
  have s8:=fun x:Int=>b1j .u64 x 8 (by decide)
  have p8:(2:Int) ^ 8=256:=by decide
  obtain⟨b,hb⟩:∃b,s.data[i]? =some b:=⟨_,Array.getElem?_eq_getElem (show i<s.data.size by rw[<-hn]at c;exact c)⟩
  have hlt:=c6c s (show i<=6 by omega)
  have hw:W2 s (i+1)=W2 s i*256+b.toNat:=by simp only[W2,hb,Option.getD_some]
  have hb8:b.toNat<256:=UInt8.toNat_lt b
  have eor:IntKind.u64.wrap ((BitVec.ofInt IntKind.u64.bits ((W2 s i:Int)*256) |||BitVec.ofInt IntKind.u64.bits ((b.toNat:Nat):Int)).toNat:Int)=((W2 s (i+1):Nat):Int):=by
   rw[b4w 8 _ _ (by omega) (by rw[p8];omega) (by omega) (by omega) (by rw[p8];omega) (by omega),hw];omega
  have nx:(i:Int)+1=((i+1:Nat):Int):=by omega
  simp(disch:=omega)only[a4e,b4D,↓d8p,e0,e3,e6,e7,b1,hb,s8,p8,eor,nx,↓j0,l0,zA,zB,zC,zD,zE,zF,zG,zH,zI,reduceCtorEq,zJ,zK,zL,zM]
  refine⟨n-(i+1),by omega,i+1,by omega,rfl,?_⟩
  repeat' first|assumption|rfl|apply And.intro
 ·have b1:decide ((i:Int)<(n:Int))=false:=decide_eq_false (by omega)
  have:i=n:=by omega
  subst this
  simp(disch:=omega)only[a4e,b4D,↓d8p,e0,e3,e6,e7,b1,↓j0,l0,zA,zB,zC,zD,zE,zF,zG,zH,zI,reduceCtorEq,zJ,zK,zL,zM]
  exact hQ _ e3
theorem d8s(h:Heap)(s:ByteArray)(h7:s.size<=7)(Q:Value->Heap->Prop):r8 cp 188 [.string s] h Q↔Q (.int .u64 (W2 s s.size:Nat)) h:=by
 refine p6 ?_ Q
 rw[a8 cp e3m]
 simp(disch:=omega)only[b4D,↓d8p,↓j0,l0,zA,zB,zC,zD,zE,zF,zG,zH,zI,reduceCtorEq,zJ,zK,zL,zM]
 refine c5S h s s.size rfl h7 _ rfl rfl rfl rfl fun e' e3=>?_
 simp(disch:=omega)only[b4D,↓d8p,e3,↓j0,l0,zA,zB,zC,zD,zE,zF,zG,zH,zI,reduceCtorEq,zJ,zK,zL,zM]
theorem c8R(h:Heap)(r:K2)(hr:r.OK)(s:ByteArray)(hs:s.size<=140737488355328)(b:Nat)(t:TypeId)(hob:h.obj b=.cells (Y5.enc r) t .fix){Q:y7}(e:a7)(e1:e 1=.string s)(e2:e 2=.pointer (some ⟨b,0,none⟩))(e5:e 5=.int .u64 ((s.size+1:Nat):Int))(e6:e 6=.int .i64 ((0:Nat):Int))
  (hQ:∀e',e' 2=.pointer (some ⟨b,0,none⟩)->e' 5=.int .u64 (a0Z s r.1.toNat ((s.size+6) / 7):Nat)->Q (.exit 0) e' h):F9 cp (.loop a4d) e h Q:=by
 obtain⟨N,hN⟩:∃N,N=(s.size+6) / 7:=⟨_,rfl⟩
 refine y6 cp _ Q (fun d e' h' =>h' =h/\∃k:Nat,k<=N/\d=N-k/\e' 1=.string s/\e' 2=.pointer (some ⟨b,0,none⟩)/\e' 5=.int .u64 (a0Z s r.1.toNat k:Nat)/\e' 6=.int .i64 ((7*k:Nat):Int)) ?_ N e h ⟨rfl,0,Nat.zero_le _,rfl,e1,e2,e5,e6⟩
 clear e1 e2 e5 e6
 rintro d e' h' ⟨rfl,k,hk,rfl,e1,e2,e5,e6⟩
 obtain⟨X,A,B⟩:=r
 obtain⟨hx,ha,hb⟩:=hr
 simp only at hx ha hb e5 hQ ⊢
 obtain⟨X,rfl⟩:∃x:Nat,X=x:=⟨X.toNat,by omega⟩
 simp only[Int.toNat_natCast]at e5 hQ ⊢
 have hob:h'.obj b=.cells [.int .u64 X,.int .u64 A,.int .u64 B] t .fix:=hob
 by_cases c:7*k<s.size
 ·have b1:decide (((7*k:Nat):Int)<((s.size:Nat):Int))=true:=decide_eq_true (by omega)
  have f1:=fun h=>b6O h (a0Z s X k) X (by have:=b2j s hs X k;omega) (by omega)
  have hlt:a0Z s X k*X % 2305843009213693951<2305843009213693951:=Nat.mod_lt _ (by decide)
  have f2:∀(h:Heap) (Q:Value->Heap->Prop),r8 cp 188 [.string (b5u s k)] h Q↔Q (.int .u64 (blk s k:Nat)) h:=fun h=>d8s h (b5u s k) (a8N s k)
  have f3:=fun h=>b0l h (a0Z s X k*X % 2305843009213693951) (blk s k) (by have:=d9S s k;omega)
  have nx:((7*k:Nat):Int)+7=((7*(k+1):Nat):Int):=by omega
  have mn:(if((s.size:Nat):Int)<((7*(k+1):Nat):Int)then((s.size:Nat):Int)else((7*(k+1):Nat):Int))=((min (7*k+7) s.size:Nat):Int):=by split<;>omega
  have sl:∀h,A0 (.sliceStr (.string s) (some (.int .i64 ((7*k:Nat):Int))) (some (.int .i64 ((min (7*k+7) s.size:Nat):Int)))) h=some (.string (b5u s k),h):=fun h=>by
   have k1:min (7*k+7) s.size<=s.size:=Nat.min_le_right _ _
   have k2:7*k<=min (7*k+7) s.size:=by omega
   simp(disch:=omega)only[↓j0,l0,zA,zB,zC,zD,zE,zF,zG,zH,zI,reduceCtorEq,zJ,zK,zL,zM]
   rfl
  have mm:∀h,A0 (.minmax false [.int .i64 ((7*(k+1):Nat):Int),.int .i64 ((s.size:Nat):Int)]) h=some (.int .i64 ((min (7*k+7) s.size:Nat):Int),h):=fun h=>by
   show(some (Value.int .i64 (if((s.size:Nat):Int)<((7*(k+1):Nat):Int)then((s.size:Nat):Int)else((7*(k+1):Nat):Int)))).map (fun v=>(v,h))=_
   rw[mn];rfl
  simp(disch:=omega)only[a4d,b5q,↓d8q,e1,e2,e5,e6,b1,hob,f1,f2,f3,nx,↓sl,↓mm,↓j0,l0,zA,zB,zC,zD,zE,zF,zG,zH,zI,reduceCtorEq,zJ,zK,zL,zM]
  refine⟨N-(k+1),by omega,k+1,by omega,rfl,?_⟩
  repeat' first|assumption|rfl|apply And.intro
 ·have b1:decide (((7*k:Nat):Int)<((s.size:Nat):Int))=false:=decide_eq_false (by omega)
  have:k=N:=by omega
  subst this
  simp(disch:=omega)only[a4d,b5q,↓d8q,e1,e2,e5,e6,b1,↓j0,l0,zA,zB,zC,zD,zE,zF,zG,zH,zI,reduceCtorEq,zJ,zK,zL,zM]
  exact hQ _ e2 (by rw[<-hN];exact e5)
theorem e0l(h:Heap)(r:K2)(hr:r.OK)(s:ByteArray)(hs:s.size<=140737488355328)(Q:Value->Heap->Prop):
  r8 cp 183 [.agg (Y5.enc r).toArray,.string s] h Q↔Q (.int .u64 (hOf r s:Nat)) (h.new (.cells (Y5.enc r) 182 .fix)):=by
 refine p6 ?_ Q
 rw[a8 cp e4k]
 have nx:((s.size:Nat):Int)+1=((s.size+1:Nat):Int):=by omega
 obtain⟨X,A,B⟩:=r
 have hr0:=hr
 obtain⟨hx,ha,hb⟩:=hr
 simp only at hx ha hb
 obtain⟨A,rfl⟩:∃x:Nat,A=x:=⟨A.toNat,by omega⟩
 obtain⟨B,rfl⟩:∃x:Nat,B=x:=⟨B.toNat,by omega⟩
 have en:Y5.enc (X,(A:Int),(B:Int))=[.int .u64 X,.int .u64 A,.int .u64 B]:=rfl
 simp(disch:=omega)only[b5q,↓d8q,nx,en,↓j0,l0,zA,zB,zC,zD,zE,zF,zG,zH,zI,reduceCtorEq,zJ,zK,zL,zM]
 refine c8R (h.new (.cells (Y5.enc (X,(A:Int),(B:Int))) 182 .fix)) (X,A,B) hr0 s hs h.next 182 (b8 _ _) _ rfl rfl rfl rfl fun e' e2 e5=>?_
 simp only at e5
 obtain⟨H,hH⟩:∃H,H=a0Z s X.toNat ((s.size+6) / 7):=⟨_,rfl⟩
 have hHl:H<2305843009213693951:=by rw[hH];exact b2j s hs _ _
 rw[<-hH]at e5
 have f1:=fun h=>b6O h H A (by omega) (by omega)
 have hlt:H*A % 2305843009213693951<2305843009213693951:=Nat.mod_lt _ (by decide)
 have f2:=fun h=>b0l h (H*A % 2305843009213693951) B (by omega)
 have ho:hOf (X,(A:Int),(B:Int)) s=(H*A % 2305843009213693951+B) % 2305843009213693951:=by rw[hH];rfl
 rw[ho]
 simp(disch:=omega)only[b5q,↓d8q,e2,e5,f1,f2,en,↓j0,l0,zA,zB,zC,zD,zE,zF,zG,zH,zI,reduceCtorEq,zJ,zK,zL,zM]
theorem d4m(h:Heap)(r:K2)(hr:r.OK)(s:ByteArray)(hs:s.size<=140737488355328)(n:Nat)(hn:1<=n)(hm:n<9223372036854775808)(Q:Value->Heap->Prop):
  r8 cp 180 [.agg (Y5.enc r).toArray,.string s,.int .i64 n] h Q↔Q (.int .i64 (bkt r s n:Nat)) ((h.new (.cells (Y5.enc r) 182 .fix)).new (.cells (Y5.enc r) 182 .fix)):=by
 refine p6 ?_ Q
 rw[a8 cp e3w]
 have f1:=fun h=>e0l h r hr s hs
 have f2:∀(h:Heap) (Q:Value->Heap->Prop),r8 cp 182 [.int .u64 (hOf r s:Nat),.int .i64 n] h Q↔Q (.int .i64 (bkt r s n:Nat)) h:=fun h=>d7f h (hOf r s) n (d1m r s) hn hm
 obtain⟨X,A,B⟩:=r
 have en:Y5.enc (X,A,B)=[.int .u64 X,.int .u64 A,.int .u64 B]:=rfl
 rw[en]at f1 ⊢
 simp(disch:=omega)only[d7N,↓e8Y,f1,f2,↓j0,l0,zA,zB,zC,zD,zE,zF,zG,zH,zI,reduceCtorEq,zJ,zK,zL,zM]
def dr(l:List Int)(i:Nat):Nat:=(l[i]?.getD 0).toNat
def c6p(l:List Int):Prop:=∀x∈l,U64 x
theorem e1x{l:List Int}(hl:c6p l)(i:Nat):dr l i<18446744073709551616:=by
 unfold dr
 cases h:l[i]? with
 |none=>simp
 |some x=>have:=hl x (yK h);unfold U64 at this;rw[Option.getD_some];omega
def T0(l:List Int)(i:Nat):K2:=(((dr l (3*i) % 2305843009213693950+1:Nat):Int),((dr l (3*i+1) % 2305843009213693950+1:Nat):Int),((dr l (3*i+2) % 2305843009213693951:Nat):Int))
theorem b0i(l:List Int)(i:Nat):(T0 l i).OK:=by
 have h1:=Nat.mod_lt (dr l (3*i)) (show 0<2305843009213693950 by decide)
 have h2:=Nat.mod_lt (dr l (3*i+1)) (show 0<2305843009213693950 by decide)
 have h3:=Nat.mod_lt (dr l (3*i+2)) (show 0<2305843009213693951 by decide)
 constructor<;>simp only[T0]<;>omega
def M6(l:List Int)(n:Nat):List K2:=(List.range n).map (T0 l)
theorem a0R(l:List Int)(n:Nat):(M6 l n).length=n:=by simp[M6]
theorem b4p(l:List Int)(n:Nat):M6 l (n+1)=M6 l n++[T0 l n]:=by simp[M6,List.range_succ]
theorem c8f(l:List Int)(n:Nat):∀r∈M6 l n,r.OK:=fun r hr=>by
 obtain⟨i,_,rfl⟩:=List.mem_map.1 hr
 exact b0i l i
theorem d7W(h:Heap)(l:List Int)(v:Value)(s:Lst h (Enc.int .u64) v l)(i:Nat)(Q:Value->Heap->Prop):(r8 cp 91 [v,.int .i64 i] h Q↔Q (.int .u64 (l[i]?.getD 0)) h):=by
 refine p6 ?_ Q
 rw[a8 cp e8I]
 obtain⟨a,cap,rfl,hr⟩:=s
 by_cases c:i<l.length
 ·have a1:decide ((i:Int)>=(l.length:Int))=false:=decide_eq_false (by omega)
  have hx:l[i]? =some l[i]:=yF c
  obtain⟨b,o,rfl,hb,hg⟩:=hr i _ hx
  rw[hx]
  generalize l[i]=x at*
  have hg:(h.obj b).get (o+i)=some (.int .u64 x):=a0u (by simpa [Enc.int]using hg)
  simp(disch:=omega)only[c91,↓R91,a1,hg,↓j0,l0,zA,zB,zC,zD,zE,zF,zG,zH,zI,reduceCtorEq,zJ,zK,zL,zM]
 ·have a1:decide ((i:Int)>=(l.length:Int))=true:=decide_eq_true (by omega)
  rw[List.getElem?_eq_none (by omega)]
  simp(disch:=omega)only[c91,↓R91,a1,↓j0,l0,zA,zB,zC,zD,zE,zF,zG,zH,zI,reduceCtorEq,zJ,zK,zL,zM]
theorem b1S(h:Heap)(l:List Int)(hl:c6p l)(v:Value)(s:Lst h (Enc.int .u64) v l)(i:Nat)(Q:Value->Heap->Prop):(r8 cp 91 [v,.int .i64 i] h Q↔Q (.int .u64 ((dr l i:Nat):Int)) h):=by
 have e:((dr l i:Nat):Int)=l[i]?.getD 0:=by
  unfold dr
  cases h:l[i]? with
  |none=>rfl
  |some x=>have:=hl x (yK h);unfold U64 at this;rw[Option.getD_some];omega
 rw[e];exact d7W h l v s i Q
theorem c9Z(h:Heap)(l:List Int)(hl:c6p l)(v:Value)(s:Lst h (Enc.int .u64) v l)(i:Nat)(Q:Value->Heap->Prop):(r8 cp 89 [v,.int .i64 i] h Q↔Q (.int .u64 ((dr l i % 2305843009213693950+1:Nat):Int)) h):=by
 refine p6 ?_ Q
 rw[a8 cp e6y]
 have f:=fun Q=>b1S h l hl v s i Q
 have t1:Int.tmod ((dr l i:Nat):Int) 2305843009213693950=((dr l i % 2305843009213693950:Nat):Int):=by rw[I0 _ _ (by omega)];rfl
 have t2:((dr l i % 2305843009213693950:Nat):Int)+1=((dr l i % 2305843009213693950+1:Nat):Int):=by omega
 simp(disch:=omega)only[c89,↓R89,f,t1,t2,↓j0,l0,zA,zB,zC,zD,zE,zF,zG,zH,zI,reduceCtorEq,zJ,zK,zL,zM]
theorem d7X(h:Heap)(l:List Int)(hl:c6p l)(v:Value)(s:Lst h (Enc.int .u64) v l)(n:Int)(hn:n<=8){Q:Value->Heap->Prop}
  (hQ:∀h' rv rb,Old h h' ->F1 h' 182 Y5 rv (M6 l n.toNat) rb->h.next<=rb->Q rv h'):r8 cp 78 [v,.int .i64 n] h Q:=by
 rw[a8 cp e7w]
 obtain⟨m,hm⟩:∃m,m=n.toNat:=⟨_,rfl⟩
 have mm:∀h,A0 (.minmax false [.int .i64 (m:Nat),.int .i64 9]) h=some (.int .i64 (m:Nat),h):=fun h=>by
  show(some (Value.int .i64 (if(9:Int)<((m:Nat):Int)then 9 else((m:Nat):Int)))).map (fun v=>(v,h))=_
  rw[if_neg (by omega)];rfl
 have mx:∀h,A0 (.minmax true [.int .i64 n,.int .i64 0]) h=some (.int .i64 (m:Nat),h):=fun h=>by
  show(some (Value.int .i64 (if(0:Int)>n then 0 else n))).map (fun v=>(v,h))=_
  rw[show(if(0:Int)>n then 0 else n)=((m:Nat):Int) by split<;>omega];rfl
 simp(disch:=omega)only[c78,↓R78,↓mx,↓mm,↓j0,l0,zA,zB,zC,zD,zE,zF,zG,zH,zI,reduceCtorEq,zJ,zK,zL,zM]
 refine y6 cp b0L _ (fun d e hh=>∃(j b:Nat) (rv:Value),j+d=m/\Old h hh/\F1 hh 182 Y5 rv (M6 l j) b/\h.next<=b/\e 0=v/\e 5=rv/\e 9=.int .i64 m/\e 10=.int .i64 j) ?_ m _ _
  ⟨0,h.next,.slice none 0 0,by omega,Old.refl _,F1.nil _ _ _ _,yP _,rfl,rfl,rfl,rfl⟩
 rintro d e hh ⟨j,b,rv,hj,o,V,hb,e0,e5,e9,e10⟩
 have s' :=s.old o
 by_cases c:j<m
 ·have b1:decide ((j:Int)<(m:Int))=true:=decide_eq_true (by omega)
  have k0:3*(j:Int)=((3*j:Nat):Int):=by omega
  have k1:((3*j:Nat):Int)+1=((3*j+1:Nat):Int):=by omega
  have k2:((3*j:Nat):Int)+2=((3*j+2:Nat):Int):=by omega
  have f0:=fun i Q=>c9Z hh l hl v s' i Q
  have f1:=fun i Q=>b1S hh l hl v s' i Q
  have f2:=fun h=>b5t h (dr l (3*j+2)) (e1x hl _)
  have nx:(j:Int)+1=((j+1:Nat):Int):=by omega
  simp(disch:=omega)only[b0L,c78,↓R78,e0,e5,e9,e10,b1,k0,k1,k2,f0,f1,f2,F8,List.append_nil,↓j0,l0,zA,zB,zC,zD,zE,zF,zG,zH,zI,reduceCtorEq,zJ,zK,zL,zM]
  have V2:F1 (hh.new (.cells (Y5.enc (T0 l j)) 182 .grow)) 182 Y5 rv (M6 l j) b:=V.keep (Nat.le_succ _) fun hb=>b7 _ _ (by omega)
  refine V2.app (m:=[T0 l j]) rfl (W8 Y5 hh (T0 l j) 182 1) (by rw[List.length_singleton,a0R];omega) (by rw[List.length_singleton,a0R];omega) fun v' h' b' V3 hn' hb' ho' =>?_
  have hn'' :hh.next+1<=h'.next:=hn'
  simp(disch:=first|omega| (simp only[f4,l6,ne_eq];omega))only[c78,↓R78,e0,e5,e9,e10,nx,↓j0,l0,zA,zB,zC,zD,zE,zF,zG,zH,zI,reduceCtorEq,zJ,zK,zL,zM]
  have on:=o.next
  refine⟨d-1,by omega,j+1,b',v',by omega,⟨by omega,fun x hx=>?_⟩,?_,?_,?_⟩
  ·rw[ho' x (by show x<hh.next+1;omega) (.inr (by omega)),b7 _ _ (by omega),o.obj x hx]
  ·rw[b4p];exact V3
  ·rcases hb' with rfl|hb'
   ·exact hb
   ·exact yR (by omega:h.next<=hh.next+1) hb'
  ·repeat' first|assumption|rfl|apply And.intro
 ·have b1:decide ((j:Int)<(m:Int))=false:=decide_eq_false (by omega)
  obtain rfl:j=m:=by omega
  simp(disch:=omega)only[b0L,c78,↓R78,e0,e5,e9,e10,b1,↓j0,l0,zA,zB,zC,zD,zE,zF,zG,zH,zI,reduceCtorEq,zJ,zK,zL,zM]
  exact hQ hh rv b o (by rw[<-hm];exact V) hb
theorem mm_min(x y:Int)(h:Heap):A0 (.minmax false [.int .i64 x,.int .i64 y]) h=some (.int .i64 (min x y),h):=by
 show(some (Value.int .i64 (if y<x then y else x))).map (fun v=>(v,h))=_
 rw[a5n];rfl
theorem mm_max(x y:Int)(h:Heap):A0 (.minmax true [.int .i64 x,.int .i64 y]) h=some (.int .i64 (max x y),h):=by
 show(some (Value.int .i64 (if y>x then y else x))).map (fun v=>(v,h))=_
 rw[a1m];rfl
theorem J9(n:Nat)(k:IntKind):F8 n [.int k 0]=ints k (List.replicate n 0):=by
 induction n with
 |zero=>rfl
 |succ n ih=>rw[List.replicate_succ];show[Value.int k 0]++F8 n [.int k 0]=_;rw[ih];rfl
theorem C5(c:List Value)(o:Nat)(v:Value):setAt c o [v]=c.set o v:=rfl
structure OldX(X:Nat)(h h' :Heap):Prop where
 next:h.next<=h'.next
 obj:∀b,b<h.next->b≠X->h'.obj b=h.obj b
theorem Old.x{h h' :Heap}(o:Old h h')(X:Nat):OldX X h h' :=⟨o.next,fun b hb _=>o.obj b hb⟩
theorem OldX.refl(X:Nat)(h:Heap):OldX X h h:=⟨yP _,fun _ _ _=>rfl⟩
theorem OldX.trans{X:Nat}{a b c:Heap}(h:OldX X a b)(k:OldX X b c):OldX X a c:=⟨yR h.next k.next,fun x hx hn=>by rw[k.obj x (yN hx h.next) hn,h.obj x hx hn]⟩
theorem OldX.fresh{X:Nat}{a b:Heap}(h:OldX X a b)(hX:a.next<=X):Old a b:=⟨h.next,fun x hx=>h.obj x hx (by omega)⟩
def U6(c:List Int)(i:Nat):Int:=c[i]?.getD 0
def ix(rows:List K2)(w:Nat)(key:ByteArray)(r:Nat):Nat:=r*w+bkt (rows[r]?.getD (0,0,0)) key w
def K4(c:List Int)(f:Nat->Nat):Nat->Int
 |0=>U6 c (f 0)
 |k+1=>min (K4 c f k) (U6 c (f (k+1)))
def a0a(c:List Int)(f:Nat->Nat)(want:Int):Nat->List Int
 |0=>c
 |k+1=>(a0a c f want k).set (f k) (max (U6 (a0a c f want k) (f k)) want)
theorem b3p(c:List Int)(f:Nat->Nat)(want:Int):∀k,(a0a c f want k).length=c.length
 |0=>rfl
 |k+1=>by simp only[a0a,List.length_set,b3p c f want k]
theorem b2l{r R w b:Nat}(hr:r<R)(hb:b<w):r*w+b<R*w:=by
 have h1:(r+1)*w<=R*w:=Nat.mul_le_mul_right w hr
 rw[Nat.add_mul,Nat.one_mul]at h1;omega
structure SlotAt(h:Heap)(p nb:Nat)(rv:Value)(rb:Nat)(rows:List K2)(w:Nat)(c:List Int):Prop where
 op:h.obj p=.cells [rv,.int .i64 w,.slice (some ⟨nb,0,none⟩) (rows.length*w) (rows.length*w)] 211 .fix
 lp:p<h.next
 on:h.obj nb=.cells (ints .i64 c) 2 .grow
 ln:nb<h.next
 pn:p≠nb
 v:F1 h 182 Y5 rv rows rb
 rn:rb≠nb
 hr:1<=rows.length/\rows.length<=8
 hw:1<=w/\w<=4096
 len:c.length=rows.length*w
 ok:∀r∈rows,r.OK
 c64:∀x∈c,C2 x
section
variable {h h' :Heap} {p nb rb w:Nat} {rv:Value} {rows:List K2} {c:List Int}
theorem SlotAt.oldx(S:SlotAt h p nb rv rb rows w c){X:Nat}(o:OldX X h h')(hp:p≠X)(hn:nb≠X)(hb:rb≠X):SlotAt h' p nb rv rb rows w c where
 op:=(o.obj p S.lp hp).trans S.op
 lp:=yN S.lp o.next
 on:=(o.obj nb S.ln hn).trans S.on
 ln:=yN S.ln o.next
 pn:=S.pn
 v:=S.v.keep o.next fun hl=>o.obj rb hl hb
 rn:=S.rn
 hr:=S.hr
 hw:=S.hw
 len:=S.len
 ok:=S.ok
 c64:=S.c64
theorem SlotAt.old(S:SlotAt h p nb rv rb rows w c)(o:Old h h'):SlotAt h' p nb rv rb rows w c where
 op:=(o.obj p S.lp).trans S.op
 lp:=yN S.lp o.next
 on:=(o.obj nb S.ln).trans S.on
 ln:=yN S.ln o.next
 pn:=S.pn
 v:=S.v.keep o.next fun hl=>o.obj rb hl
 rn:=S.rn
 hr:=S.hr
 hw:=S.hw
 len:=S.len
 ok:=S.ok
 c64:=S.c64
theorem SlotAt.put(S:SlotAt h p nb rv rb rows w c){d:List Int}(hd:d.length=c.length)(d64:∀x∈d,C2 x):SlotAt (h.upd nb (.cells (ints .i64 d) 2 .grow)) p nb rv rb rows w d where
 op:=(a6 _ _ S.pn).trans S.op
 lp:=S.lp
 on:=a9 _ _ _
 ln:=S.ln
 pn:=S.pn
 v:=S.v.keep (yP _) fun hl=>a6 _ _ S.rn
 rn:=S.rn
 hr:=S.hr
 hw:=S.hw
 len:=hd.trans S.len
 ok:=S.ok
 c64:=d64
theorem SlotAt.ix_lt(S:SlotAt h p nb rv rb rows w c)(key:ByteArray){r:Nat}(hr:r<rows.length):ix rows w key r<rows.length*w:=b2l hr (b5a _ key S.hw.1)
theorem SlotAt.rw_le(S:SlotAt h p nb rv rb rows w c):rows.length*w<=32768:=Nat.mul_le_mul S.hr.2 S.hw.2
theorem SlotAt.get(S:SlotAt h p nb rv rb rows w c){i:Nat}(hi:i<rows.length*w):c[i]? =some (U6 c i)/\C2 (U6 c i):=by
 have h1:c[i]? =some (c[i]'(by rw[S.len];exact hi)):=yF _
 unfold U6
 rw[h1]
 exact⟨rfl,S.c64 _ (yK h1)⟩
end
theorem d9C{c:List Int}{i:Nat}{x:Int}(h:∀y∈c,C2 y)(hx:C2 x):∀y∈c.set i x,C2 y:=fun y hy=>by
 rcases List.mem_or_eq_of_mem_set hy with hy|rfl
 ·exact h y hy
 ·exact hx
theorem b5m(h:Heap)(rv:Value)(rb:Nat)(rows:List K2)(w:Nat)(V:F1 h 182 Y5 rv rows rb)(ok:∀r∈rows,r.OK)(hr:1<=rows.length/\rows.length<=8)(hw:1<=w/\w<=4096){Q:Value->Heap->Prop}
  (hQ:∀h' p nb,Old h h' ->SlotAt h' p nb rv rb rows w (List.replicate (rows.length*w) 0)->h.next<=p->h.next<=nb->Q (.pointer (some ⟨p,0,none⟩)) h'):
  r8 cp 94 [rv,.int .i64 w] h Q:=by
 rw[a8 cp e6Y]
 obtain⟨a,cap,e,hc⟩:=V.val
 have hmul:rows.length*w<=32768:=Nat.mul_le_mul hr.2 hw.2
 have a1:((rows.length:Int)==0)=false:=beq_eq_false_iff_ne.2 (by omega)
 have a2:decide ((w:Int)<1)=false:=decide_eq_false (by omega)
 have k1:(rows.length:Int)*(w:Int)=((rows.length*w:Nat):Int):=by rw[Int.natCast_mul]
 have k2:(((rows.length*w:Nat):Int)).toNat=rows.length*w:=Int.toNat_natCast _
 have z0:¬((rows.length*w:Nat):Int)<0:=by omega
 subst e
 simp(disch:=omega)only[c94,↓R94,a1,a2,k1,k2,J9,↓j0,l0,zA,zB,zC,zD,zE,zF,zG,zH,zI,reduceCtorEq,zJ,zK,zL,zM]
 refine hQ _ (h.next+1) h.next (((Old.refl h).more _).more _) ⟨?_,?_,?_,?_,?_,?_,?_,hr,hw,by simp,ok,fun x hx=>by rw[(List.mem_replicate.1 hx).2];unfold C2;omega⟩ (by omega) (yP _)
 ·exact K8 _ _ _
 ·exact Nat.lt_succ_self _
 ·rw[b7 _ _ (by simp only[f4];omega)];exact b8 _ _
 ·simp only[f4];omega
 ·omega
 ·exact V.keep (by simp only[f4];omega) fun hl=>by rw[b7 _ _ (by simp only[f4];omega),b7 _ _ (by omega)]
 ·rcases V.at (by omega)with⟨_,_,_,hl,_⟩;omega
theorem d3e{h:Heap}{p nb rb w:Nat}{rv:Value}{rows:List K2}{c:List Int}(S:SlotAt h p nb rv rb rows w c)(key:ByteArray)(hs:key.size<=140737488355328)(r:Nat)(hr:r<rows.length){Q:Value->Heap->Prop}
  (hQ:∀h',Old h h' ->Q (.pointer (some ⟨nb,ix rows w key r,none⟩)) h'):r8 cp 174 [.pointer (some ⟨p,0,none⟩),.int .i64 r,.string key] h Q:=by
 rw[a8 cp e5X]
 have hx:rows[r]? =some rows[r]:=yF hr
 obtain⟨x,hxx⟩:∃x,x=rows[r]:=⟨_,rfl⟩
 rw[<-hxx]at hx
 obtain⟨cap,e,hrd⟩:=S.v.read hx
 have hrd:(h.obj rb).read (r*3) 3=some (Y5.enc x):=by rw[Nat.zero_add]at hrd;exact hrd
 have xok:=S.ok x (yK hx)
 have op:=S.op
 have lp:=S.lp
 have h8:=S.hr
 have hw:=S.hw
 have hlt:=S.ix_lt key hr
 have hle:=S.rw_le
 rw[e]at op
 have f:=fun h=>d4m h x xok key hs w hw.1 (by omega)
 have hix:ix rows w key r=r*w+bkt x key w:=by unfold ix;rw[hx];rfl
 have k1:(r:Int)*(w:Int)=((r*w:Nat):Int):=by rw[Int.natCast_mul]
 have k2:((r*w:Nat):Int)+(bkt x key w:Nat)=((ix rows w key r:Nat):Int):=by rw[hix];omega
 have k3:(((ix rows w key r:Nat):Int)).toNat=ix rows w key r:=Int.toNat_natCast _
 simp(disch:=first|omega| (simp only[f4,l6,ne_eq];omega))only[d7K,↓e6u,op,hrd,f,k1,k2,k3,↓j0,l0,zA,zB,zC,zD,zE,zF,zG,zH,zI,reduceCtorEq,zJ,zK,zL,zM]
 exact hQ _ (((Old.refl h).more _).more _)
theorem b2y{h:Heap}{p nb rb w:Nat}{rv:Value}{rows:List K2}{c:List Int}(S:SlotAt h p nb rv rb rows w c)(key:ByteArray)(hs:key.size<=140737488355328){Q:Value->Heap->Prop}
  (hQ:∀h',Old h h' ->Q (.int .i64 (K4 c (ix rows w key) (rows.length-1))) h'):r8 cp 172 [.pointer (some ⟨p,0,none⟩),.string key] h Q:=by
 rw[a8 cp d9H]
 have h8:=S.hr
 simp(disch:=omega)only[a9T,↓c5t,D3,↓j0,l0,zA,zB,zC,zD,zE,zF,zG,zH,zI,reduceCtorEq,zJ,zK,zL,zM]
 refine d3e S key hs 0 (by omega) fun h1 o1=>?_
 have S1:=S.old o1
 obtain⟨hg,_⟩:=S1.get (S1.ix_lt key (show 0<rows.length by omega))
 have hg:=B0 .i64 _ hg
 have on:=S1.on
 simp(disch:=omega)only[a9T,↓c5t,on,hg,↓j0,l0,zA,zB,zC,zD,zE,zF,zG,zH,zI,reduceCtorEq,zJ,zK,zL,zM]
 refine y6 cp a3W _ (fun d e hh=>∃j:Nat,j+1+d=rows.length/\Old h hh/\e 0=.pointer (some ⟨p,0,none⟩)/\e 1=.string key/\e 5=.int .i64 (K4 c (ix rows w key) j)/\e 6=.int .i64 ((j+1:Nat):Int)) ?_ (rows.length-1) _ _
  ⟨0,by omega,o1,rfl,rfl,rfl,rfl⟩
 rintro d e hh ⟨j,hj,o,e0,e1,e5,e6⟩
 have S2:=S.old o
 have op:=S2.op
 obtain⟨a,cap,er,hc⟩:=S2.v.val
 rw[er]at op
 by_cases cj:j+1<rows.length
 ·have b1:decide (((j+1:Nat):Int)<(rows.length:Int))=true:=decide_eq_true (by omega)
  have nx:((j+1:Nat):Int)+1=((j+1+1:Nat):Int):=by omega
  simp(disch:=omega)only[a3W,a9T,↓c5t,e0,e1,e5,e6,op,b1,↓j0,l0,zA,zB,zC,zD,zE,zF,zG,zH,zI,reduceCtorEq,zJ,zK,zL,zM]
  refine d3e S2 key hs (j+1) cj fun h' o' =>?_
  have S' :=S2.old o'
  obtain⟨hg,_⟩:=S'.get (S'.ix_lt key cj)
  have hg:=B0 .i64 _ hg
  have on:=S'.on
  simp(disch:=omega)only[a9T,↓c5t,e0,e1,e5,e6,on,hg,↓mm_min,nx,↓j0,l0,zA,zB,zC,zD,zE,zF,zG,zH,zI,reduceCtorEq,zJ,zK,zL,zM]
  refine⟨d-1,by omega,j+1,by omega,o.trans o',?_⟩
  repeat' first|assumption|rfl|apply And.intro
 ·have b1:decide (((j+1:Nat):Int)<(rows.length:Int))=false:=decide_eq_false (by omega)
  obtain rfl:j=rows.length-1:=by omega
  simp(disch:=omega)only[a3W,a9T,↓c5t,e0,e1,e5,e6,op,b1,↓j0,l0,zA,zB,zC,zD,zE,zF,zG,zH,zI,reduceCtorEq,zJ,zK,zL,zM]
  exact hQ _ o
theorem d3r{h:Heap}{p nb rb w:Nat}{rv:Value}{rows:List K2}{c:List Int}(S:SlotAt h p nb rv rb rows w c){Q:Value->Heap->Prop}
  (hQ:∀h',OldX nb h h' ->SlotAt h' p nb rv rb rows w (List.replicate (rows.length*w) 0)->Q (.tuple #[]) h'):r8 cp 159 [.pointer (some ⟨p,0,none⟩)] h Q:=by
 rw[a8 cp e2M]
 have op:=S.op
 have on:=S.on
 have len:=S.len
 have hw0:(ints .i64 (List.replicate (rows.length*w) 0)).length<=(ints .i64 c).length:=by simp[ints,len]
 have hset:setAt (ints .i64 c) 0 (ints .i64 (List.replicate (rows.length*w) 0))=ints .i64 (List.replicate (rows.length*w) 0):=by
  have:=Z6 [] (ints .i64 (List.replicate (rows.length*w) 0)) (ints .i64 c) hw0
  rw[List.nil_append,List.nil_append,List.length_nil,List.drop_eq_nil_of_le (by simp[ints,len]),List.append_nil]at this
  exact this
 simp(disch:=omega)only[d9f,↓e6v,op,on,D3,J9,hset,List.length_replicate,len,yP,↓j0,l0,zA,zB,zC,zD,zE,zF,zG,zH,zI,reduceCtorEq,zJ,zK,zL,zM]
 exact hQ _ ⟨yP _,fun b _ hb=>a6 _ _ hb⟩ (S.put (by simp[len]) fun x hx=>by rw[(List.mem_replicate.1 hx).2];unfold C2;omega)
def a1K(c:List Int)(f:Nat->Nat)(R:Nat)(cost:Int):List Int:=if cost<1 then c else a0a c f (M9 (K4 c f (R-1)+cost)) R
theorem a9l{h:Heap}{p nb rb w:Nat}{rv:Value}{rows:List K2}{c:List Int}(S:SlotAt h p nb rv rb rows w c)(key:ByteArray):∀k,k<rows.length->C2 (K4 c (ix rows w key) k)
 |0,hk=>(S.get (S.ix_lt key hk)).2
 |k+1,hk=>by
  have h1:=a9l S key k (by omega)
  have h2:=(S.get (S.ix_lt key hk)).2
  simp only[K4];unfold C2 at*;omega
theorem add_ok'{h:Heap}{p nb rb w:Nat}{rv:Value}{rows:List K2}{c:List Int}(S:SlotAt h p nb rv rb rows w c)(key:ByteArray)(hs:key.size<=140737488355328)(cost:Int)(hc:C2 cost){Q:Value->Heap->Prop}
  (hQ:∀h',OldX nb h h' ->SlotAt h' p nb rv rb rows w (a1K c (ix rows w key) rows.length cost)->Q (.tuple #[]) h'):r8 cp 160 [.pointer (some ⟨p,0,none⟩),.string key,.int .i64 cost] h Q:=by
 rw[a8 cp e2z]
 have h8:=S.hr
 unfold a1K at hQ
 by_cases c1:cost<1
 ·have a1:=decide_eq_true c1
  rw[if_pos c1]at hQ
  simp(disch:=omega)only[b0y,↓c6I,D3,a1,↓j0,l0,zA,zB,zC,zD,zE,zF,zG,zH,zI,reduceCtorEq,zJ,zK,zL,zM]
  exact hQ _ (OldX.refl _ _) S
 have a1:=decide_eq_false c1
 rw[if_neg c1]at hQ
 simp(disch:=omega)only[b0y,↓c6I,D3,a1,↓j0,l0,zA,zB,zC,zD,zE,zF,zG,zH,zI,reduceCtorEq,zJ,zK,zL,zM]
 refine b2y S key hs fun h1 o1=>?_
 have S1:=S.old o1
 have lin:=a9l S key (rows.length-1) (by omega)
 obtain⟨want,hwant⟩:∃x,x=M9 (K4 c (ix rows w key) (rows.length-1)+cost):=⟨_,rfl⟩
 have w64:C2 want:=by rw[hwant];exact a1S _
 have fs:=fun h=>N1 h _ cost lin hc
 have op:=S1.op
 obtain⟨a,cap,er,hcap⟩:=S1.v.val
 rw[er]at op
 rw[<-hwant]at hQ
 simp(disch:=omega)only[b0y,↓c6I,fs,<-hwant,op,↓j0,l0,zA,zB,zC,zD,zE,zF,zG,zH,zI,reduceCtorEq,zJ,zK,zL,zM]
 refine y6 cp a3Y _ (fun d e hh=>∃j:Nat,j+d=rows.length/\OldX nb h hh/\SlotAt hh p nb rv rb rows w (a0a c (ix rows w key) want j)/\e 0=.pointer (some ⟨p,0,none⟩)/\e 1=.string key/\e 6=.int .i64 want/\e 24=.int .i64 rows.length/\e 25=.int .i64 j) ?_ rows.length _ _
  ⟨0,by omega,o1.x nb,S1,rfl,rfl,rfl,rfl,rfl⟩
 rintro d e hh ⟨j,hj,o,S2,e0,e1,e6,e24,e25⟩
 by_cases cj:j<rows.length
 ·have b1:decide ((j:Int)<(rows.length:Int))=true:=decide_eq_true (by omega)
  have nx:(j:Int)+1=((j+1:Nat):Int):=by omega
  simp(disch:=omega)only[a3Y,b0y,↓c6I,e0,e1,e6,e24,e25,b1,↓j0,l0,zA,zB,zC,zD,zE,zF,zG,zH,zI,reduceCtorEq,zJ,zK,zL,zM]
  refine d3e S2 key hs j cj fun h' o' =>?_
  have S' :=S2.old o'
  have hi:=S'.ix_lt key cj
  obtain⟨hg,g64⟩:=S'.get hi
  have hg:=B0 .i64 _ hg
  have on:=S'.on
  have len:=S'.len
  have m64:C2 (max (U6 (a0a c (ix rows w key) want j) (ix rows w key j)) want):=by unfold C2 at*;omega
  have S3:=S'.put (d:=a0a c (ix rows w key) want (j+1)) (by simp only[a0a,List.length_set]) (by simp only[a0a];exact d9C S'.c64 m64)
  simp only[a0a]at S3
  simp(disch:=omega)only[b0y,↓c6I,e0,e1,e6,e24,e25,on,hg,↓mm_max,nx,C5,E9,z8,len,↓j0,l0,zA,zB,zC,zD,zE,zF,zG,zH,zI,reduceCtorEq,zJ,zK,zL,zM]
  refine⟨d-1,by omega,j+1,by omega,(o.trans (o'.x nb)).trans ⟨yP _,fun b _ hb=>a6 _ _ hb⟩,S3,?_⟩
  repeat' first|assumption|rfl|apply And.intro
 ·have b1:decide ((j:Int)<(rows.length:Int))=false:=decide_eq_false (by omega)
  obtain rfl:j=rows.length:=by omega
  simp(disch:=omega)only[a3Y,b0y,↓c6I,e0,e1,e6,e24,e25,b1,↓j0,l0,zA,zB,zC,zD,zE,zF,zG,zH,zI,reduceCtorEq,zJ,zK,zL,zM]
  exact hQ _ o S2
theorem b0n(c:List Int)(i j:Nat)(x:Int):U6 (c.set i x) j=if i=j/\i<c.length then x else U6 c j:=by
 unfold U6
 rw[List.getElem?_set]
 by_cases h:i=j
 ·subst h
  by_cases h2:i<c.length
  ·rw[if_pos rfl,if_pos h2,if_pos ⟨rfl,h2⟩];rfl
  ·rw[if_pos rfl,if_neg h2,if_neg (fun h=>h2 h.2),List.getElem?_eq_none (by omega)]
 ·rw[if_neg h,if_neg (fun k=>h k.1)]
theorem b0t(c:List Int)(f:Nat->Nat)(want:Int):∀k j,U6 c j<=U6 (a0a c f want k) j
 |0,j=>yQ _
 |k+1,j=>by
  have ih:=b0t c f want k j
  simp only[a0a]
  rw[b0n]
  split
  ·rename_i h;rw[h.1];omega
  ·exact ih
theorem a1W(c:List Int)(f:Nat->Nat)(want:Int):∀k j,U6 (a0a c f want k) j<=max (U6 c j) want
 |0,j=>by simp only[a0a];omega
 |k+1,j=>by
  have ih:=a1W c f want k j
  simp only[a0a]
  rw[b0n]
  split
  ·rename_i h;rw[h.1];omega
  ·exact ih
theorem b6v(c:List Int)(f:Nat->Nat)(want:Int):∀k r,r<k->f r<c.length->want<=U6 (a0a c f want k) (f r)
 |0,r,h,_=>by omega
 |k+1,r,h,hl=>by
  simp only[a0a]
  rw[b0n,b3p]
  by_cases e:r=k
  ·subst e;rw[if_pos ⟨rfl,hl⟩];omega
  ·have ih:=b6v c f want k r (by omega) hl
   split
   ·omega
   ·exact ih
theorem c7I(c:List Int)(f:Nat->Nat)(want:Int){k r:Nat}(h:r<k)(hl:f r<c.length):U6 (a0a c f want k) (f r)=max (U6 c (f r)) want:=by
 have h1:=b0t c f want k (f r)
 have h2:=a1W c f want k (f r)
 have h3:=b6v c f want k r h hl
 omega
theorem X9(c:List Int)(f:Nat->Nat):∀k,∃r,r<=k/\K4 c f k=U6 c (f r)
 |0=>⟨0,yP _,rfl⟩
 |k+1=>by
  obtain⟨r,h1,h2⟩:=X9 c f k
  simp only[K4]
  by_cases e:K4 c f k<=U6 c (f (k+1))
  ·exact⟨r,by omega,by omega⟩
  ·exact⟨k+1,yP _,by omega⟩
theorem d7T(c:List Int)(f:Nat->Nat)(R:Nat)(cost:Int)(j:Nat):U6 c j<=U6 (a1K c f R cost) j:=by
 unfold a1K
 split
 ·exact yQ _
 ·exact b0t _ _ _ _ _
def Uni(c:List Int)(f:Nat->Nat)(R:Nat)(s:Int):Prop:=∀r,r<R->U6 c (f r)=s
theorem Uni.least{c:List Int}{f:Nat->Nat}{R:Nat}{s:Int}(u:Uni c f R s)(hR:1<=R):K4 c f (R-1)=s:=by
 obtain⟨r,h1,h2⟩:=X9 c f (R-1)
 rw[h2];exact u r (by omega)
theorem Uni.add{c:List Int}{f:Nat->Nat}{R:Nat}{s:Int}(u:Uni c f R s)(hR:1<=R)(hs:0<=s/\s<=9223372036854775807)(hf:∀r,r<R->f r<c.length)(cost:Int):Uni (a1K c f R cost) f R (if cost<1 then s else M9 (s+cost)):=fun r hr=>by
 unfold a1K
 by_cases h:cost<1
 ·rw[if_pos h,if_pos h];exact u r hr
 ·rw[if_neg h,if_neg h,c7I _ _ _ hr (hf r hr),u.least hR,u r hr]
  unfold M9
  split
  ·omega
  ·split<;>omega
theorem Lst.nil{α:Type}(h:Heap)(E:Enc α):Lst h E (.slice none 0 0) []:=⟨none,0,rfl,fun i x hx=>by simp at hx⟩
theorem c5o(h:Heap)(key:ByteArray)(Q:Value->Heap->Prop):r8 cp 172 [.pointer none,.string key] h Q↔Q (.int .i64 0) h:=by
 refine p6 ?_ Q
 rw[a8 cp d9H]
 simp(disch:=omega)only[a9T,↓c5t,D3,↓j0,l0,zA,zB,zC,zD,zE,zF,zG,zH,zI,reduceCtorEq,zJ,zK,zL,zM]
def a0l(n c:Nat):Nat:=if n % c=0 then n / c else n / c+1
theorem e5C(h:Heap)(a b c:Nat)(ha:a<18446744073709551616)(hb:b<18446744073709551616)(hc:c<18446744073709551616)(hf:a*b / 18446744073709551616<c)(hq:a*b / c<18446744073709551615)(Q:Value->Heap->Prop):
  r8 cp 179 [.int .u64 a,.int .u64 b,.int .u64 c] h Q↔Q (.tuple #[.int .u64 (a0l (a*b) c:Nat),.bool true]) h:=by
 refine p6 ?_ Q
 rw[a8 cp e1E]
 have f:=fun h=>a9r h a b c ha hb hc hf
 obtain⟨n,hn⟩:∃n,n=a*b:=⟨_,rfl⟩
 rw[<-hn]at f hq ⊢
 have a2:(((n / c:Nat):Int)==18446744073709551615)=false:=beq_eq_false_iff_ne.2 (by omega)
 by_cases h0:n % c=0
 ·have a1:decide (((n % c:Nat):Int)>0)=false:=decide_eq_false (by omega)
  have e:a0l n c=n / c:=by unfold a0l;rw[if_pos h0]
  rw[e]
  simp(disch:=omega)only[c7g,↓e5A,f,a1,a2,↓j0,l0,zA,zB,zC,zD,zE,zF,zG,zH,zI,reduceCtorEq,zJ,zK,zL,zM]
 ·have a1:decide (((n % c:Nat):Int)>0)=true:=decide_eq_true (by omega)
  have e:((a0l n c:Nat):Int)=((n / c:Nat):Int)+1:=by unfold a0l;rw[if_neg h0];omega
  rw[e]
  simp(disch:=omega)only[c7g,↓e5A,f,a1,a2,↓j0,l0,zA,zB,zC,zD,zE,zF,zG,zH,zI,reduceCtorEq,zJ,zK,zL,zM]
structure RP where
 x:Nat
 sb:Nat
 tb:Nat
 ps:Nat->Nat
 nbs:Nat->Nat
 rv:Value
 rb:Nat
 rows:List K2
 N:Nat
 w:Nat
 W:Int
 L:Int
 part:Bool
abbrev d5g(r:RP)(now:Int):List Value:=[.slice (some ⟨r.sb,0,none⟩) r.N r.N,.slice (some ⟨r.tb,0,none⟩) r.N r.N,.int .i64 r.W,.int .i64 r.rows.length,.int .i64 r.L,.bool r.part,.int .i64 now]
structure RingAt(h:Heap)(r:RP)(now:Int)(st:List Int)(cs:Nat->List Int):Prop where
 ox:h.obj r.x=.cells (d5g r now) 201 .fix
 lx:r.x<h.next
 os:h.obj r.sb=.cells ((List.range r.N).map fun i=>Value.pointer (some ⟨r.ps i,0,none⟩)) 202 .grow
 ls:r.sb<h.next
 ot:h.obj r.tb=.cells (ints .i64 st) 2 .grow
 lt:r.tb<h.next
 len:st.length=r.N
 s64:∀s∈st,C2 s
 hN:2<=r.N/\r.N<=65
 hW:1<=r.W/\r.W<=1099511627776
 hL:C2 r.L
 sl:∀i,i<r.N->SlotAt h (r.ps i) (r.nbs i) r.rv r.rb r.rows r.w (cs i)
 nn:∀i j,i<r.N->j<r.N->i≠j->r.nbs i≠r.nbs j
 pn:∀i j,i<r.N->j<r.N->r.ps i≠r.nbs j
 xn:∀i,i<r.N->r.x≠r.nbs i/\r.sb≠r.nbs i/\r.tb≠r.nbs i
 px:∀i,i<r.N->r.ps i≠r.x/\r.ps i≠r.tb
 xx:r.x≠r.sb/\r.x≠r.tb/\r.sb≠r.tb
 rx:r.rb≠r.x/\r.rb≠r.tb
section
variable {h h' :Heap} {r:RP} {now:Int} {st:List Int} {cs:Nat->List Int}
theorem RingAt.old(R:RingAt h r now st cs)(o:Old h h'):RingAt h' r now st cs where
 ox:=(o.obj _ R.lx).trans R.ox
 lx:=yN R.lx o.next
 os:=(o.obj _ R.ls).trans R.os
 ls:=yN R.ls o.next
 ot:=(o.obj _ R.lt).trans R.ot
 lt:=yN R.lt o.next
 len:=R.len
 s64:=R.s64
 hN:=R.hN
 hW:=R.hW
 hL:=R.hL
 sl:=fun i hi=>(R.sl i hi).old o
 nn:=R.nn
 pn:=R.pn
 xn:=R.xn
 px:=R.px
 xx:=R.xx
 rx:=R.rx
theorem a2I(R:RingAt h r now st cs)(t:Int)(ht:0<=t/\t<=9223372036854775807)(Q:Value->Heap->Prop):r8 cp 158 [.pointer (some ⟨r.x,0,none⟩),.int .i64 t] h Q↔Q (.int .i64 (t / r.W)) h:=by
 refine p6 ?_ Q
 rw[a8 cp e3K]
 have ox:=R.ox
 have hW:=R.hW
 have n0:(r.W=0)=False:=by simp;omega
 have t1:Int.tdiv t r.W=t / r.W:=a4c t r.W ht.1
 have q0:0<=t / r.W:=Int.ediv_nonneg ht.1 (by omega)
 have q1:t / r.W<=t:=Int.ediv_le_self r.W ht.1
 simp(disch:=omega)only[d8b,↓e8K,ox,D3,n0,t1,↓j0,l0,zA,zB,zC,zD,zE,zF,zG,zH,zI,reduceCtorEq,zJ,zK,zL,zM]
def pl(r:RP)(n:Int):Nat:=(n % r.N).toNat
def a8P(r:RP)(st:List Int)(n:Int):Prop:=0<=n/\U6 st (pl r n)=n+1
instance (r:RP) (st:List Int) (n:Int):Decidable (a8P r st n):=by unfold a8P;infer_instance
theorem c9n(R:RingAt h r now st cs)(n:Int):pl r n<r.N:=by
 have:=R.hN
 have h1:=Int.emod_lt_of_pos n (show(0:Int)<r.N by omega)
 have h2:=Int.emod_nonneg n (show(r.N:Int)≠0 by omega)
 unfold pl;omega
theorem d1K(R:RingAt h r now st cs)(n:Int):n % (r.N:Int)=((pl r n:Nat):Int):=by
 have:=R.hN
 have h2:=Int.emod_nonneg n (show(r.N:Int)≠0 by omega)
 unfold pl;omega
theorem RingAt.stamp(R:RingAt h r now st cs){i:Nat}(hi:i<r.N):st[i]? =some (U6 st i)/\C2 (U6 st i):=by
 have h1:st[i]? =some (st[i]'(by rw[R.len];exact hi)):=yF _
 unfold U6
 rw[h1]
 exact⟨rfl,R.s64 _ (yK h1)⟩
theorem RingAt.ptr(R:RingAt h r now st cs){i:Nat}(hi:i<r.N):((List.range r.N).map fun i=>Value.pointer (some ⟨r.ps i,0,none⟩))[i]? =some (.pointer (some ⟨r.ps i,0,none⟩)):=by
 rw[yJ,List.getElem?_range hi];rfl
theorem e3d(R:RingAt h r now st cs)(n:Int)(hn: -1000<=n/\n<=9223372036854774000)(Q:Value->Heap->Prop):
  r8 cp 171 [.pointer (some ⟨r.x,0,none⟩),.int .i64 n] h Q↔Q (if a8P r st n then .pointer (some ⟨r.ps (pl r n),0,none⟩)else .pointer none) h:=by
 refine p6 ?_ Q
 rw[a8 cp e4m]
 have ox:=R.ox
 have os:=R.os
 have ot:=R.ot
 have hN:=R.hN
 by_cases c:n<0
 ·have a1:=decide_eq_true c
  rw[if_neg (fun h=>by have:=h.1;omega)]
  simp(disch:=omega)only[c6l,↓e1s,a1,↓j0,l0,zA,zB,zC,zD,zE,zF,zG,zH,zI,reduceCtorEq,zJ,zK,zL,zM]
 have a1:=decide_eq_false c
 have n0:((r.N:Int)=0)=False:=by simp;omega
 have t1:Int.tmod n (r.N:Int)=((pl r n:Nat):Int):=by rw[I0 _ _ (by omega)];exact d1K R n
 have hp:=c9n R n
 obtain⟨hs,_⟩:=R.stamp hp
 have hs:=B0 .i64 _ hs
 have hq:=R.ptr hp
 by_cases c2:U6 st (pl r n)=n+1
 ·have a2:(U6 st (pl r n) !=n+1)=false:=by rw[c2];exact bne_self_eq_false _
  rw[if_pos ⟨by omega,c2⟩]
  simp(disch:=omega)only[c6l,↓e1s,a1,ox,os,ot,n0,t1,hs,hq,a2,↓j0,l0,zA,zB,zC,zD,zE,zF,zG,zH,zI,reduceCtorEq,zJ,zK,zL,zM]
 ·have a2:(U6 st (pl r n) !=n+1)=true:=by rw[bne_iff_ne];exact c2
  rw[if_neg (fun h=>c2 h.2)]
  simp(disch:=omega)only[c6l,↓e1s,a1,ox,os,ot,n0,t1,hs,hq,a2,↓j0,l0,zA,zB,zC,zD,zE,zF,zG,zH,zI,reduceCtorEq,zJ,zK,zL,zM]
theorem RingAt.setNow(R:RingAt h r now st cs)(t:Int):RingAt (h.upd r.x (.cells (d5g r t) 201 .fix)) r t st cs:=by
 have o:OldX r.x h (h.upd r.x (.cells (d5g r t) 201 .fix)):=⟨yP _,fun b _ hb=>a6 _ _ hb⟩
 exact { R with
  ox:=a9 _ _ _
  os:=(o.obj _ R.ls (Ne.symm R.xx.1)).trans R.os
  ot:=(o.obj _ R.lt (Ne.symm R.xx.2.1)).trans R.ot
  lx:=R.lx,ls:=R.ls,lt:=R.lt
  sl:=fun i hi=>(R.sl i hi).oldx o (R.px i hi).1 (Ne.symm (R.xn i hi).1) R.rx.1 }
theorem e3J(R:RingAt h r now st cs)(t:Int){Q:Value->Heap->Prop}(hQ:∀h',OldX r.x h h' ->RingAt h' r (max now t) st cs->Q (.tuple #[]) h'):
  r8 cp 129 [.pointer (some ⟨r.x,0,none⟩),.int .i64 t] h Q:=by
 rw[a8 cp e3S]
 have ox:=R.ox
 simp(disch:=omega)only[d9b,↓e6j,ox,D3,↓mm_max,↓j0,l0,zA,zB,zC,zD,zE,zF,zG,zH,zI,reduceCtorEq,zJ,zK,zL,zM]
 exact hQ _ ⟨yP _,fun b _ hb=>a6 _ _ hb⟩ (R.setNow _)
def a1u(cs:Nat->List Int)(i:Nat)(c:List Int):Nat->List Int:=fun j=>if j=i then c else cs j
structure OldR(r:RP)(h h' :Heap):Prop where
 next:h.next<=h'.next
 obj:∀b,b<h.next->b≠r.x->b≠r.tb->(∀i,i<r.N->b≠r.nbs i)->h'.obj b=h.obj b
theorem OldR.trans{a b c:Heap}(h:OldR r a b)(k:OldR r b c):OldR r a c:=⟨yR h.next k.next,fun x hx h1 h2 h3=>by rw[k.obj x (yN hx h.next) h1 h2 h3,h.obj x hx h1 h2 h3]⟩
theorem OldX.ringT{a b:Heap}(o:OldX r.tb a b):OldR r a b:=⟨o.next,fun x hx _ h2 _=>o.obj x hx h2⟩
theorem OldX.ringN{a b:Heap}{i:Nat}(hi:i<r.N)(o:OldX (r.nbs i) a b):OldR r a b:=⟨o.next,fun x hx _ _ h3=>o.obj x hx (h3 i hi)⟩
theorem RingAt.setSlot(R:RingAt h r now st cs){i:Nat}(hi:i<r.N)(o:OldX (r.nbs i) h h'){c:List Int}(S:SlotAt h' (r.ps i) (r.nbs i) r.rv r.rb r.rows r.w c):RingAt h' r now st (a1u cs i c) where
 ox:=(o.obj _ R.lx (R.xn i hi).1).trans R.ox
 lx:=yN R.lx o.next
 os:=(o.obj _ R.ls (R.xn i hi).2.1).trans R.os
 ls:=yN R.ls o.next
 ot:=(o.obj _ R.lt (R.xn i hi).2.2).trans R.ot
 lt:=yN R.lt o.next
 len:=R.len
 s64:=R.s64
 hN:=R.hN
 hW:=R.hW
 hL:=R.hL
 sl:=fun j hj=>by
  unfold a1u
  by_cases e:j=i
  ·subst e;rw[if_pos rfl];exact S
  ·rw[if_neg e];exact(R.sl j hj).oldx o (R.pn j i hj hi) (R.nn j i hj hi e) (R.sl i hi).rn
 nn:=R.nn
 pn:=R.pn
 xn:=R.xn
 px:=R.px
 xx:=R.xx
 rx:=R.rx
theorem RingAt.setStamp(R:RingAt h r now st cs)(i:Nat)(v:Int)(hv:C2 v):RingAt (h.upd r.tb (.cells (ints .i64 (st.set i v)) 2 .grow)) r now (st.set i v) cs:=by
 have o:OldX r.tb h (h.upd r.tb (.cells (ints .i64 (st.set i v)) 2 .grow)):=⟨yP _,fun b _ hb=>a6 _ _ hb⟩
 exact { R with
  ox:=(o.obj _ R.lx R.xx.2.1).trans R.ox
  os:=(o.obj _ R.ls R.xx.2.2).trans R.os
  ot:=a9 _ _ _
  lx:=R.lx,ls:=R.ls,lt:=R.lt
  len:=by rw[List.length_set];exact R.len
  s64:=d9C R.s64 hv
  sl:=fun j hj=>(R.sl j hj).oldx o (R.px j hj).2 (Ne.symm (R.xn j hj).2.2) R.rx.2 }
def W5(r:RP)(st:List Int)(cs:Nat->List Int)(n:Int):List Int:=if U6 st (pl r n)=n+1 then cs (pl r n)else List.replicate (r.rows.length*r.w) 0
theorem b7q(R:RingAt h r now st cs)(hnow:0<=now/\now<=9223372036854770000)(key:ByteArray)(hs:key.size<=140737488355328)(cost:Int)(hc:C2 cost){Q:Value->Heap->Prop}
  (hQ:∀h',OldR r h h' ->RingAt h' r now (st.set (pl r (now / r.W)) (now / r.W+1)) (a1u cs (pl r (now / r.W)) (a1K (W5 r st cs (now / r.W)) (ix r.rows r.w key) r.rows.length cost))->Q (.tuple #[]) h'):
  r8 cp 136 [.pointer (some ⟨r.x,0,none⟩),.string key,.int .i64 cost] h Q:=by
 rw[a8 cp e5I]
 have ox:=R.ox
 have os:=R.os
 have ot:=R.ot
 have hN:=R.hN
 have hW:=R.hW
 have fn:=fun Q=>a2I R now (by omega) Q
 obtain⟨n,hn⟩:∃n,n=now / r.W:=⟨_,rfl⟩
 have q0:0<=n:=by rw[hn];exact Int.ediv_nonneg hnow.1 (by omega)
 have q1:n<=now:=by rw[hn];exact Int.ediv_le_self r.W hnow.1
 rw[<-hn]at fn hQ
 have n0:((r.N:Int)=0)=False:=by simp;omega
 have t1:Int.tmod n (r.N:Int)=((pl r n:Nat):Int):=by rw[I0 _ _ q0];exact d1K R n
 have hp:=c9n R n
 obtain⟨hst,_⟩:=R.stamp hp
 have hsl:=List.getElem?_eq_some_iff.1 hst
 have hst:=B0 .i64 _ hst
 have hq:=R.ptr hp
 have len:=R.len
 unfold W5 at hQ
 by_cases c:U6 st (pl r n)=n+1
 ·have a2:(U6 st (pl r n) !=n+1)=false:=by rw[c];exact bne_self_eq_false _
  rw[if_pos c]at hQ
  have hset:st.set (pl r n) (n+1)=st:=by
   obtain⟨hl,hv⟩:=hsl
   rw[c]at hv
   rw[<-hv];exact List.set_getElem_self hl
  rw[hset]at hQ
  simp(disch:=omega)only[b3a,↓d7v,ox,os,ot,D3,fn,n0,t1,hst,hq,a2,↓j0,l0,zA,zB,zC,zD,zE,zF,zG,zH,zI,reduceCtorEq,zJ,zK,zL,zM]
  refine add_ok' (R.sl _ hp) key hs cost hc fun h1 o1 S1=>?_
  simp(disch:=omega)only[b3a,↓d7v,↓j0,l0,zA,zB,zC,zD,zE,zF,zG,zH,zI,reduceCtorEq,zJ,zK,zL,zM]
  exact hQ _ (o1.ringN hp) (R.setSlot hp o1 S1)
 ·have a2:(U6 st (pl r n) !=n+1)=true:=by rw[bne_iff_ne];exact c
  rw[if_neg c]at hQ
  simp(disch:=omega)only[b3a,↓d7v,ox,os,ot,D3,fn,n0,t1,hst,hq,a2,↓j0,l0,zA,zB,zC,zD,zE,zF,zG,zH,zI,reduceCtorEq,zJ,zK,zL,zM]
  refine d3r (R.sl _ hp) fun h1 o1 S1=>?_
  have R1:=R.setSlot hp o1 S1
  have ox1:=R1.ox
  have os1:=R1.os
  have ot1:=R1.ot
  have R2:=R1.setStamp (pl r n) (n+1) (by unfold C2;omega)
  have xt:=R.xx.2.1
  have st' :=R.xx.2.2
  have nt:=(R.xn _ hp).2.2
  simp(disch:=omega)only[b3a,↓d7v,ox1,os1,ot1,hq,C5,E9,len,↓j0,l0,zA,zB,zC,zD,zE,zF,zG,zH,zI,reduceCtorEq,zJ,zK,zL,zM]
  refine add_ok' (R2.sl _ hp) key hs cost hc fun h2 o2 S2=>?_
  have R3:=R2.setSlot hp o2 S2
  have oT:OldX r.tb h1 (h1.upd r.tb (.cells (ints .i64 (st.set (pl r n) (n+1))) 2 .grow)):=⟨yP _,fun b _ hb=>a6 _ _ hb⟩
  simp(disch:=omega)only[b3a,↓d7v,↓j0,l0,zA,zB,zC,zD,zE,zF,zG,zH,zI,reduceCtorEq,zJ,zK,zL,zM]
  refine hQ _ (((o1.ringN hp).trans oT.ringT).trans (o2.ringN hp)) ?_
  have e:∀c d,a1u (a1u cs (pl r n) c) (pl r n) d=a1u cs (pl r n) d:=fun c d=>by funext j;unfold a1u;split<;>rfl
  have e2:∀c,a1u cs (pl r n) c (pl r n)=c:=fun c=>by unfold a1u;rw[if_pos rfl]
  rw[e,e2]at R3
  exact R3
def b0V(r:RP)(m into:Nat):Nat:=if r.part then a0l (m*(r.W.toNat-into)) r.W.toNat else m
theorem c6S(R:RingAt h r now st cs)(m into:Nat)(hm:m<=9223372036854775807)(hi:(into:Int)<r.W)(Q:Value->Heap->Prop):
  r8 cp 173 [.pointer (some ⟨r.x,0,none⟩),.int .i64 m,.int .i64 into] h Q↔Q (.int .i64 (b0V r m into:Nat)) h:=by
 refine p6 ?_ Q
 rw[a8 cp e3H]
 have ox:=R.ox
 have hW:=R.hW
 unfold b0V
 cases hp:r.part with
 |false=>
  simp(disch:=omega)only[d1C,↓e5u,ox,hp,↓j0,l0,zA,zB,zC,zD,zE,zF,zG,zH,zI,reduceCtorEq,zJ,zK,zL,zM]
  first|done|trivial
 |true=>
  obtain⟨W,hWn⟩:∃W:Nat,r.W=W:=⟨r.W.toNat,by omega⟩
  have hmul:m*(W-into)<=m*W:=Nat.mul_le_mul_left m (Nat.sub_le _ _)
  have hmul2:m*W<=9223372036854775807*W:=Nat.mul_le_mul_right W hm
  have hq:m*(W-into) / W<=m:=Nat.div_le_of_le_mul (by rw[Nat.mul_comm W];exact hmul)
  have f:=fun h=>e5C h m (W-into) W (by omega) (by omega) (by omega) (by omega) (by omega)
  have cl:a0l (m*(W-into)) W<=m:=by
   unfold a0l
   split
   ·exact hq
   ·rename_i hne
    have h1:=Nat.div_add_mod (m*(W-into)) W
    have h2:W*(m*(W-into) / W)<W*m:=by rw[Nat.mul_comm W m];omega
    have:=Nat.lt_of_mul_lt_mul_left h2
    omega
  have sb:r.W-(into:Int)=((W-into:Nat):Int):=by omega
  have sb' :(W:Int)-(into:Int)=((W-into:Nat):Int):=by omega
  have k1:r.W.toNat=W:=by omega
  rw[if_pos rfl,k1]
  simp(disch:=omega)only[d1C,↓e5u,ox,hp,hWn,sb',f,↓j0,l0,zA,zB,zC,zD,zE,zF,zG,zH,zI,reduceCtorEq,zJ,zK,zL,zM]
theorem d8W(R:RingAt h r now st cs)(m into:Nat):b0V r m into<=m:=by
 have hW:=R.hW
 unfold b0V
 split
 ·obtain⟨W,hWn⟩:∃W:Nat,r.W.toNat=W:=⟨_,rfl⟩
  rw[hWn]
  have hmul:m*(W-into)<=m*W:=Nat.mul_le_mul_left m (Nat.sub_le _ _)
  have hq:m*(W-into) / W<=m:=Nat.div_le_of_le_mul (by rw[Nat.mul_comm W];exact hmul)
  unfold a0l
  split
  ·exact hq
  ·rename_i hne
   have h1:=Nat.div_add_mod (m*(W-into)) W
   have h2:W*(m*(W-into) / W)<W*m:=by rw[Nat.mul_comm W m];omega
   have:=Nat.lt_of_mul_lt_mul_left h2
   omega
 ·exact yP _
def E3(r:RP)(st:List Int)(cs:Nat->List Int)(key:ByteArray)(n:Int):Int:=if a8P r st n then K4 (cs (pl r n)) (ix r.rows r.w key) (r.rows.length-1)else 0
def a1a(r:RP)(st:List Int)(cs:Nat->List Int)(key:ByteArray)(n:Int)(into:Nat)(k:Nat):Int:=
 if k=0 then((b0V r (E3 r st cs key (n-r.N+1+k)).toNat into:Nat):Int)else E3 r st cs key (n-r.N+1+k)
def H0(r:RP)(st:List Int)(cs:Nat->List Int)(key:ByteArray)(n:Int)(into:Nat):Nat->Int
 |0=>0
 |k+1=>M9 (H0 r st cs key n into k+a1a r st cs key n into k)
theorem b4O(R:RingAt h r now st cs)(n:Int)(key:ByteArray)(hs:key.size<=140737488355328){Q:Value->Heap->Prop}(hQ:∀h',Old h h' ->Q (.int .i64 (E3 r st cs key n)) h'):
  r8 cp 172 [if a8P r st n then .pointer (some ⟨r.ps (pl r n),0,none⟩)else .pointer none,.string key] h Q:=by
 unfold E3 at hQ
 by_cases c:a8P r st n
 ·rw[if_pos c]
  rw[if_pos c]at hQ
  exact b2y (R.sl _ (c9n R n)) key hs hQ
 ·rw[if_neg c]
  rw[if_neg c]at hQ
  exact(c5o h key Q).2 (hQ h (Old.refl h))
theorem b9P(R:RingAt h r now st cs)(n:Int)(hn:0<=n/\n<=9223372036854770000)(into:Nat)(hi:(into:Int)<r.W)(key:ByteArray)(hs:key.size<=140737488355328)
  (pos:∀i,0<=E3 r st cs key i/\E3 r st cs key i<=9223372036854775807) {Q:Value->Heap->Prop}
  (hQ:∀h',Old h h' ->Q (.int .i64 (H0 r st cs key n into r.N)) h'):r8 cp 157 [.pointer (some ⟨r.x,0,none⟩),.string key,.int .i64 n,.int .i64 into] h Q:=by
 rw[a8 cp e3y]
 have ox:=R.ox
 have hN:=R.hN
 simp(disch:=omega)only[b1O,↓c7r,ox,↓j0,l0,zA,zB,zC,zD,zE,zF,zG,zH,zI,reduceCtorEq,zJ,zK,zL,zM]
 refine y6 cp a3X _ (fun d e hh=>∃k:Nat,k+d=r.N/\Old h hh/\e 0=.pointer (some ⟨r.x,0,none⟩)/\e 1=.string key/\e 2=.int .i64 n/\e 3=.int .i64 into/\e 9=.int .i64 (H0 r st cs key n into k)/\e 10=.int .i64 (n-r.N+1+k)) ?_ r.N _ _
  ⟨0,by omega,Old.refl _,rfl,rfl,rfl,rfl,rfl,by show Value.int .i64 _=_;congr 1;omega⟩
 rintro d e hh ⟨k,hk,o,e0,e1,e2,e3,e9,e10⟩
 have R1:=R.old o
 have ox:=R1.ox
 by_cases c:k<r.N
 ·have b1:decide (n-r.N+1+k<=n)=true:=decide_eq_true (by omega)
  have f:=fun Q=>e3d R1 (n-r.N+1+k) (by omega) Q
  simp(disch:=omega)only[a3X,b1O,↓c7r,e0,e1,e2,e3,e9,e10,b1,f,↓j0,l0,zA,zB,zC,zD,zE,zF,zG,zH,zI,reduceCtorEq,zJ,zK,zL,zM]
  refine b4O R1 _ key hs fun h2 o2=>?_
  have R2:=R1.old o2
  have ox:=R2.ox
  have p:=pos (n-r.N+1+k)
  have nx:n-r.N+1+k+1=n-r.N+1+((k+1:Nat):Int):=by omega
  have fin:C2 (H0 r st cs key n into k):=by cases k with
   |zero=>exact(by unfold H0 C2;omega)
   |succ k=>exact a1S _
  by_cases c0:k=0
  ·subst c0
   have b2:(n-r.N+1+((0:Nat):Int)==n-r.N+1)=true:=by rw[beq_iff_eq];omega
   obtain⟨M,hM⟩:∃M:Nat,E3 r st cs key (n-r.N+1+((0:Nat):Int))=M:=⟨(E3 r st cs key (n-r.N+1+((0:Nat):Int))).toNat,by omega⟩
   have fe:=fun Q=>c6S R2 M into (by omega) hi Q
   have el:=d8W R M into
   have fs:=fun h=>N1 h (H0 r st cs key n into 0) ((b0V r M into:Nat):Int) fin (by unfold C2;omega)
   simp(disch:=omega)only[b1O,↓c7r,e0,e1,e2,e3,e9,e10,ox,b2,hM,fe,fs,nx,↓j0,l0,zA,zB,zC,zD,zE,zF,zG,zH,zI,reduceCtorEq,zJ,zK,zL,zM]
   refine⟨d-1,by omega,0+1,by omega,o.trans o2,?_⟩
   have e:H0 r st cs key n into (0+1)=M9 (H0 r st cs key n into 0+((b0V r M into:Nat):Int)):=by simp only[H0,a1a,if_true];rw[hM,Int.toNat_natCast]
   rw[e]
   repeat' first|assumption|rfl|apply And.intro
  ·have b2:(n-r.N+1+(k:Int)==n-r.N+1)=false:=by rw[beq_eq_false_iff_ne];omega
   have fs:=fun h=>N1 h (H0 r st cs key n into k) (E3 r st cs key (n-r.N+1+k)) fin (by unfold C2;omega)
   simp(disch:=omega)only[b1O,↓c7r,e0,e1,e2,e3,e9,e10,ox,b2,fs,nx,↓j0,l0,zA,zB,zC,zD,zE,zF,zG,zH,zI,reduceCtorEq,zJ,zK,zL,zM]
   refine⟨d-1,by omega,k+1,by omega,o.trans o2,?_⟩
   have e:H0 r st cs key n into (k+1)=M9 (H0 r st cs key n into k+E3 r st cs key (n-r.N+1+k)):=by simp only[H0,a1a];rw[if_neg c0]
   rw[e]
   repeat' first|assumption|rfl|apply And.intro
 ·have b1:decide (n-r.N+1+k<=n)=false:=decide_eq_false (by omega)
  obtain rfl:k=r.N:=by omega
  simp(disch:=omega)only[a3X,b1O,↓c7r,e0,e1,e2,e3,e9,e10,b1,↓j0,l0,zA,zB,zC,zD,zE,zF,zG,zH,zI,reduceCtorEq,zJ,zK,zL,zM]
  exact hQ _ o
def a1X(r:RP)(now:Int)(st:List Int)(cs:Nat->List Int)(key:ByteArray):Int:=H0 r st cs key (now / r.W) (now % r.W).toNat r.N
theorem M3(R:RingAt h r now st cs)(hnow:0<=now/\now<=9223372036854770000)(key:ByteArray)(hs:key.size<=140737488355328)
  (pos:∀i,0<=E3 r st cs key i/\E3 r st cs key i<=9223372036854775807) {Q:Value->Heap->Prop}
  (hQ:∀h',Old h h' ->Q (.int .i64 (a1X r now st cs key)) h'):r8 cp 135 [.pointer (some ⟨r.x,0,none⟩),.string key] h Q:=by
 rw[a8 cp e1I]
 have ox:=R.ox
 have hW:=R.hW
 have fn:=fun Q=>a2I R now (by omega) Q
 have n0:(r.W=0)=False:=by simp;omega
 have q0:0<=now / r.W:=Int.ediv_nonneg hnow.1 (by omega)
 have q1:now / r.W<=now:=Int.ediv_le_self r.W hnow.1
 have m0:0<=now % r.W:=Int.emod_nonneg now (by omega)
 have m1:now % r.W<r.W:=Int.emod_lt_of_pos now (by omega)
 obtain⟨g,hg⟩:∃g:Nat,now % r.W=g:=⟨(now % r.W).toNat,by omega⟩
 have t1:Int.tmod now r.W=(g:Int):=by rw[I0 _ _ hnow.1];exact hg
 have e:a1X r now st cs key=H0 r st cs key (now / r.W) g r.N:=by unfold a1X;rw[hg,Int.toNat_natCast]
 rw[e]at hQ
 simp(disch:=omega)only[d1L,↓e4A,ox,D3,fn,n0,t1,↓j0,l0,zA,zB,zC,zD,zE,zF,zG,zH,zI,reduceCtorEq,zJ,zK,zL,zM]
 refine b9P R _ (by omega) g (by omega) key hs pos fun h' o=>?_
 simp(disch:=omega)only[d1L,↓e4A,↓j0,l0,zA,zB,zC,zD,zE,zF,zG,zH,zI,reduceCtorEq,zJ,zK,zL,zM]
 exact hQ _ o
end
theorem d6K(n:Nat):F8 n [Value.pointer none]=(List.range n).map fun _=>Value.pointer none:=by
 rw[List.map_const',List.length_range]
 induction n with
 |zero=>rfl
 |succ n ih=>rw[List.replicate_succ];show[Value.pointer none]++F8 n [.pointer none]=_;rw[ih];rfl
def a3M(N j:Nat)(ps:Nat->Nat):List Value:=(List.range N).map fun i=>if i<j then Value.pointer (some ⟨ps i,0,none⟩)else .pointer none
theorem d5C(N j:Nat)(ps:Nat->Nat):(a3M N j ps).length=N:=by simp[a3M]
theorem c5Y(N:Nat)(ps:Nat->Nat):(List.range N).map (fun _=>Value.pointer none)=a3M N 0 ps:=by simp[a3M]
theorem d5x(N j:Nat)(ps:Nat->Nat)(hj:j<N)(p:Nat):(a3M N j ps).set j (.pointer (some ⟨p,0,none⟩))=a3M N (j+1) fun i=>if i=j then p else ps i:=by
 apply List.ext_getElem?
 intro i
 rw[List.getElem?_set]
 unfold a3M
 by_cases e:j=i
 ·subst e
  rw[if_pos rfl,yL,List.length_range,if_pos hj,yJ,List.getElem?_range hj]
  simp
 ·rw[if_neg e,yJ,yJ]
  by_cases hi:i<N
  ·rw[List.getElem?_range hi]
   simp only[Option.map_some]
   have:(if i=j then p else ps i)=ps i:=if_neg (Ne.symm e)
   rw[this]
   by_cases h2:i<j
   ·rw[if_pos h2,if_pos (by omega)]
   ·rw[if_neg h2,if_neg (by omega)]
  ·rw[List.getElem?_eq_none (by simp;omega)];rfl
abbrev b1n(L Wd B S C Rr w T:Int)(sm:Bool):List Value:=[.int .i64 L,.int .i64 Wd,.int .i64 B,.int .i64 S,.int .i64 C,.int .i64 Rr,.int .i64 w,.int .i64 T,.bool sm]
theorem d7U(h:Heap)(rv:Value)(rb:Nat)(rows:List K2)(V:F1 h 182 Y5 rv rows rb)(ok:∀r∈rows,r.OK)(hr:1<=rows.length/\rows.length<=8)
  (L Wd B C Rr T:Int) (S w:Nat) (sm:Bool) (hS:1<=S/\S<=64) (hw:1<=w/\w<=4096) (hWd:0<=Wd) (hW:1<=Wd / (S:Int)/\Wd / (S:Int)<=1099511627776) (hL:C2 L) {Q:Value->Heap->Prop}
  (hQ:∀h' (r:RP),Old h h' ->RingAt h' r 0 (List.replicate (S+1) 0) (fun _=>List.replicate (rows.length*w) 0)->r.N=S+1->r.w=w->r.W=Wd / (S:Int)->r.L=L->r.part=sm->r.rows=rows->h.next<=r.x->h.next<=r.tb->(∀i,i<r.N->h.next<=r.nbs i)->h.next<=r.sb->(∀i,i<r.N->h.next<=r.ps i)->r.rb=rb->Q (.pointer (some ⟨r.x,0,none⟩)) h'):
  r8 cp 81 [.agg (b1n L Wd B S C Rr w T sm).toArray,rv] h Q:=by
 rw[a8 cp e8P]
 obtain⟨a,cap,rfl,hc⟩:=V.val
 have hb:rb<h.next:=by obtain⟨_,_,_,hl,_⟩:=V.at (by omega);exact hl
 have a1:decide ((S:Int)<1)=false:=decide_eq_false (by omega)
 have a2:decide ((S:Int)>64)=false:=decide_eq_false (by omega)
 have n0:((S:Int)=0)=False:=by simp;omega
 have t1:Int.tdiv Wd (S:Int)=Wd / (S:Int):=a4c _ _ hWd
 have a3:decide (Wd / (S:Int)<1)=false:=decide_eq_false (by omega)
 have a4:((rows.length:Int)==0)=false:=beq_eq_false_iff_ne.2 (by omega)
 have a5:decide ((w:Int)<1)=false:=decide_eq_false (by omega)
 have k1:(S:Int)+1=((S+1:Nat):Int):=by omega
 have t4:∀a b c d,((((h.new a).new b).new c).new d).obj (h.next+1+1+1)=d:=fun a b c d=>b8 _ _
 simp(disch:=first|omega| (simp only[f4,l6,ne_eq];omega))only[c81,↓R81,a1,a2,a3,a4,a5,n0,t1,t4,k1,d6K,J9,c5Y _ (fun _=>0),↓j0,l0,zA,zB,zC,zD,zE,zF,zG,zH,zI,reduceCtorEq,zJ,zK,zL,zM]
 obtain⟨H,hH⟩:∃H,H=((((h.new (.cells (b1n L Wd B S C Rr w T sm) 34 .fix)).new (.cells (a3M (S+1) 0 fun _=>0) 202 .grow)).new (.cells (ints .i64 (List.replicate (S+1) 0)) 2 .grow)).new
  (.cells [.slice (some ⟨h.next+1,0,none⟩) (S+1) (S+1),.slice (some ⟨h.next+1+1,0,none⟩) (S+1) (S+1),.int .i64 (Wd / (S:Int)),.int .i64 rows.length,.int .i64 L,.bool sm,.int .i64 0] 201 .fix)):=⟨_,rfl⟩
 have oH:Old h H:=by rw[hH];exact(((((Old.refl h).more _).more _).more _).more _)
 have nH:H.next=h.next+1+1+1+1:=by rw[hH];rfl
 have gx:H.obj (h.next+1+1+1)=.cells [.slice (some ⟨h.next+1,0,none⟩) (S+1) (S+1),.slice (some ⟨h.next+1+1,0,none⟩) (S+1) (S+1),.int .i64 (Wd / (S:Int)),.int .i64 rows.length,.int .i64 L,.bool sm,.int .i64 0] 201 .fix:=by rw[hH];exact b8 _ _
 have gt:H.obj (h.next+1+1)=.cells (ints .i64 (List.replicate (S+1) 0)) 2 .grow:=by rw[hH,b7 _ _ (by simp only[f4];omega)];exact b8 _ _
 have gs:H.obj (h.next+1)=.cells (a3M (S+1) 0 fun _=>0) 202 .grow:=by rw[hH,b7 _ _ (by simp only[f4];omega),b7 _ _ (by simp only[f4];omega)];exact b8 _ _
 have gr:H.obj h.next=.cells (b1n L Wd B S C Rr w T sm) 34 .fix:=by rw[hH,b7 _ _ (by simp only[f4];omega),b7 _ _ (by simp only[f4];omega),b7 _ _ (by simp only[f4];omega)];exact b8 _ _
 have VH:=V.keep oH.next fun hl=>oH.obj rb hl
 rw[<-hH]
 clear hH t4
 refine y6 cp a9N _ (fun d e hh=>∃(j:Nat) (ps nbs:Nat->Nat),j+d=S+1/\OldX (h.next+1) H hh/\hh.obj (h.next+1)=.cells (a3M (S+1) j ps) 202 .grow/\
   (∀i,i<j->SlotAt hh (ps i) (nbs i) (.slice a rows.length cap) rb rows w (List.replicate (rows.length*w) 0)/\H.next<=ps i/\H.next<=nbs i)/\(∀i k,i<j->k<j->(i≠k->nbs i≠nbs k)/\ps i≠nbs k)/\
   e 1=.slice a rows.length cap/\e 2=.pointer (some ⟨h.next,0,none⟩)/\e 5=.pointer (some ⟨h.next+1+1+1,0,none⟩)/\e 58=.int .i64 ((S+1:Nat):Int)/\e 59=.int .i64 j) ?_ (S+1) _ _
  ⟨0,fun _=>0,fun _=>0,by omega,OldX.refl _ _,gs,fun i hi=>by omega,fun i k hi=>by omega,rfl,rfl,rfl,rfl,rfl⟩
 rintro d e hh ⟨j,ps,nbs,hj,o,hs,hsl,hap,e1,e2,e5,e58,e59⟩
 have on:=o.next
 have gx1:=(o.obj _ (by omega) (by omega)).trans gx
 have gr1:=(o.obj _ (by omega) (by omega)).trans gr
 by_cases c:j<S+1
 ·have b1:decide ((j:Int)<((S+1:Nat):Int))=true:=decide_eq_true (by omega)
  have nx:(j:Int)+1=((j+1:Nat):Int):=by omega
  simp(disch:=first|omega| (simp only[f4,l6,ne_eq];omega))only[a9N,c81,↓R81,e1,e2,e5,e58,e59,b1,gx1,gr1,↓j0,l0,zA,zB,zC,zD,zE,zF,zG,zH,zI,reduceCtorEq,zJ,zK,zL,zM]
  refine b5m hh _ rb rows w (VH.keep on fun hl=>o.obj rb hl (by omega)) ok hr hw fun h2 p nb o2 S2 hp hn=>?_
  have gx2:=(o2.obj _ (by omega)).trans gx1
  have hs2:=(o2.obj (h.next+1) (by omega)).trans hs
  have hle:=o2.next
  have lnb:=S2.ln
  have lp:=S2.lp
  simp(disch:=first|omega| (simp only[f4,l6,ne_eq];omega))only[c81,↓R81,e1,e2,e5,e58,e59,gx2,hs2,nx,C5,d5C,d5x _ _ _ c,↓j0,l0,zA,zB,zC,zD,zE,zF,zG,zH,zI,reduceCtorEq,zJ,zK,zL,zM]
  have oX:OldX (h.next+1) h2 (h2.upd (h.next+1) (.cells (a3M (S+1) (j+1) fun i=>if i=j then p else ps i) 202 .grow)):=⟨yP _,fun b _ hb=>a6 _ _ hb⟩
  refine⟨d-1,by omega,j+1,fun i=>if i=j then p else ps i,fun i=>if i=j then nb else nbs i,by omega,(o.trans (o2.x _)).trans oX,?_,fun i hi=>?_,fun i k hi hk=>?_,?_⟩
  ·first|rfl|exact a9 _ _ _
  ·by_cases e:i=j
   ·subst e
    simp only[if_true]
    exact⟨S2.oldx oX (by omega) (by omega) (by omega),by omega,by omega⟩
   ·simp only[if_neg e]
    obtain⟨s1,s2,s3⟩:=hsl i (by omega)
    exact⟨(s1.old o2).oldx oX (by omega) (by omega) (by omega),s2,s3⟩
  ·by_cases ei:i=j
   ·by_cases ek:k=j
    ·subst ei;subst ek
     simp only[if_true]
     exact⟨fun h=>absurd rfl h,S2.pn⟩
    ·obtain⟨s1,s2,s3⟩:=hsl k (by omega)
     have:=s1.ln
     simp only[if_pos ei,if_neg ek]
     exact⟨fun _=>by omega,by omega⟩
   ·by_cases ek:k=j
    ·obtain⟨s1,s2,s3⟩:=hsl i (by omega)
     have:=s1.ln
     have:=s1.lp
     simp only[if_neg ei,if_pos ek]
     exact⟨fun _=>by omega,by omega⟩
    ·simp only[if_neg ei,if_neg ek]
     exact hap i k (by omega) (by omega)
  ·repeat' first|assumption|rfl|apply And.intro
 ·have b1:decide ((j:Int)<((S+1:Nat):Int))=false:=decide_eq_false (by omega)
  obtain rfl:j=S+1:=by omega
  simp(disch:=first|omega| (simp only[f4,l6,ne_eq];omega))only[a9N,c81,↓R81,e1,e2,e5,e58,e59,b1,↓j0,l0,zA,zB,zC,zD,zE,zF,zG,zH,zI,reduceCtorEq,zJ,zK,zL,zM]
  have gt1:=(o.obj _ (by omega) (by omega)).trans gt
  refine hQ hh ⟨h.next+1+1+1,h.next+1,h.next+1+1,ps,nbs,.slice a rows.length cap,rb,rows,S+1,w,Wd / (S:Int),L,sm⟩ ((oH.x _).trans o |>.fresh (Nat.le_succ _)) ?_ rfl rfl rfl rfl rfl rfl (by show h.next<=h.next+1+1+1;omega) (by show h.next<=h.next+1+1;omega) (fun i hi=>by have:=(hsl i hi).2.2;show h.next<=nbs i;omega) (by show h.next<=h.next+1;omega) (fun i hi=>by have:=(hsl i hi).2.1;show h.next<=ps i;omega) rfl
  refine⟨gx1,by show h.next+1+1+1<hh.next;omega,?_,by show h.next+1<hh.next;omega,gt1,by show h.next+1+1<hh.next;omega,by simp,fun x hx=>by rw[(List.mem_replicate.1 hx).2];unfold C2;omega,by show 2<=S+1/\S+1<=65;omega,hW,hL,fun i hi=>(hsl i hi).1,fun i k hi hk=>(hap i k hi hk).1,fun i k hi hk=>(hap i k hi hk).2,fun i hi=>?_,fun i hi=>?_,?_,?_⟩
  ·show hh.obj (h.next+1)=_
   rw[hs]
   congr 1
   unfold a3M
   apply List.map_congr_left
   intro i hi
   rw[if_pos (List.mem_range.1 hi)]
  ·obtain⟨_,s2,s3⟩:=hsl i hi
   show h.next+1+1+1≠nbs i/\h.next+1≠nbs i/\h.next+1+1≠nbs i
   omega
  ·obtain⟨_,s2,s3⟩:=hsl i hi
   show ps i≠h.next+1+1+1/\ps i≠h.next+1+1
   omega
  ·show h.next+1+1+1≠h.next+1/\h.next+1+1+1≠h.next+1+1/\h.next+1≠h.next+1+1
   omega
  ·show rb≠h.next+1+1+1/\rb≠h.next+1+1
   omega
theorem d8C(m:Nat):(256:Int) ^ m=2 ^ (8*m):=by
 induction m with
 |zero=>rfl
 |succ m ih=>rw[Int.pow_succ,ih,show 8*(m+1)=8*m+8 by omega,Int.pow_add];rfl
theorem b0Q(h:Heap)(H:Nat)(hH:H<=h.next)(v:Value)(l:List Int)(b:Nat)(V:F1 h 5 B8 v l b)(hb:H<=b)(hlen:l.length<=10000)(n:Nat)(hn8:n<=8)(x:Int){Q:Value->Heap->Prop}
  (hQ:∀h' v' b',F1 h' 5 B8 v' (l++R7 n x) b' ->h.next<=h'.next->H<=b' ->(∀z,z<H->h'.obj z=h.obj z)->Q v' h'):
  r8 cp 44 [v,.int .i64 n,.int .u64 x] h Q:=by
 rw[a8 cp e6X]
 simp(disch:=omega)only[c44,↓R44,↓j0,l0,zA,zB,zC,zD,zE,zF,zG,zH,zI,reduceCtorEq,zJ,zK,zL,zM]
 refine y6 cp b1d _ (fun d e hh=>∃(i bb:Nat) (vv:Value),i+d=n/\h.next<=hh.next/\(∀z,z<H->hh.obj z=h.obj z)/\H<=bb/\F1 hh 5 B8 vv (l++(R7 n x).take i) bb/\
   e 0=vv/\e 2=.int .u64 x/\e 7=.int .i64 ((n:Int)-1-(i:Int))) ?_ n _ _
  ⟨0,b,v,by omega,yP _,fun _ _=>rfl,hb,by simpa using V,rfl,rfl,by show Value.int .i64 _=_;congr 1;omega⟩
 rintro d e hh ⟨i,bb,vv,hi,hn,ho,hbb,V,e0,e2,e7⟩
 by_cases ci:i<n
 ·have b2:decide ((n:Int)-1-(i:Int)>=0)=true:=decide_eq_true (by omega)
  obtain⟨k,hk⟩:∃k:Nat,(8:Int)*((n:Int)-1-(i:Int))=k:=⟨(8*((n:Int)-1-(i:Int))).toNat,by omega⟩
  have nxk:(n:Int)-1-(i:Int)-1=(n:Int)-1-((i+1:Nat):Int):=by omega
  have sh:=fun y:Int=>a1B .u64 y k (by show k<=64;omega)
  obtain⟨c,hc⟩:∃c,c=x / 2 ^ k % 256:=⟨_,rfl⟩
  have gi:(R7 n x)[i]? =some c:=by
   rw[b3r n _ i ci,hc,d8C,show 8*(n-1-i)=k by omega]
  have tki:(R7 n x).take (i+1)=(R7 n x).take i++[c]:=by rw[List.take_add_one,gi];rfl
  have il:((R7 n x).take i).length=i:=by rw[List.length_take,F6];omega
  simp(disch:=omega)only[b1d,c44,↓R44,e0,e2,e7,b2,hk,sh,wu8,<-hc,F8,List.append_nil,↓j0,l0,zA,zB,zC,zD,zE,zF,zG,zH,zI,reduceCtorEq,zJ,zK,zL,zM]
  refine(V.new8 _).app (m:=[c]) rfl (W8 B8 hh c 5 1) (by rw[List.length_singleton,yG,il];omega) (by rw[List.length_singleton,yG,il];omega) fun v' h' b' V3 hn' hb' ho' =>?_
  have hn'' :hh.next+1<=h'.next:=hn'
  simp(disch:=omega)only[c44,↓R44,e0,e2,e7,nxk,↓j0,l0,zA,zB,zC,zD,zE,zF,zG,zH,zI,reduceCtorEq,zJ,zK,zL,zM]
  refine⟨d-1,by omega,i+1,b',v',by omega,by omega,fun z hz=>?_,?_,?_,rfl,rfl⟩
  ·rw[ho' z (by show z<hh.next+1;omega) (.inr (by omega)),b7 _ _ (by omega),ho z hz]
  ·rcases hb' with rfl|hb'
   ·exact hbb
   ·have:hh.next+1<=b' :=hb'
    omega
  ·rw[tki,<-List.append_assoc];exact V3
 ·have b2:decide ((n:Int)-1-(i:Int)>=0)=false:=decide_eq_false (by omega)
  obtain rfl:i=n:=by omega
  rw[List.take_of_length_le (by rw[F6];exact yP _)]at V
  simp(disch:=omega)only[b1d,c44,↓R44,e0,e2,e7,b2,↓j0,l0,zA,zB,zC,zD,zE,zF,zG,zH,zI,reduceCtorEq,zJ,zK,zL,zM]
  exact hQ _ _ _ V hn hbb ho
def M0(sign:Int)(l:List Int):List Int:=[sign,1,(l.length:Int) / 256 % 256,(l.length:Int) % 256]++l
theorem a2r(h:Heap)(H:Nat)(hH:H<=h.next)(sign:Int)(v:Value)(l:List Int)(b:Nat)(V:F1 h 5 B8 v l b)(hl:l.length<=10000){Q:Value->Heap->Prop}
  (hQ:∀h' v' b',F1 h' 5 B8 v' (M0 sign l) b' ->h.next<=h'.next->H<=b' ->(∀z,z<H->h'.obj z=h.obj z)->Q v' h'):
  r8 cp 45 [.int .u8 sign,v] h Q:=by
 rw[a8 cp e9m]
 obtain⟨a,cap,rfl,hcap⟩:=V.val
 have sh:=fun y:Int=>a1B .i64 y 8 (by decide)
 have s8:(l.length:Int) / 2 ^ 8=(l.length:Int) / 256:=rfl
 obtain⟨h1,h1d⟩:∃h1,h1=h.new (.cells [.int .u8 sign,.int .u8 1,.int .u8 ((l.length:Int) / 256 % 256),.int .u8 ((l.length:Int) % 256)] 5 .grow):=⟨_,rfl⟩
 have V1:F1 h1 5 B8 (.slice (some ⟨h.next,0,none⟩) 4 4) [sign,1,(l.length:Int) / 256 % 256,(l.length:Int) % 256] h.next:=.inr ⟨4,[],rfl,by rw[h1d];exact Nat.lt_succ_self _,by rw[h1d,b8];rfl,rfl,yP _⟩
 have V2:F1 h1 5 B8 (.slice a l.length cap) l b:=by rw[h1d];exact V.new8 _
 have n1:h1.next=h.next+1:=by rw[h1d];rfl
 simp(disch:=omega)only[c45,↓R45,sh,s8,wu8,F8,List.cons_append,List.nil_append,<-h1d,↓j0,l0,zA,zB,zC,zD,zE,zF,zG,zH,zI,reduceCtorEq,zJ,zK,zL,zM]
 refine V1.app (m:=l) (bytes:=1) rfl V2.src0 (by simp only[yM,List.length_nil];omega) (by simp only[yM,List.length_nil];omega) fun v' h' b' V3 hn' hb' ho' =>?_
 simp(disch:=omega)only[c45,↓R45,↓j0,l0,zA,zB,zC,zD,zE,zF,zG,zH,zI,reduceCtorEq,zJ,zK,zL,zM]
 refine hQ _ _ _ V3 (by omega) (by omega) fun z hz=>?_
 rw[ho' z (by omega) (.inr (by omega)),h1d,b7 _ _ (by omega)]
def a3I(op rule cost:Int)(key:List Int)(k:Int):List Int:=
 [op % 256,rule % 256]++(if op=1\/op=2 then R7 4 cost++[(key.length:Int) % 256]++key else if op=4 then[k % 256]else[])
def a2O(op rule cost:Int)(key:List Int)(k:Int):Value:=.agg #[.int .i64 op,.int .i64 rule,.int .u32 cost,.string (bs key),.int .i64 k]
theorem a2G(h:Heap)(op rule cost:Int)(key:List Int)(k:Int)(hop:op=1\/op=2\/op=3\/op=4)(hc:0<=cost/\cost<4294967296)(hk:H7 key)(hl:key.length<=64){Q:Value->Heap->Prop}
  (hQ:∀h' v' b',F1 h' 5 B8 v' (M0 167 (a3I op rule cost key k)) b' ->Old h h' ->h.next<=b' ->Q v' h'):
  r8 cp 20 [a2O op rule cost key k] h Q:=by
 rw[a8 cp e9a]
 unfold a2O
 obtain⟨h1,h1d,o1,n1,ga⟩:=M8 h (.cells [.int .i64 op,.int .i64 rule,.int .u32 cost,.string (bs key),.int .i64 k] 61 .fix)
 obtain⟨h2,h2d,o2,n2,_⟩:=M8 h1 (.cells [.int .u8 (op % 256),.int .u8 (rule % 256)] 5 .grow)
 have ga2:=(o2.obj h.next (by omega)).trans ga
 have V2:F1 h2 5 B8 (.slice (some ⟨h1.next,0,none⟩) 2 2) [op % 256,rule % 256] h1.next:=.inr ⟨2,[],rfl,by rw[h2d];exact Nat.lt_succ_self _,by rw[h2d,b8];rfl,rfl,yP _⟩
 have hsz:=a4g key
 have fin:∀hh vv l b,F1 hh 5 B8 vv l b->l=a3I op rule cost key k->h2.next<=hh.next->h1.next<=b->(∀z,z<h1.next->hh.obj z=h2.obj z)->∀{R:Value->Heap->Prop},(∀v' h',Q v' h' ->R v' h')->r8 cp 45 [.int .u8 167,vv] hh R:=by
  intro hh vv l b VV hll hn hb ho R hR
  refine a2r hh h1.next (by omega) 167 vv l b VV ?_ fun h' v' b' V3 hn' hb' ho' =>?_
  ·rw[hll];unfold a3I
   split
   ·simp only[yG,F6,yM,List.length_nil];omega
   ·split<;>simp
  ·rw[hll]at V3
   exact hR _ _<|hQ _ _ _ V3 ⟨by omega,fun z hz=>by rw[ho' z (by omega),ho z (by omega),o2.obj z (by omega),o1.obj z hz]⟩ (by omega)
 rcases hop with rfl|rfl|rfl|rfl
 all_goals
  simp(disch:=omega)only[c20,↓R20,<-h1d,ga,wu8,F8,List.cons_append,List.nil_append,Int.reduceMod,Int.reduceEq,zN,↓j0,l0,zA,zB,zC,zD,zE,zF,zG,zH,zI,reduceCtorEq,zJ,zK,zL,zM]at h2d ⊢
  simp(disch:=omega)only[c20,↓R20,<-h2d,ga,ga2,wu8,F8,List.cons_append,List.nil_append,Int.reduceMod,Int.reduceEq,zN,↓j0,l0,zA,zB,zC,zD,zE,zF,zG,zH,zI,reduceCtorEq,zJ,zK,zL,zM]
 iterate 2
  ·refine b0Q h2 h1.next (by omega) _ _ h1.next V2 (yP _) (by simp) 4 (by decide) cost fun h3 v3 b3 V3 hn3 hb3 ho3=>?_
   have ga3:=(ho3 h.next (by omega)).trans ga2
   simp(disch:=omega)only[c20,↓R20,ga2,ga3,hsz,wu8,F8,List.append_nil,↓j0,l0,zA,zB,zC,zD,zE,zF,zG,zH,zI,reduceCtorEq,zJ,zK,zL,zM]
   refine(V3.new8 _).app (m:=[(key.length:Int) % 256]) (bytes:=1) rfl (W8 B8 h3 _ 5 1) (by simp only[yG,F6,yM,List.length_nil];omega) (by simp only[yG,F6,yM,List.length_nil];omega) fun v4 h4 b4 V4 hn4 hb4 ho4=>?_
   have hn4' :h3.next+1<=h4.next:=hn4
   have ho4' :∀z,z<h1.next->h4.obj z=h3.obj z:=fun z hz=>by rw[ho4 z (by show z<h3.next+1;omega) (.inr (by omega)),b7 _ _ (by omega)]
   have hb4' :h1.next<=b4:=by
    rcases hb4 with rfl|hb4
    ·exact hb3
    ·have:h3.next+1<=b4:=hb4
     omega
   have ga4:=(ho4' h.next (by omega)).trans ga3
   simp(disch:=omega)only[c20,↓R20,ga4,↓j0,l0,zA,zB,zC,zD,zE,zF,zG,zH,zI,reduceCtorEq,zJ,zK,zL,zM]
   refine V4.app (m:=key) (bytes:=1) rfl (d9L h4 key hk) (by simp only[yG,F6,yM,List.length_nil];omega) (by simp only[yG,F6,yM,List.length_nil];omega) fun v5 h5 b5 V5 hn5 hb5 ho5=>?_
   simp(disch:=omega)only[c20,↓R20,↓j0,l0,zA,zB,zC,zD,zE,zF,zG,zH,zI,reduceCtorEq,zJ,zK,zL,zM]
   refine fin h5 v5 _ b5 V5 (by simp[a3I]) (by omega) (by omega) (fun z hz=>?_) fun v' h' q=>?_
   rotate_left
   ·simp(disch:=omega)only[c20,↓R20,↓j0,l0,zA,zB,zC,zD,zE,zF,zG,zH,zI,reduceCtorEq,zJ,zK,zL,zM]
    exact q
   rw[ho5 z (by omega) (.inr (by omega)),ho4' z hz,ho3 z hz]
 ·refine fin h2 _ _ _ V2 (by simp[a3I]) (yP _) (yP _) (fun z _=>rfl) fun v' h' q=>?_
  simp(disch:=omega)only[c20,↓R20,↓j0,l0,zA,zB,zC,zD,zE,zF,zG,zH,zI,reduceCtorEq,zJ,zK,zL,zM]
  exact q
 ·have e2:=W8 B8 h2 (k % 256) 5 1
  rw[n2]at e2
  refine(V2.new8 _).app (m:=[k % 256]) (bytes:=1) rfl e2 (by simp) (by simp) fun v4 h4 b4 V4 hn4 hb4 ho4=>?_
  have hn4' :h2.next+1<=h4.next:=hn4
  simp(disch:=omega)only[c20,↓R20,↓j0,l0,zA,zB,zC,zD,zE,zF,zG,zH,zI,reduceCtorEq,zJ,zK,zL,zM]
  refine fin h4 v4 _ b4 V4 (by simp[a3I]) (by omega) ?_ (fun z hz=>?_) fun v' h' q=>?_
  rotate_left 2
  ·simp(disch:=omega)only[c20,↓R20,↓j0,l0,zA,zB,zC,zD,zE,zF,zG,zH,zI,reduceCtorEq,zJ,zK,zL,zM]
   exact q
  ·rcases hb4 with rfl|hb4
   ·exact yP _
   ·have:h2.next+1<=b4:=hb4
    omega
  ·rw[ho4 z (by show z<h2.next+1;omega) (.inr (by omega)),b7 _ _ (by omega)]
def a0F(op n:Int):Bool:=if op=1\/op=2 then decide (n>=7)else if op=3 then n==2 else if op=4 then n==3 else false
theorem d8m(h:Heap)(op n:Int)(Q:Value->Heap->Prop):r8 cp 101 [.int .u8 op,.int .u8 n] h Q↔Q (.bool (a0F op n)) h:=by
 refine p6 ?_ Q
 rw[a8 cp e5k]
 unfold a0F
 by_cases c1:op=1
 ·subst c1
  simp(disch:=omega)only[b2s,↓d5b,zN,↓j0,l0,zA,zB,zC,zD,zE,zF,zG,zH,zI,reduceCtorEq,zJ,zK,zL,zM]
 by_cases c2:op=2
 ·subst c2
  simp(disch:=omega)only[b2s,↓d5b,zN,↓j0,l0,zA,zB,zC,zD,zE,zF,zG,zH,zI,reduceCtorEq,zJ,zK,zL,zM]
 by_cases c3:op=3
 ·subst c3
  simp(disch:=omega)only[b2s,↓d5b,zN,↓j0,l0,zA,zB,zC,zD,zE,zF,zG,zH,zI,reduceCtorEq,zJ,zK,zL,zM]
 by_cases c4:op=4
 ·subst c4
  simp(disch:=omega)only[b2s,↓d5b,zN,↓j0,l0,zA,zB,zC,zD,zE,zF,zG,zH,zI,reduceCtorEq,zJ,zK,zL,zM]
 have a1:(op==1)=false:=beq_eq_false_iff_ne.2 c1
 have a2:(op==2)=false:=beq_eq_false_iff_ne.2 c2
 have a3:(op==3)=false:=beq_eq_false_iff_ne.2 c3
 have a4:(op==4)=false:=beq_eq_false_iff_ne.2 c4
 simp(disch:=omega)only[b2s,↓d5b,a1,a2,a3,a4,↓j0,l0,zA,zB,zC,zD,zE,zF,zG,zH,zI,reduceCtorEq,zJ,zK,zL,zM]
def C8(l3:Int)(i:Nat)(c rules:Int):Int:=
 if i=0 then(if c=167 then 0 else 5)
 else if i=1 then(if c=1 then 0 else 6)
 else if i=2 then(if c=0 then 0 else 7)
 else if i=3 then(if c=2\/c=3\/7<=c/\c<=71 then 0 else 7)
 else if i=4 then(if a0F c l3=true then 0 else 8)
 else if i=5 then(if c<rules then 0 else 9)
 else if i=10 then(if c=l3-7 then 0 else 10)
 else 0
theorem d3Y(h:Heap)(v:Value)(l:List Int)(s:X7 h v l)(i:Nat)(hi:i<l.length)(hl:l.length<=1000)(byt:H7 l)(c rules:Int)(hc:0<=c/\c<256)(Q:Value->Heap->Prop):
  r8 cp 95 [v,.int .i64 i,.int .u8 c,.int .i64 rules] h Q↔Q (.int .i64 (C8 (l.getD 3 0) i c rules)) h:=by
 refine p6 ?_ Q
 rw[a8 cp e8j]
 unfold C8
 by_cases c0:i=0
 ·have z:(i:Int)=0:=by omega
  rw[if_pos c0]
  by_cases d:c=167
  ·have d' :(c !=167)=false:=by rw[d];rfl
   rw[if_pos d]
   simp(disch:=omega)only[c95,↓R95,z,d',zN,↓j0,l0,zA,zB,zC,zD,zE,zF,zG,zH,zI,reduceCtorEq,zJ,zK,zL,zM]
  ·have d' :(c !=167)=true:=bne_iff_ne.2 d
   rw[if_neg d]
   simp(disch:=omega)only[c95,↓R95,z,d',zN,↓j0,l0,zA,zB,zC,zD,zE,zF,zG,zH,zI,reduceCtorEq,zJ,zK,zL,zM]
 by_cases c1:i=1
 ·have z:(i:Int)=1:=by omega
  rw[if_neg c0,if_pos c1]
  by_cases d:c=1
  ·have d' :(c !=1)=false:=by rw[d];rfl
   rw[if_pos d]
   simp(disch:=omega)only[c95,↓R95,z,d',zN,↓j0,l0,zA,zB,zC,zD,zE,zF,zG,zH,zI,reduceCtorEq,zJ,zK,zL,zM]
  ·have d' :(c !=1)=true:=bne_iff_ne.2 d
   rw[if_neg d]
   simp(disch:=omega)only[c95,↓R95,z,d',zN,↓j0,l0,zA,zB,zC,zD,zE,zF,zG,zH,zI,reduceCtorEq,zJ,zK,zL,zM]
 by_cases c2:i=2
 ·have z:(i:Int)=2:=by omega
  rw[if_neg c0,if_neg c1,if_pos c2]
  by_cases d:c=0
  ·have d' :(c !=0)=false:=by rw[d];rfl
   rw[if_pos d]
   simp(disch:=omega)only[c95,↓R95,z,d',zN,↓j0,l0,zA,zB,zC,zD,zE,zF,zG,zH,zI,reduceCtorEq,zJ,zK,zL,zM]
  ·have d' :(c !=0)=true:=bne_iff_ne.2 d
   rw[if_neg d]
   simp(disch:=omega)only[c95,↓R95,z,d',zN,↓j0,l0,zA,zB,zC,zD,zE,zF,zG,zH,zI,reduceCtorEq,zJ,zK,zL,zM]
 by_cases c3:i=3
 ·have z:(i:Int)=3:=by omega
  rw[if_neg c0,if_neg c1,if_neg c2,if_pos c3]
  by_cases d2:c=2
  ·have d' :(c !=2)=false:=by rw[d2];rfl
   rw[if_pos (.inl d2)]
   simp(disch:=omega)only[c95,↓R95,z,d',zN,↓j0,l0,zA,zB,zC,zD,zE,zF,zG,zH,zI,reduceCtorEq,zJ,zK,zL,zM]
  have d2' :(c !=2)=true:=bne_iff_ne.2 d2
  by_cases d3:c=3
  ·have d' :(c !=3)=false:=by rw[d3];rfl
   rw[if_pos (.inr (.inl d3))]
   simp(disch:=omega)only[c95,↓R95,z,d2',d',zN,↓j0,l0,zA,zB,zC,zD,zE,zF,zG,zH,zI,reduceCtorEq,zJ,zK,zL,zM]
  have d3' :(c !=3)=true:=bne_iff_ne.2 d3
  by_cases d7:c<7
  ·have d' :decide (c<7)=true:=decide_eq_true d7
   rw[if_neg (show ¬(c=2\/c=3\/7<=c/\c<=71) by omega)]
   simp(disch:=omega)only[c95,↓R95,z,d2',d3',d',zN,↓j0,l0,zA,zB,zC,zD,zE,zF,zG,zH,zI,reduceCtorEq,zJ,zK,zL,zM]
  have d7' :decide (c<7)=false:=decide_eq_false d7
  by_cases d8:c>71
  ·have d' :decide (c>71)=true:=decide_eq_true d8
   rw[if_neg (show ¬(c=2\/c=3\/7<=c/\c<=71) by omega)]
   simp(disch:=omega)only[c95,↓R95,z,d2',d3',d7',d',zN,↓j0,l0,zA,zB,zC,zD,zE,zF,zG,zH,zI,reduceCtorEq,zJ,zK,zL,zM]
  ·have d' :decide (c>71)=false:=decide_eq_false d8
   rw[if_pos (show c=2\/c=3\/7<=c/\c<=71 by omega)]
   simp(disch:=omega)only[c95,↓R95,z,d2',d3',d7',d',zN,↓j0,l0,zA,zB,zC,zD,zE,zF,zG,zH,zI,reduceCtorEq,zJ,zK,zL,zM]
 by_cases c5:i=5
 ·have z:(i:Int)=5:=by omega
  rw[if_neg c0,if_neg c1,if_neg c2,if_neg c3,if_neg (show ¬i=4 by omega),if_pos c5]
  have wc:IntKind.i64.wrap c=c:=by rw[W3];omega
  by_cases d:c<rules
  ·have d' :decide (c>=rules)=false:=decide_eq_false (by omega)
   rw[if_pos d]
   simp(disch:=omega)only[c95,↓R95,z,wc,d',zN,↓j0,l0,zA,zB,zC,zD,zE,zF,zG,zH,zI,reduceCtorEq,zJ,zK,zL,zM]
  ·have d' :decide (c>=rules)=true:=decide_eq_true (by omega)
   rw[if_neg d]
   simp(disch:=omega)only[c95,↓R95,z,wc,d',zN,↓j0,l0,zA,zB,zC,zD,zE,zF,zG,zH,zI,reduceCtorEq,zJ,zK,zL,zM]
 by_cases c4:i=4
 ·have z:(i:Int)=4:=by omega
  rw[if_neg c0,if_neg c1,if_neg c2,if_neg c3,if_pos c4]
  have hx:l[3]? =some l[3]:=yF (by omega)
  have hd:l.getD 3 0=l[3]:=by rw[List.getD_eq_getElem?_getD,hx];rfl
  rw[hd]
  obtain⟨b,o,cap,rfl,_,_,_,hr⟩:=s.at (by omega)
  have hg:=X7.get (cap:=cap) hr hx
  generalize l[3]'(by omega)=x at*
  have f:=fun h n=>d8m h c n
  cases d:a0F c x with
  |true=>
   simp(disch:=omega)only[c95,↓R95,z,f,hg,d,zN,↓j0,l0,zA,zB,zC,zD,zE,zF,zG,zH,zI,reduceCtorEq,zJ,zK,zL,zM]
  |false=>
   simp(disch:=omega)only[c95,↓R95,z,f,hg,d,zN,↓j0,l0,zA,zB,zC,zD,zE,zF,zG,zH,zI,reduceCtorEq,zJ,zK,zL,zM]
 by_cases c10:i=10
 ·have z:(i:Int)=10:=by omega
  rw[if_neg c0,if_neg c1,if_neg c2,if_neg c3,if_neg c4,if_neg c5,if_pos c10]
  have hx:l[3]? =some l[3]:=yF (by omega)
  have hd:l.getD 3 0=l[3]:=by rw[List.getD_eq_getElem?_getD,hx];rfl
  rw[hd]
  have hxr:=byt _ (yK hx)
  obtain⟨b,o,cap,rfl,_,_,_,hr⟩:=s.at (by omega)
  have hg:=X7.get (cap:=cap) hr hx
  generalize l[3]'(by omega)=x at*
  have wc:IntKind.i64.wrap c=c:=by rw[W3];omega
  by_cases d:c=x-7
  ·have d' :(c !=x-7)=false:=by rw[d];exact bne_self_eq_false _
   rw[if_pos d]
   simp(disch:=omega)only[c95,↓R95,z,hg,wc,d',zN,↓j0,l0,zA,zB,zC,zD,zE,zF,zG,zH,zI,reduceCtorEq,zJ,zK,zL,zM]
  ·have d' :(c !=x-7)=true:=bne_iff_ne.2 d
   rw[if_neg d]
   simp(disch:=omega)only[c95,↓R95,z,hg,wc,d',zN,↓j0,l0,zA,zB,zC,zD,zE,zF,zG,zH,zI,reduceCtorEq,zJ,zK,zL,zM]
 have z0:((i:Int)==0)=false:=beq_eq_false_iff_ne.2 (by omega)
 have z1:((i:Int)==1)=false:=beq_eq_false_iff_ne.2 (by omega)
 have z2:((i:Int)==2)=false:=beq_eq_false_iff_ne.2 (by omega)
 have z3:((i:Int)==3)=false:=beq_eq_false_iff_ne.2 (by omega)
 have z4:((i:Int)==4)=false:=beq_eq_false_iff_ne.2 (by omega)
 have z5:((i:Int)==5)=false:=beq_eq_false_iff_ne.2 (by omega)
 have z10:((i:Int)==10)=false:=beq_eq_false_iff_ne.2 (by omega)
 rw[if_neg c0,if_neg c1,if_neg c2,if_neg c3,if_neg c4,if_neg c5,if_neg c10]
 simp(disch:=omega)only[c95,↓R95,z0,z1,z2,z3,z4,z5,z10,↓j0,l0,zA,zB,zC,zD,zE,zF,zG,zH,zI,reduceCtorEq,zJ,zK,zL,zM]
def T4(l:List Int)(rules:Int):Nat->Nat->Int
 |0,_=>0
 |d+1,i=>if 4<=i/\4+l.getD 3 0<=i then 0 else if C8 (l.getD 3 0) i (l.getD i 0) rules=0 then T4 l rules d (i+1)else C8 (l.getD 3 0) i (l.getD i 0) rules
theorem c6A(h:Heap)(v:Value)(l:List Int)(s:X7 h v l)(hl:l.length<=1000)(byt:H7 l)(rules:Int)(Q:Value->Heap->Prop):
  r8 cp 84 [v,.int .i64 rules] h Q↔Q (.int .i64 (T4 l rules l.length 0)) h:=by
 refine p6 ?_ Q
 rw[a8 cp e9p]
 obtain⟨a,cap,e,hcap⟩:=s.val
 subst e
 simp(disch:=omega)only[c84,↓R84,↓j0,l0,zA,zB,zC,zD,zE,zF,zG,zH,zI,reduceCtorEq,zJ,zK,zL,zM]
 refine y6 cp a0E _ (fun d e hh=>∃i:Nat,i+d=l.length/\hh=h/\T4 l rules d i=T4 l rules l.length 0/\e 0=.slice a l.length cap/\e 1=.int .i64 rules/\e 8=.slice a l.length cap/\e 9=.int .i64 l.length/\e 10=.int .i64 i) ?_ l.length _ _
  ⟨0,by omega,rfl,rfl,rfl,rfl,rfl,rfl,rfl⟩
 rintro d e hh ⟨i,hi,rfl,hp,e0,e1,e8,e9,e10⟩
 by_cases ci:i<l.length
 ·have b1:decide ((i:Int)<(l.length:Int))=true:=decide_eq_true (by omega)
  have nx:(i:Int)+1=((i+1:Nat):Int):=by omega
  obtain⟨d,rfl⟩:∃d',d=d' +1:=⟨d-1,by omega⟩
  have hx:l[i]? =some l[i]:=yF ci
  have hd:l.getD i 0=l[i]:=by rw[List.getD_eq_getElem?_getD,hx];rfl
  obtain⟨c,hc⟩:∃c,c=l[i]:=⟨_,rfl⟩
  rw[<-hc]at hx hd
  have cr:=byt c (yK hx)
  have f:=fun Q=>d3Y hh _ l s i ci hl byt c rules cr Q
  simp only[T4,hd]at hp
  obtain⟨b,o,cap',hv,_,_,_,hr⟩:=s.at (by omega)
  simp only[Value.slice.injEq]at hv
  obtain⟨rfl,_,_⟩:=hv
  have hg:=X7.get (cap:=cap) hr hx
  by_cases c4:i<4
  ·have b4:decide ((i:Int)>=4)=false:=decide_eq_false (by omega)
   rw[if_neg (show ¬(4<=i/\4+l.getD 3 0<=(i:Int)) by omega)]at hp
   by_cases z:C8 (l.getD 3 0) i c rules=0
   ·rw[if_pos z]at hp
    have z' :(C8 (l.getD 3 0) i c rules !=0)=false:=by rw[z];rfl
    simp(disch:=omega)only[a0E,c84,↓R84,e0,e1,e8,e9,e10,b1,b4,hg,f,z',nx,yS,↓j0,l0,zA,zB,zC,zD,zE,zF,zG,zH,zI,reduceCtorEq,zJ,zK,zL,zM]
    refine⟨d,by omega,i+1,by omega,hp,?_⟩
    repeat' first|assumption|rfl|apply And.intro
   ·rw[if_neg z]at hp
    have z' :(C8 (l.getD 3 0) i c rules !=0)=true:=bne_iff_ne.2 z
    simp(disch:=omega)only[a0E,c84,↓R84,e0,e1,e8,e9,e10,b1,b4,hg,f,z',nx,yS,↓j0,l0,zA,zB,zC,zD,zE,zF,zG,zH,zI,reduceCtorEq,zJ,zK,zL,zM]
    rw[hp]
  ·have b4:decide ((i:Int)>=4)=true:=decide_eq_true (by omega)
   have hx3:l[3]? =some l[3]:=yF (by omega)
   have hd3:l.getD 3 0=l[3]:=by rw[List.getD_eq_getElem?_getD,hx3];rfl
   obtain⟨x,hxd⟩:∃x,x=l[3]:=⟨_,rfl⟩
   rw[<-hxd]at hx3 hd3
   rw[hd3]at hp f
   have xr:=byt x (yK hx3)
   have hg3:=X7.get (cap:=cap) hr hx3
   have wx:IntKind.i64.wrap x=x:=by rw[W3];omega
   by_cases c5:4+x<=(i:Int)
   ·have b5:decide ((i:Int)>=4+x)=true:=decide_eq_true c5
    rw[if_pos ⟨by omega,c5⟩]at hp
    simp(disch:=omega)only[a0E,c84,↓R84,e0,e1,e8,e9,e10,b1,b4,b5,hg,hg3,wx,nx,yS,↓j0,l0,zA,zB,zC,zD,zE,zF,zG,zH,zI,reduceCtorEq,zJ,zK,zL,zM]
    rw[hp]
   have b5:decide ((i:Int)>=4+x)=false:=decide_eq_false c5
   rw[if_neg (show ¬(4<=i/\4+x<=(i:Int)) by omega)]at hp
   by_cases z:C8 x i c rules=0
   ·rw[if_pos z]at hp
    have z' :(C8 x i c rules !=0)=false:=by rw[z];rfl
    simp(disch:=omega)only[a0E,c84,↓R84,e0,e1,e8,e9,e10,b1,b4,b5,hg,hg3,wx,f,z',nx,yS,↓j0,l0,zA,zB,zC,zD,zE,zF,zG,zH,zI,reduceCtorEq,zJ,zK,zL,zM]
    refine⟨d,by omega,i+1,by omega,hp,?_⟩
    repeat' first|assumption|rfl|apply And.intro
   ·rw[if_neg z]at hp
    have z' :(C8 x i c rules !=0)=true:=bne_iff_ne.2 z
    simp(disch:=omega)only[a0E,c84,↓R84,e0,e1,e8,e9,e10,b1,b4,b5,hg,hg3,wx,f,z',nx,yS,↓j0,l0,zA,zB,zC,zD,zE,zF,zG,zH,zI,reduceCtorEq,zJ,zK,zL,zM]
    rw[hp]
 ·have b1:decide ((i:Int)<(l.length:Int))=false:=decide_eq_false (by omega)
  obtain rfl:d=0:=by omega
  simp only[T4]at hp
  simp(disch:=omega)only[a0E,c84,↓R84,e0,e1,e8,e9,e10,b1,↓j0,l0,zA,zB,zC,zD,zE,zF,zG,zH,zI,reduceCtorEq,zJ,zK,zL,zM]
  rw[<-hp]
theorem b0O{l:List Int}{rules:Int}:∀(d i:Nat),i+d=l.length->T4 l rules d i=0->∀j,i<=j->j<l.length->(j<4\/(j:Int)<4+l.getD 3 0)->C8 (l.getD 3 0) j (l.getD j 0) rules=0
 |0,i,hd,_,j,h1,h2,_=>by omega
 |d+1,i,hd,hp,j,h1,h2,h3=>by
  simp only[T4]at hp
  split at hp
  ·rename_i c;omega
  split at hp
  ·rename_i z
   by_cases e:j=i
   ·subst e;exact z
   ·exact b0O d (i+1) (by omega) hp j (by omega) h2 h3
  ·rename_i z;exact absurd hp z
structure ReqV where
 op:Int
 rule:Int
 cost:Int
 key:List Int
 k:Int
def ReqV.val(q:ReqV):Value:=a2O q.op q.rule q.cost q.key q.k
def c9c:ReqV:=⟨0,0,0,[],0⟩
def a1e(l:List Int):ReqV:=
 if l.getD 4 0=1\/l.getD 4 0=2 then⟨l.getD 4 0,l.getD 5 0,a0V ((l.drop 6).take 4),(l.drop 11).take ((4+l.getD 3 0).toNat-11),0⟩
 else if l.getD 4 0=4 then⟨4,l.getD 5 0,0,[],l.getD 6 0⟩else⟨l.getD 4 0,l.getD 5 0,0,[],0⟩
def B2(l:List Int)(rules:Int):Option ReqV×Int:=
 if T4 l rules l.length 0≠0 then(none,T4 l rules l.length 0)
 else if l.length<4\/(l.length:Int)<4+l.getD 3 0 then(none,0)
 else(some (a1e l),0)
theorem getD_some{l:List Int}{i:Nat}(h:i<l.length):l[i]? =some (l.getD i 0):=by
 rw[List.getD_eq_getElem?_getD,yF h];rfl
def c6U(x:Int):Prop:=x=2\/x=3\/7<=x/\x<=71
theorem b0S{l:List Int}{rules:Int}(h:T4 l rules l.length 0=0)(hl:4<=l.length):c6U (l.getD 3 0):=by
 have:=b0O l.length 0 (by omega) h 3 (by omega) (by omega) (.inl (by omega))
 unfold C8 at this
 rw[if_neg (by omega),if_neg (by omega),if_neg (by omega),if_pos rfl]at this
 split at this
 ·assumption
 ·omega
theorem b1t{l:List Int}{rules:Int}(h:T4 l rules l.length 0=0)(hl:4<l.length):a0F (l.getD 4 0) (l.getD 3 0)=true:=by
 have h3:=b0S h (by omega)
 unfold c6U at h3
 have:=b0O l.length 0 (by omega) h 4 (by omega) (by omega) (.inr (by omega))
 unfold C8 at this
 rw[if_neg (by omega),if_neg (by omega),if_neg (by omega),if_neg (by omega),if_pos rfl]at this
 split at this
 ·assumption
 ·omega
theorem a6I{op n:Int}(h:a0F op n=true):(op=1\/op=2)/\7<=n\/op=3/\n=2\/op=4/\n=3:=by
 unfold a0F at h
 split at h
 ·rename_i c;exact .inl ⟨c,of_decide_eq_true h⟩
 split at h
 ·rename_i c;exact .inr (.inl ⟨c,by simpa using h⟩)
 split at h
 ·rename_i c;exact .inr (.inr ⟨c,by simpa using h⟩)
 ·exact absurd h (by simp)
theorem d5o(h:Heap)(v:Value)(l:List Int)(s:X7 h v l)(hl:l.length<=1000)(byt:H7 l)(rules:Int){Q:Value->Heap->Prop}
  (hQ:∀h' n,Old h h' ->(0<n↔(B2 l rules).1.isSome=true)->0<=n->Q (.tuple #[((B2 l rules).1.getD c9c).val,.int .i64 n,.int .i64 (B2 l rules).2]) h'):
  r8 cp 71 [v,.int .i64 rules] h Q:=by
 rw[a8 cp e9r]
 obtain⟨a,cap,ev,hcap⟩:=s.val
 obtain⟨h1,h1d,o1,n1,g1⟩:=M8 h (.cells [.int .i64 0,.int .i64 0,.int .u32 0,.string ⟨#[]⟩,.int .i64 0] 61 .fix)
 have s1:=s.old o1
 have f:=fun Q=>c6A h1 v l s1 hl byt rules Q
 unfold B2 at hQ
 by_cases p:T4 l rules l.length 0≠0
 ·rw[if_pos p]at hQ
  have p' :(T4 l rules l.length 0 !=0)=true:=bne_iff_ne.2 p
  simp(disch:=omega)only[c71,↓R71,<-h1d,f,p',g1,u5,↓j0,l0,zA,zB,zC,zD,zE,zF,zG,zH,zI,reduceCtorEq,zJ,zK,zL,zM]
  exact hQ _ 0 ⟨by rw[l6];omega,fun z hz=>by rw[a6 _ _ (by omega),o1.obj z hz]⟩ (by simp) (by omega)
 rw[if_neg p]at hQ
 have p0:T4 l rules l.length 0=0:=by omega
 have p' :(T4 l rules l.length 0 !=0)=false:=by rw[p0];rfl
 by_cases c1:l.length<4
 ·rw[if_pos (.inl c1)]at hQ
  have b1:decide ((l.length:Int)<4)=true:=decide_eq_true (by omega)
  subst ev
  simp(disch:=omega)only[c71,↓R71,<-h1d,f,p',b1,g1,u5,↓j0,l0,zA,zB,zC,zD,zE,zF,zG,zH,zI,reduceCtorEq,zJ,zK,zL,zM]
  exact hQ _ 0 ⟨by rw[l6];omega,fun z hz=>by rw[a6 _ _ (by omega),o1.obj z hz]⟩ (by simp) (by omega)
 have b1:decide ((l.length:Int)<4)=false:=decide_eq_false (by omega)
 obtain⟨b,o,cap',hv,hc',hb,he,hr⟩:=s.at (by omega)
 subst hv
 rw[<-o1.obj b hb]at he hr
 have i3:=getD_some (l:=l) (i:=3) (by omega)
 have l3:=b0S p0 (by omega)
 obtain⟨x,hx⟩:∃x:Nat,l.getD 3 0=x:=⟨(l.getD 3 0).toNat,by unfold c6U at l3;omega⟩
 rw[hx]at hQ l3 i3
 unfold c6U at l3
 have wx:IntKind.i64.wrap (x:Int)=x:=by rw[W3];omega
 have hg3:=X7.get (cap:=cap') hr i3
 have hbn:b≠h.next:=by omega
 by_cases c2:(l.length:Int)<4+(x:Int)
 ·rw[if_pos (.inr c2)]at hQ
  have b2:decide ((l.length:Int)<4+(x:Int))=true:=decide_eq_true (by omega)
  simp(disch:=omega)only[c71,↓R71,<-h1d,f,p',b1,b2,hg3,wx,g1,u5,yS,↓j0,l0,zA,zB,zC,zD,zE,zF,zG,zH,zI,reduceCtorEq,zJ,zK,zL,zM]
  exact hQ _ 0 ⟨by rw[l6];omega,fun z hz=>by rw[a6 _ _ (by omega),o1.obj z hz]⟩ (by simp) (by omega)
 rw[if_neg (by omega)]at hQ
 have b2:decide ((l.length:Int)<4+(x:Int))=false:=decide_eq_false (by omega)
 have i4:=getD_some (l:=l) (i:=4) (by omega)
 have i5:=getD_some (l:=l) (i:=5) (by omega)
 have ft:=a6I (b1t p0 (by omega))
 rw[hx]at ft
 unfold a1e at hQ
 rw[hx]at hQ
 obtain⟨op,hop⟩:∃op,op=l.getD 4 0:=⟨_,rfl⟩
 obtain⟨ru,hru⟩:∃ru,ru=l.getD 5 0:=⟨_,rfl⟩
 rw[<-hop]at i4 ft hQ
 rw[<-hru]at i5 hQ
 have hg4:=X7.get (cap:=cap') hr i4
 have hg5:=X7.get (cap:=cap') hr i5
 have r4:=byt _ (yK i4)
 have r5:=byt _ (yK i5)
 have w4:IntKind.i64.wrap op=op:=by rw[W3];omega
 have w5:IntKind.i64.wrap ru=ru:=by rw[W3];omega
 have fin:∀(H:Heap),H.next=h1.next+1->(∀z,z<h1.next->H.obj z=h1.obj z)->∀c t,Old h ((H.upd h.next c).upd t c)->True:=fun _ _ _ _ _ _=>trivial
 rcases ft with⟨c3,c4⟩| ⟨rfl,c4⟩| ⟨rfl,c4⟩
 ·rw[if_pos c3]at hQ
  have q:(op==1)=true\/(op==1)=false/\(op==2)=true:=by
   clear hop
   rcases c3 with rfl|rfl<;>decide
  obtain⟨H2,H2d,o2,n2,g2⟩:=Z1 h1 (.cells [.int .i64 0,.int .i64 0,.int .u32 0,.string ⟨#[]⟩,.int .i64 0] 61 .fix) (.cells [.int .i64 op,.int .i64 ru,.int .u32 0,.string ⟨#[]⟩,.int .i64 0] 61 .fix)
  obtain⟨H3,H3d⟩:∃H3,H3=H2.upd h1.next (.cells [.int .i64 op,.int .i64 ru,.int .u32 (a0V ((l.drop 6).take 4)),.string ⟨#[]⟩,.int .i64 0] 61 .fix):=⟨_,rfl⟩
  have n3:H3.next=h1.next+1:=by rw[H3d];exact n2
  have o3:Old h1 H3:=by rw[H3d];exact⟨by rw[l6];exact o2.next,fun z hz=>by rw[a6 _ _ (by omega)];exact o2.obj z hz⟩
  have g3:H3.obj h1.next=.cells [.int .i64 op,.int .i64 ru,.int .u32 (a0V ((l.drop 6).take 4)),.string ⟨#[]⟩,.int .i64 0] 61 .fix:=by rw[H3d];exact a9 _ _ _
  have g3' :H3.obj h.next=.cells [.int .i64 0,.int .i64 0,.int .u32 0,.string ⟨#[]⟩,.int .i64 0] 61 .fix:=by rw[o3.obj _ (by omega)];exact g1
  have he2:(H2.obj b).elemOk 5=true:=by rw[o2.obj b (by omega)];exact he
  have he3:(H3.obj b).elemOk 5=true:=by rw[o3.obj b (by omega)];exact he
  have S6:X7 H2 (.slice (some ⟨b,o+6,none⟩) 4 (cap' -6)) ((l.drop 6).take 4):=(X7.sub (by omega) he hr hc' 6 10 (by decide) (by omega)).old o2
  have S11:=X7.sub (h:=h1) (by omega) he hr hc' 11 (4+x) (by omega) (by omega)
  have ts2:=a0H (S11.old o2)
  have ts3:=a0H (S11.old o3)
  obtain⟨ky,hky⟩:∃ky,ky=(l.drop 11).take (4+x-11):=⟨_,rfl⟩
  rw[<-hky]at ts2 ts3
  have hk2:S0 none (Option.getD (some H2) H2) (.toStr (.slice (some ⟨b,o+11,none⟩) (4+x-11) (cap' -11))) (.string (bs ky))=True:=eq_true ts2
  have hk3:S0 none (Option.getD none H3) (.toStr (.slice (some ⟨b,o+11,none⟩) (4+x-11) (cap' -11))) (.string (bs ky))=True:=eq_true ts3
  have k4:(4:Int)+(x:Int)=((4+x:Nat):Int):=by omega
  have k4' :((4:Int)+(x:Int)).toNat=4+x:=by omega
  rw[k4',<-hky]at hQ
  have dl:((l.drop 6).take 4).length=4:=by rw[List.length_take,List.length_drop];omega
  have db:H7 ((l.drop 6).take 4):=fun y hy=>byt y (List.mem_of_mem_drop (List.mem_of_mem_take hy))
  have dr:=a1s 4 _ dl db
  have p4:(256:Int) ^ 4=4294967296:=by decide
  rw[p4]at dr
  obtain⟨co,hco⟩:∃co,co=a0V ((l.drop 6).take 4):=⟨_,rfl⟩
  have wc:IntKind.u32.wrap co=co:=by rw[e8l];omega
  rw[<-hco]at dr g3 H3d hQ
  rcases q with q1| ⟨q1,q2⟩
  ·simp(disch:=omega)only[c71,↓R71,<-h1d,f,p',b1,b2,hg3,hg4,hg5,wx,w4,w5,he,q1,g2,he2,u5,yS,zN,<-H2d,↓j0,l0,zA,zB,zC,zD,zE,zF,zG,zH,zI,reduceCtorEq,zJ,zK,zL,zM]
   refine d7y H2 _ _ S6 (by omega) db ?_
   simp(disch:=omega)only[c71,↓R71,<-hco,wc,k4,he2,he3,↓ts2,↓hk2,↓hk3,g2,<-H3d,g3,g3',u5,yS,↓j0,l0,zA,zB,zC,zD,zE,zF,zG,zH,zI,reduceCtorEq,zJ,zK,zL,zM]
   exact hQ _ ((4+x:Nat):Int) ⟨by simp only[l6];omega,fun z hz=>by rw[a6 _ _ (by omega),a6 _ _ (by omega),o3.obj z (by omega),o1.obj z hz]⟩ (by simp;omega) (by omega)
  ·simp(disch:=omega)only[c71,↓R71,<-h1d,f,p',b1,b2,hg3,hg4,hg5,wx,w4,w5,he,q1,q2,g2,he2,u5,yS,zN,<-H2d,↓j0,l0,zA,zB,zC,zD,zE,zF,zG,zH,zI,reduceCtorEq,zJ,zK,zL,zM]
   refine d7y H2 _ _ S6 (by omega) db ?_
   simp(disch:=omega)only[c71,↓R71,<-hco,wc,k4,he2,he3,↓ts2,↓hk2,↓hk3,g2,<-H3d,g3,g3',u5,yS,↓j0,l0,zA,zB,zC,zD,zE,zF,zG,zH,zI,reduceCtorEq,zJ,zK,zL,zM]
   exact hQ _ ((4+x:Nat):Int) ⟨by simp only[l6];omega,fun z hz=>by rw[a6 _ _ (by omega),a6 _ _ (by omega),o3.obj z (by omega),o1.obj z hz]⟩ (by simp;omega) (by omega)
 ·rw[if_neg (by decide),if_neg (by decide)]at hQ
  simp(disch:=omega)only[c71,↓R71,<-h1d,f,p',b1,b2,hg3,hg4,hg5,wx,w4,w5,g1,u5,yS,zN,↓j0,l0,zA,zB,zC,zD,zE,zF,zG,zH,zI,reduceCtorEq,zJ,zK,zL,zM]
  exact hQ _ (4+(x:Int)) ⟨by simp only[l6,f4];omega,fun z hz=>by rw[a6 _ _ (by omega),a6 _ _ (by omega),b7 _ _ (by omega),o1.obj z hz]⟩ (by simp;omega) (by omega)
 ·have i6:=getD_some (l:=l) (i:=6) (by omega)
  have hg6:=X7.get (cap:=cap') hr i6
  have r6:=byt _ (yK i6)
  have w6:IntKind.i64.wrap (l.getD 6 0)=l.getD 6 0:=by rw[W3];omega
  rw[if_neg (by decide),if_pos rfl]at hQ
  simp(disch:=omega)only[c71,↓R71,<-h1d,f,p',b1,b2,hg3,hg4,hg5,hg6,wx,w4,w5,w6,g1,u5,yS,zN,↓j0,l0,zA,zB,zC,zD,zE,zF,zG,zH,zI,reduceCtorEq,zJ,zK,zL,zM]
  exact hQ _ (4+(x:Int)) ⟨by simp only[l6,f4];omega,fun z hz=>by rw[a6 _ _ (by omega),a6 _ _ (by omega),a6 _ _ (by omega),b7 _ _ (by omega),o1.obj z hz]⟩ (by simp;omega) (by omega)
structure OldF(F:Nat->Prop)(h h' :Heap):Prop where
 next:h.next<=h'.next
 obj:∀b,b<h.next->¬F b->h'.obj b=h.obj b
theorem OldF.refl(F:Nat->Prop)(h:Heap):OldF F h h:=⟨yP _,fun _ _ _=>rfl⟩
theorem OldF.trans{F:Nat->Prop}{a b c:Heap}(h:OldF F a b)(k:OldF F b c):OldF F a c:=⟨yR h.next k.next,fun x hx hn=>by rw[k.obj x (yN hx h.next) hn,h.obj x hx hn]⟩
theorem Old.f{a b:Heap}(o:Old a b)(F:Nat->Prop):OldF F a b:=⟨o.next,fun x hx _=>o.obj x hx⟩
theorem OldF.mono{F G:Nat->Prop}{a b:Heap}(o:OldF F a b)(h:∀x,F x->G x):OldF G a b:=⟨o.next,fun x hx hn=>o.obj x hx fun q=>hn (h x q)⟩
theorem OldF.old{F:Nat->Prop}{a b:Heap}(o:OldF F a b)(h:∀x,F x->a.next<=x):Old a b:=⟨o.next,fun x hx=>o.obj x hx fun q=>by have:=h x q;omega⟩
theorem OldX.upd(X:Nat)(h:Heap)(o:Obj):OldX X h (h.upd X o):=⟨yP _,fun b _ hb=>a6 _ _ hb⟩
theorem OldX.f{X:Nat}{a b:Heap}(o:OldX X a b){F:Nat->Prop}(hX:F X):OldF F a b:=⟨o.next,fun x hx hn=>o.obj x hx fun e=>hn (e▸hX)⟩
theorem OldF.upd{F:Nat->Prop}(h:Heap)(X:Nat)(o:Obj)(hX:F X):OldF F h (h.upd X o):=⟨yP _,fun b _ hb=>a6 _ _ (fun e=>hb (e▸hX))⟩
abbrev d8w(nb S a n:Nat):List Value:=[.slice (some ⟨nb,0,none⟩) S S,.int .i64 a,.int .i64 n]
structure BufAt(h:Heap)(p nb S a:Nat)(B qs:List Int):Prop where
 op:h.obj p=.cells (d8w nb S a qs.length) 188 .fix
 lp:p<h.next
 on:h.obj nb=.cells (ints .u8 B) 5 .grow
 ln:nb<h.next
 pn:p≠nb
 len:B.length=S
 hS:1<=S/\S<=65536
 ha:a<S
 hn:qs.length<=S
 byt:H7 B
 at_:∀i,i<qs.length->B[(a+i) % S]? =qs[i]?
section
variable {h h' :Heap} {p nb S a:Nat} {B qs:List Int}
theorem BufAt.keep(b:BufAt h p nb S a B qs)(hn:h.next<=h'.next)(h1:h'.obj p=h.obj p)(h2:h'.obj nb=h.obj nb):BufAt h' p nb S a B qs:=
 { b with op:=h1.trans b.op,lp:=yN b.lp hn,on:=h2.trans b.on,ln:=yN b.ln hn }
theorem BufAt.oldF{F:Nat->Prop}(b:BufAt h p nb S a B qs)(o:OldF F h h')(h1:¬F p)(h2:¬F nb):BufAt h' p nb S a B qs:=
 b.keep o.next (o.obj p b.lp h1) (o.obj nb b.ln h2)
theorem room_ok(b:BufAt h p nb S a B qs)(Q:Value->Heap->Prop):r8 cp 63 [.pointer (some ⟨p,0,none⟩)] h Q↔Q (.int .i64 ((S-qs.length:Nat):Int)) h:=by
 refine p6 ?_ Q
 rw[a8 cp e8p]
 have op:=b.op
 have hn:=b.hn
 have hS:=b.hS
 have k:(S:Int)-(qs.length:Int)=((S-qs.length:Nat):Int):=by omega
 simp(disch:=omega)only[c63,↓R63,op,D3,k,↓j0,l0,zA,zB,zC,zD,zE,zF,zG,zH,zI,reduceCtorEq,zJ,zK,zL,zM]
theorem d9c(b:BufAt h p nb S a B qs)(Q:Value->Heap->Prop):r8 cp 83 [.pointer (some ⟨p,0,none⟩)] h Q↔Q (.int .i64 (qs.length:Nat)) h:=by
 refine p6 ?_ Q
 rw[a8 cp e6L]
 have op:=b.op
 simp(disch:=omega)only[c83,↓R83,op,D3,↓j0,l0,zA,zB,zC,zD,zE,zF,zG,zH,zI,reduceCtorEq,zJ,zK,zL,zM]
theorem c5p(b:BufAt h p nb S a B qs){Q:Value->Heap->Prop}(hQ:∀h',OldX p h h' ->BufAt h' p nb S 0 B []->Q (.tuple #[]) h'):r8 cp 61 [.pointer (some ⟨p,0,none⟩)] h Q:=by
 rw[a8 cp e6A]
 have op:=b.op
 have hS:=b.hS
 simp(disch:=omega)only[c61,↓R61,op,D3,↓j0,l0,zA,zB,zC,zD,zE,zF,zG,zH,zI,reduceCtorEq,zJ,zK,zL,zM]
 refine hQ _ ((OldX.upd _ _ _).trans (OldX.upd _ _ _)) { b with op:= ?_,on:= ?_,ha:=by omega,hn:=by simp,at_:=by simp,lp:=b.lp,ln:=b.ln }
 ·rw[a9];rfl
 ·rw[a6 _ _ (Ne.symm b.pn),a6 _ _ (Ne.symm b.pn)];exact b.on
theorem c5M(S:Nat)(hS:1<=S/\S<=65536){Q:Value->Heap->Prop}(hQ:∀h' p nb,Old h h' ->h.next<=p->h.next<=nb->BufAt h' p nb S 0 (List.replicate S 0) []->Q (.pointer (some ⟨p,0,none⟩)) h'):r8 cp 77 [.int .i64 S] h Q:=by
 rw[a8 cp e7d]
 have a1:decide ((S:Int)<1)=false:=decide_eq_false (by omega)
 have a2:decide ((S:Int)>65536)=false:=decide_eq_false (by omega)
 have z0:¬(S:Int)<0:=by omega
 simp(disch:=omega)only[c77,↓R77,a1,a2,J9,↓j0,l0,zA,zB,zC,zD,zE,zF,zG,zH,zI,reduceCtorEq,zJ,zK,zL,zM]
 refine hQ _ (h.next+1) h.next (((Old.refl h).more _).more _) (Nat.le_succ _) (yP _) ⟨?_,?_,?_,?_,by omega,by simp,hS,by omega,by simp,fun x hx=>by rw[(List.mem_replicate.1 hx).2];omega,by simp⟩
 ·exact K8 _ _ _
 ·exact Nat.lt_succ_self _
 ·rw[b7 _ _ (by simp only[f4];omega)];exact b8 _ _
 ·simp only[f4];omega
def d3s(p nb:Nat):Nat->Prop:=fun x=>x=p\/x=nb
theorem c5A{S a n:Nat}(hS:1<=S)(ha:a<S){i j:Nat}(hi:i<S)(hj:j<S)(h:(a+i) % S=(a+j) % S):i=j:=by
 have e:∀k,k<S->(a+k) % S=if a+k<S then a+k else a+k-S:=fun k hk=>by
  split
  ·exact Nat.mod_eq_of_lt (by assumption)
  ·rw[Nat.mod_eq_sub_mod (by omega),Nat.mod_eq_of_lt (by omega)]
 rw[e i hi,e j hj]at h
 split at h<;>split at h<;>omega
theorem BufAt.push(b:BufAt h p nb S a B qs)(hl:qs.length<S){x:Int}(hx:0<=x/\x<256):
  BufAt ((h.upd nb (.cells (ints .u8 (B.set ((a+qs.length) % S) x)) 5 .grow)).upd p (.cells (d8w nb S a (qs.length+1)) 188 .fix)) p nb S a (B.set ((a+qs.length) % S) x) (qs++[x]) where
 op:=by rw[a9,yG,List.length_singleton]
 lp:=b.lp
 on:=by rw[a6 _ _ (Ne.symm b.pn),a9]
 ln:=b.ln
 pn:=b.pn
 len:=by rw[List.length_set];exact b.len
 hS:=b.hS
 ha:=b.ha
 hn:=by rw[yG,List.length_singleton];exact hl
 byt:=fun y hy=>by
  rcases List.mem_or_eq_of_mem_set hy with hy|rfl
  ·exact b.byt y hy
  ·exact hx
 at_:=fun i hi=>by
  rw[yG,List.length_singleton]at hi
  have hS:=b.hS
  have ha:=b.ha
  have hm:(a+qs.length) % S<B.length:=by rw[b.len];exact Nat.mod_lt _ (by omega)
  by_cases e:i=qs.length
  ·subst e
   rw[yH hm,List.getElem?_append_right (yP _),Nat.sub_self];rfl
  ·rw[yI (fun q=>e (c5A (n:=0) hS.1 ha (by omega) hl q.symm)),List.getElem?_append_left (by omega)]
   exact b.at_ i (by omega)
theorem c1T(b:BufAt h p nb S a B qs)(v:Value)(l:List Int)(s:X7 h v l)(byt:H7 l)(hf:qs.length+l.length<=S)(hv:∀z o cap,v=.slice (some ⟨z,o,none⟩) l.length cap->¬d3s p nb z){Q:Value->Heap->Prop}
  (hQ:∀h' B',OldF (d3s p nb) h h' ->h'.next=h.next->BufAt h' p nb S a B' (qs++l)->Q (.bool true) h'):r8 cp 64 [.pointer (some ⟨p,0,none⟩),v] h Q:=by
 rw[a8 cp e6E]
 obtain⟨w,cap,rfl,hcap⟩:=s.val
 have hS:=b.hS
 have ha:=b.ha
 have f:=fun Q=>room_ok b Q
 have a1:decide ((l.length:Int)>((S-qs.length:Nat):Int))=false:=decide_eq_false (by omega)
 simp(disch:=omega)only[c64,↓R64,f,a1,↓j0,l0,zA,zB,zC,zD,zE,zF,zG,zH,zI,reduceCtorEq,zJ,zK,zL,zM]
 refine y6 cp b0g _ (fun d e hh=>∃(i:Nat) (B' :List Int),i+d=l.length/\OldF (d3s p nb) h hh/\hh.next=h.next/\BufAt hh p nb S a B' (qs++l.take i)/\
   e 0=.pointer (some ⟨p,0,none⟩)/\e 12=.slice w l.length cap/\e 13=.int .i64 l.length/\e 14=.int .i64 i) ?_ l.length _ _
  ⟨0,B,by omega,OldF.refl _ _,rfl,by simpa using b,rfl,rfl,rfl,rfl⟩
 rintro d e hh ⟨i,B',hi,o,hnx,b',e0,e12,e13,e14⟩
 by_cases ci:i<l.length
 ·have b1:decide ((i:Int)<(l.length:Int))=true:=decide_eq_true (by omega)
  have nx:(i:Int)+1=((i+1:Nat):Int):=by omega
  have hx:l[i]? =some l[i]:=yF ci
  obtain⟨c,hc⟩:∃c,c=l[i]:=⟨_,rfl⟩
  rw[<-hc]at hx
  have cr:=byt c (yK hx)
  obtain⟨z,of,cap',hv',hcc,hz,_,hr⟩:=s.at (by omega)
  have hnz:=hv z of cap' hv'
  simp only[Value.slice.injEq]at hv'
  obtain⟨rfl,_,rfl⟩:=hv'
  rw[<-o.obj z hz hnz]at hr
  have hg:=X7.get (cap:=cap) hr hx
  have il:(l.take i).length=i:=by rw[List.length_take];omega
  have ql:(qs++l.take i).length=qs.length+i:=by rw[yG,il]
  have op:=b'.op
  have on:=b'.on
  have pn:=b'.pn
  have bl:=b'.len
  rw[ql]at op
  have n0:((S:Int)=0)=False:=by simp;omega
  have k1:(a:Int)+((qs.length+i:Nat):Int)=((a+(qs.length+i):Nat):Int):=by omega
  have t1:Int.tmod ((a+(qs.length+i):Nat):Int) (S:Int)=(((a+(qs.length+i)) % S:Nat):Int):=by rw[I0 _ _ (by omega)];rfl
  have t2:(a+(qs.length+i)) % S<S:=Nat.mod_lt _ (by omega)
  have k2:((qs.length+i:Nat):Int)+1=((qs.length+i+1:Nat):Int):=by omega
  have np:b'.pn=b'.pn:=rfl
  have push:=b'.push (x:=c) (by rw[ql];omega) cr
  rw[ql,List.append_assoc,<-H6 hx]at push
  simp(disch:=omega)only[b0g,c64,↓R64,e0,e12,e13,e14,b1,hg,op,on,n0,k1,t1,k2,nx,C5,E9,bl,pn,Ne.symm pn,yS,↓j0,l0,zA,zB,zC,zD,zE,zF,zG,zH,zI,reduceCtorEq,zJ,zK,zL,zM]
  refine⟨d-1,by omega,i+1,_,by omega,o.trans ((OldF.upd _ _ _ (.inr rfl)).trans (OldF.upd _ _ _ (.inl rfl))),hnx,push,?_⟩
  repeat' first|assumption|rfl|apply And.intro
 ·have b1:decide ((i:Int)<(l.length:Int))=false:=decide_eq_false (by omega)
  obtain rfl:i=l.length:=by omega
  rw[List.take_length]at b'
  simp(disch:=omega)only[b0g,c64,↓R64,e0,e12,e13,e14,b1,↓j0,l0,zA,zB,zC,zD,zE,zF,zG,zH,zI,reduceCtorEq,zJ,zK,zL,zM]
  exact hQ _ _ o hnx b'
theorem BufAt.pop(b:BufAt h p nb S a B qs)(hl:0<qs.length):
  BufAt ((h.upd p (.cells (d8w nb S ((a+1) % S) qs.length) 188 .fix)).upd p (.cells (d8w nb S ((a+1) % S) (qs.length-1)) 188 .fix)) p nb S ((a+1) % S) B qs.tail where
 op:=by rw[a9,List.length_tail]
 lp:=b.lp
 on:=by rw[a6 _ _ (Ne.symm b.pn),a6 _ _ (Ne.symm b.pn)];exact b.on
 ln:=b.ln
 pn:=b.pn
 len:=b.len
 hS:=b.hS
 ha:=Nat.mod_lt _ (by have:=b.hS;omega)
 hn:=by rw[List.length_tail];have:=b.hn;omega
 byt:=b.byt
 at_:=fun i hi=>by
  rw[List.length_tail]at hi
  have:=b.at_ (i+1) (by omega)
  rw[List.getElem?_tail,<-this,Nat.mod_add_mod,show a+1+i=a+(i+1) by omega]
theorem d8K(b:BufAt h p nb S a B qs)(n:Int){Q:Value->Heap->Prop}
  (hQ:∀h' v' b' a',OldX p h h' ->h.next<=b' ->F1 h' 5 B8 v' (qs.take n.toNat) b' ->BufAt h' p nb S a' B (qs.drop n.toNat)->Q v' h'):r8 cp 66 [.pointer (some ⟨p,0,none⟩),.int .i64 n] h Q:=by
 rw[a8 cp e6P]
 have hS:=b.hS
 have ha:=b.ha
 have hqn:=b.hn
 have f:=fun Q=>d9c b Q
 obtain⟨k,hk⟩:∃k:Nat,min (max n 0) (qs.length:Int)=k:=⟨(min (max n 0) (qs.length:Int)).toNat,by omega⟩
 have hkn:k=min n.toNat qs.length:=by omega
 have ht:qs.take n.toNat=qs.take k:=by rw[hkn,<-List.take_take,List.take_length]
 have hd:qs.drop n.toNat=qs.drop k:=by
  rw[hkn]
  by_cases c:n.toNat<=qs.length
  ·rw[Nat.min_eq_left c]
  ·rw[Nat.min_eq_right (by omega),List.drop_eq_nil_of_le (by omega),List.drop_eq_nil_of_le (by omega)]
 rw[ht,hd]at hQ
 simp(disch:=omega)only[c66,↓R66,f,↓mm_max,↓mm_min,hk,↓j0,l0,zA,zB,zC,zD,zE,zF,zG,zH,zI,reduceCtorEq,zJ,zK,zL,zM]
 refine y6 cp b0F _ (fun d e hh=>∃(i a' bb:Nat) (vv:Value),i+d=k/\OldX p h hh/\h.next<=bb/\F1 hh 5 B8 vv (qs.take i) bb/\BufAt hh p nb S a' B (qs.drop i)/\
   e 0=.pointer (some ⟨p,0,none⟩)/\e 5=vv/\e 10=.int .i64 k/\e 11=.int .i64 i) ?_ k _ _
  ⟨0,a,h.next,_,by omega,OldX.refl _ _,yP _,F1.nil _ _ _ _,by simpa using b,rfl,rfl,rfl,rfl⟩
 rintro d e hh ⟨i,a',bb,vv,hi,o,hbb,V,b',e0,e5,e10,e11⟩
 by_cases ci:i<k
 ·have b1:decide ((i:Int)<(k:Int))=true:=decide_eq_true (by omega)
  have nx:(i:Int)+1=((i+1:Nat):Int):=by omega
  have hx:qs[i]? =some qs[i]:=yF (by omega)
  obtain⟨c,hc⟩:∃c,c=qs[i]:=⟨_,rfl⟩
  rw[<-hc]at hx
  have ha' :=b'.ha
  have hg:B[a']? =some c:=by
   have:=b'.at_ 0 (by rw[List.length_drop];omega)
   rw[Nat.add_zero,Nat.mod_eq_of_lt ha',List.getElem?_drop,Nat.add_zero,hx]at this
   exact this
  have hg:=B0 .u8 _ hg
  have op:=b'.op
  have on:=b'.on
  have lp:=b'.lp
  have ln:=b'.ln
  have pn:=b'.pn
  have bl:=b'.len
  rw[List.length_drop]at op
  have il:(qs.take i).length=i:=by rw[List.length_take];omega
  simp(disch:=omega)only[b0F,c66,↓R66,e0,e5,e10,e11,b1,op,on,hg,bl,F8,List.append_nil,yS,↓j0,l0,zA,zB,zC,zD,zE,zF,zG,zH,zI,reduceCtorEq,zJ,zK,zL,zM]
  refine(V.new8 _).app (m:=[c]) (bytes:=1) rfl (W8 B8 hh c 5 1) (by rw[List.length_singleton,il];omega) (by rw[List.length_singleton,il];omega) fun v' h' bn V3 hn' hb' ho' =>?_
  have hn'' :hh.next+1<=h'.next:=hn'
  have hbe:bb=bn\/hh.next+1<=bn:=by
   rcases hb' with rfl|hb'
   ·exact .inl rfl
   ·exact .inr hb'
  have onx:=o.next
  have hpb:p≠bb:=by have:=b.lp;omega
  have hnb:nb≠bb:=by have:=b.ln;omega
  have o3:∀z,z<hh.next->z≠bb->h'.obj z=hh.obj z:=fun z hz hne=>by rw[ho' z (by show z<hh.next+1;omega) (.inr hne),b7 _ _ (by omega)]
  have b3:BufAt h' p nb S a' B (qs.drop i):=b'.keep (by omega) (o3 p lp hpb) (o3 nb ln hnb)
  have op3:=b3.op
  have on3:=b3.on
  rw[List.length_drop]at op3
  have n0:((S:Int)=0)=False:=by simp;omega
  have k1:(a' :Int)+1=((a' +1:Nat):Int):=by omega
  have t1:Int.tmod ((a' +1:Nat):Int) (S:Int)=(((a' +1) % S:Nat):Int):=by rw[I0 _ _ (by omega)];rfl
  have k2:((qs.length-i:Nat):Int)-1=((qs.length-i-1:Nat):Int):=by omega
  have pop:=b3.pop (by rw[List.length_drop];omega)
  rw[List.length_drop,List.tail_drop]at pop
  simp(disch:=omega)only[c66,↓R66,e0,e5,e10,e11,op3,n0,k1,t1,k2,nx,↓j0,l0,zA,zB,zC,zD,zE,zF,zG,zH,zI,reduceCtorEq,zJ,zK,zL,zM]
  refine⟨d-1,by omega,i+1,_,bn,v',by omega,?_,by omega,?_,pop,?_⟩
  ·refine⟨by simp only[l6];have:=o.next;omega,fun z hz hne=>?_⟩
   have:=o.next
   rw[a6 _ _ hne,a6 _ _ hne,o3 z (by omega) (by omega),o.obj z hz hne]
  ·rw[H6 hx]
   exact V3.keep (by simp only[l6];omega) fun hl=>by
    have hpn:bn≠p:=by
     have:=b.lp
     have:=o.next
     omega
    rw[a6 _ _ hpn,a6 _ _ hpn]
  ·repeat' first|assumption|rfl|apply And.intro
 ·have b1:decide ((i:Int)<(k:Int))=false:=decide_eq_false (by omega)
  obtain rfl:i=k:=by omega
  simp(disch:=omega)only[b0F,c66,↓R66,e0,e5,e10,e11,b1,↓j0,l0,zA,zB,zC,zD,zE,zF,zG,zH,zI,reduceCtorEq,zJ,zK,zL,zM]
  exact hQ _ _ _ _ o hbb V b'
end
abbrev e1i(r:K2):Value:=.agg #[.int .u64 r.1,.int .u64 r.2.1,.int .u64 r.2.2]
structure IdxAt(h:Heap)(x tb st:Nat)(row:K2)(n:Nat)(tab:List Int):Prop where
 ox:h.obj x=.cells [.pointer (some ⟨st,0,none⟩),.int .u64 row.1,.int .u64 row.2.1,.int .u64 row.2.2,.slice (some ⟨tb,0,none⟩) (2*n+1) (2*n+1)] 209 .fix
 lx:x<h.next
 ot:h.obj tb=.cells (ints .i32 tab) 21 .grow
 lt:tb<h.next
 len:tab.length=2*n+1
 ne:x≠tb
structure StAt(h:Heap)(p:Nat)(A:List Nat)(n:Nat)(keys:Nat->Option ByteArray)(fl:List Nat):Prop where
 S:Keys.Store h p A n keys fl
 lt:∀z∈A,z<h.next
theorem StAt.keep{h h' :Heap}{p:Nat}{A:List Nat}{n:Nat}{keys:Nat->Option ByteArray}{fl:List Nat}(s:StAt h p A n keys fl)(hn:h.next<=h'.next)(ho:∀z∈A,h'.obj z=h.obj z):StAt h' p A n keys fl:=by
 refine⟨?_,fun z hz=>yN (s.lt z hz) hn⟩
 obtain⟨k,h1,h2,h3,a,g⟩:=s.S
 refine⟨k,h1,h2,h3,?_,g⟩
 have m:∀z,z=k.p\/z=k.bb\/z=k.bs\/z=k.bn->h'.obj z=h.obj z:=fun z hz=>ho z (by rw[<-h2];unfold Keys.KS.own;simp only[List.mem_cons,List.not_mem_nil,or_false];exact hz)
 exact { a with hp:=(m _ (.inl rfl)).trans a.hp,hb:=(m _ (.inr (.inl rfl))).trans a.hb,hs:=(m _ (.inr (.inr (.inl rfl)))).trans a.hs,hn:=(m _ (.inr (.inr (.inr rfl)))).trans a.hn }
theorem StAt.old{h h' :Heap}{p:Nat}{A:List Nat}{n:Nat}{keys:Nat->Option ByteArray}{fl:List Nat}(s:StAt h p A n keys fl)(o:Old h h'):StAt h' p A n keys fl:=s.keep o.next fun z hz=>o.obj z (s.lt z hz)
theorem b2M(h:Heap)(n:Nat)(hn:n<=65536){Q:Value->Heap->Prop}
  (hQ:∀h' p A,Old h h' ->StAt h' p A n (fun _=>none) (List.range n)->p∈A->A.Nodup->(∀z∈A,h.next<=z)->Q (.pointer (some ⟨p,0,none⟩)) h'):r8 cp 92 [.int .i64 n] h Q:=by
 refine Keys.st_new h n hn fun h' S hnx ho=>?_
 refine hQ h' (h.next+3) _ ⟨by omega,ho⟩ ⟨S,fun z hz=>?_⟩ (by simp) (by simp) fun z hz=>?_
 ·simp only[List.mem_cons,List.not_mem_nil,or_false]at hz;omega
 ·simp only[List.mem_cons,List.not_mem_nil,or_false]at hz;omega
theorem IdxAt.keep{h h' :Heap}{x tb st:Nat}{row:K2}{n:Nat}{tab:List Int}(i:IdxAt h x tb st row n tab)(hn:h.next<=h'.next)(h1:h'.obj x=h.obj x)(h2:h'.obj tb=h.obj tb):IdxAt h' x tb st row n tab:=
 { i with ox:=h1.trans i.ox,ot:=h2.trans i.ot,lx:=yN i.lx hn,lt:=yN i.lt hn }
theorem a7P{h:Heap}{st:Nat}{A:List Nat}{n:Nat}{keys:Nat->Option ByteArray}{fl:List Nat}(S:StAt h st A n keys fl)(hn:n<=1024)(row:K2){Q:Value->Heap->Prop}
  (hQ:∀h' x tb,Old h h' ->IdxAt h' x tb st row n (List.replicate (2*n+1) 0)->h.next<=x->h.next<=tb->Q (.pointer (some ⟨x,0,none⟩)) h'):
  r8 cp 93 [.pointer (some ⟨st,0,none⟩),e1i row] h Q:=by
 rw[a8 cp e8v]
 obtain⟨h1,h1d,o1,n1,g1⟩:=M8 h (.cells [.int .u64 row.1,.int .u64 row.2.1,.int .u64 row.2.2] 182 .fix)
 have fl:=fun Q=>Keys.st_len (S.old o1).S Q
 have fs:∀Q,r8 cp 99 [.int .i64 (n:Int)] h1 Q↔Q (.int .i64 ((2*n+1:Nat):Int)) h1:=fun Q=>by
  refine p6 ?_ Q
  rw[a8 cp e2P]
  have k:2*(n:Int)+1=((2*n+1:Nat):Int):=by omega
  simp(disch:=omega)only[c99,↓R99,k,↓j0,l0,zA,zB,zC,zD,zE,zF,zG,zH,zI,reduceCtorEq,zJ,zK,zL,zM]
 have z0:¬((2*n+1:Nat):Int)<0:=by omega
 simp(disch:=omega)only[c93,↓R93,D3,<-h1d,g1,fl,fs,J9,u5,↓j0,l0,zA,zB,zC,zD,zE,zF,zG,zH,zI,reduceCtorEq,zJ,zK,zL,zM]
 refine hQ _ (h1.next+1) h1.next (o1.trans (((Old.refl h1).more _).more _)) ⟨?_,?_,?_,?_,by simp,by omega⟩ (by omega) (by omega)
 ·exact K8 _ _ _
 ·exact Nat.lt_succ_self _
 ·rw[b7 _ _ (by simp only[f4];omega)];exact b8 _ _
 ·simp only[f4];omega
end Go.Proofs.YtlakhgibjfmjjaaGreat.Can
namespace Go.Proofs.YtlakhgibjfmjjaaGreat.Can
open Go
abbrev rg(N s t:Nat):Nat:=(s+t) % N
def dst(N i j:Nat):Nat:=if i<=j then j-i else N-i+j
theorem a0z{N i j:Nat}(hi:i<N)(hj:j<N):rg N i (dst N i j)=j:=by
 unfold rg dst
 split
 ·rw[show i+(j-i)=j by omega,Nat.mod_eq_of_lt hj]
 ·rw[show i+(N-i+j)=j+N by omega,Nat.add_mod_right,Nat.mod_eq_of_lt hj]
theorem V7{N i j:Nat}(hi:i<N)(hj:j<N):dst N i j<N:=by unfold dst;split<;>omega
theorem W0{N s t:Nat}(h:0<N):rg N s t<N:=Nat.mod_lt _ h
theorem a3G{N s t:Nat}(hs:s<N)(ht:t<N):rg N s t=if s+t<N then s+t else s+t-N:=by
 unfold rg
 split
 ·rename_i h;exact Nat.mod_eq_of_lt h
 ·rename_i h;rw[Nat.mod_eq_sub_mod (by omega),Nat.mod_eq_of_lt (by omega)]
theorem a6M{N s t u:Nat}(hs:s<N)(ht:t<N)(hu:u<N)(h:rg N s t=rg N s u):t=u:=by
 rw[a3G hs ht,a3G hs hu]at h
 split at h<;>split at h<;>omega
structure TabOK(N:Nat)(hm:ByteArray->Nat)(n:Nat)(tab:List Int)(keys:Nat->Option ByteArray):Prop where
 len:tab.length=N
 big:n<N
 home:∀s,hm s<N
 val:∀(j:Nat) (v:Int),tab[j]? =some v->v≠0->∃(k:Nat) (key:ByteArray),v=(k:Int)+1/\k<n/\keys k=some key
 there:∀(k:Nat) (key:ByteArray),k<n->keys k=some key->∃j,j<N/\tab[j]? =some ((k:Int)+1)/\∀t,t<dst N (hm key) j->tab[rg N (hm key) t]? ≠some 0
 inj:∀(i j:Nat) (v:Int),tab[i]? =some v->tab[j]? =some v->v≠0->i=j
 kinj:∀(k l:Nat) (key:ByteArray),k<n->l<n->keys k=some key->keys l=some key->k=l
theorem a6S{l:List Int}{N j:Nat}(hl:l.length=N)(hj:j<N):∃v,l[j]? =some v:=⟨l[j]'(by omega),yF (by omega)⟩
theorem TabOK.gap{N:Nat}{hm:ByteArray->Nat}{n:Nat}{tab:List Int}{keys:Nat->Option ByteArray}(T:TabOK N hm n tab keys):∃j,j<N/\tab[j]? =some 0:=by
 rcases Classical.em (∃j,j<N/\tab[j]? =some 0)with h|h
 ·exact h
 exfalso
 have hnz:∀(j:Nat) (v:Int),tab[j]? =some v->v≠0:=fun j v hv h0=>h ⟨j,by
  have:=(List.getElem?_eq_some_iff.1 hv).1
  rw[T.len]at this;exact this,by rw[hv,h0]⟩
 have hb:=T.big
 have h1:=Keys.nodup_le n (tab.map fun v=>(v-1).toNat) (by
  refine List.pairwise_iff_getElem.2 fun i j hi hj hij heq=>?_
  rw[yL]at hi hj
  rw[List.getElem_map,List.getElem_map]at heq
  obtain⟨a,ha,hae⟩:∃a,tab[i]? =some a/\tab[i]=a:=⟨_,yF hi,rfl⟩
  obtain⟨b,hb,hbe⟩:∃b,tab[j]? =some b/\tab[j]=b:=⟨_,yF hj,rfl⟩
  rw[hae,hbe]at heq
  obtain⟨k,_,rfl,_,_⟩:=T.val i a ha (hnz i a ha)
  obtain⟨l,_,rfl,_,_⟩:=T.val j b hb (hnz j b hb)
  have:k=l:=by omega
  subst this
  have:=T.inj i j _ ha hb (by omega)
  omega) (fun x hx=>by
  obtain⟨v,hv,rfl⟩:=List.mem_map.1 hx
  obtain⟨j,hj⟩:=List.getElem?_of_mem hv
  obtain⟨k,_,rfl,hk,_⟩:=T.val j v hj (hnz j v hj)
  omega)
 rw[yL,T.len]at h1
 omega
structure Looked(N:Nat)(hm:ByteArray->Nat)(n:Nat)(tab:List Int)(keys:Nat->Option ByteArray)(key:ByteArray)(t:Nat)(r:Option Nat):Prop where
 lt:t<N
 ahead:∀s,s<t->∃(k:Nat) (key' :ByteArray),tab[rg N (hm key) s]? =some ((k:Int)+1)/\k<n/\keys k=some key' /\key' ≠key
 here:match r with
  |none=>tab[rg N (hm key) t]? =some 0/\∀k,k<n->keys k≠some key
  |some k=>tab[rg N (hm key) t]? =some ((k:Int)+1)/\k<n/\keys k=some key
theorem least{p:Nat->Prop}:∀n,p n->∃m,m<=n/\p m/\∀k,k<m->¬p k
 |0,h=>⟨0,yP _,h,fun k hk=>absurd hk (Nat.not_lt_zero k)⟩
 |n+1,h=>by
  rcases Classical.em (∃k,k<=n/\p k)with⟨k,hk,hp⟩|hno
  ·have step:∀j,j<=n->p j->∃m,m<=j/\p m/\∀k,k<m->¬p k:=fun j=>by
    induction j using Nat.strongRecOn with
    |_ j ih=>
     intro hj hpj
     rcases Classical.em (∃i,i<j/\p i)with⟨i,hi,hpi⟩|hno
     ·obtain⟨m,h1,h2,h3⟩:=ih i hi (by omega) hpi
      exact⟨m,by omega,h2,h3⟩
     ·exact⟨j,yP _,hpj,fun i hi hpi=>hno ⟨i,hi,hpi⟩⟩
   obtain⟨m,h1,h2,h3⟩:=step k hk hp
   exact⟨m,by omega,h2,h3⟩
  ·exact⟨n+1,yP _,h,fun k hk hp=>hno ⟨k,by omega,hp⟩⟩
theorem TabOK.look{N:Nat}{hm:ByteArray->Nat}{n:Nat}{tab:List Int}{keys:Nat->Option ByteArray}(T:TabOK N hm n tab keys)(key:ByteArray):∃t r,Looked N hm n tab keys key t r:=by
 have hh:=T.home key
 have hN:0<N:=by omega
 rcases Classical.em (∃k,k<n/\keys k=some key)with⟨k,hk,hkey⟩|hno
 ·obtain⟨j,hj,htj,hp⟩:=T.there k key hk hkey
  refine⟨dst N (hm key) j,some k,V7 hh hj,fun s hs=>?_,?_⟩
  ·obtain⟨v,hv⟩:=a6S T.len (j:=rg N (hm key) s) (W0 hN)
   have hv0:v≠0:=fun h0=>hp s hs (by rw[hv,h0])
   obtain⟨k',key',rfl,hk',hkey'⟩:=T.val _ _ hv hv0
   refine⟨k',key',hv,hk',hkey',fun he=>?_⟩
   subst he
   have:=T.kinj k k' _ hk hk' hkey hkey'
   subst this
   have hpos:=T.inj _ _ _ hv htj (by omega)
   have h2:=a0z hh hj
   have:=a6M hh (by have:=V7 hh hj;omega) (V7 hh hj) (hpos.trans h2.symm)
   omega
  ·rw[a0z hh hj];exact⟨htj,hk,hkey⟩
 ·obtain⟨j,hj,hj0⟩:=T.gap
  obtain⟨t,ht,h0,hlt⟩:=least (p:=fun t=>tab[rg N (hm key) t]? =some 0) (dst N (hm key) j) (by rw[a0z hh hj];exact hj0)
  have:=V7 hh hj
  refine⟨t,none,by omega,fun s hs=>?_,h0,fun k hk hkey=>hno ⟨k,hk,hkey⟩⟩
  obtain⟨v,hv⟩:=a6S T.len (j:=rg N (hm key) s) (W0 hN)
  have hv0:v≠0:=fun h0=>hlt s hs (by rw[hv,h0])
  obtain⟨k',key',rfl,hk',hkey'⟩:=T.val _ _ hv hv0
  exact⟨k',key',hv,hk',hkey',fun he=>by subst he;exact hno ⟨k',hk',hkey'⟩⟩
theorem TabOK.put{N:Nat}{hm:ByteArray->Nat}{n:Nat}{tab:List Int}{keys:Nat->Option ByteArray}(T:TabOK N hm n tab keys){key:ByteArray}{t:Nat}(L:Looked N hm n tab keys key t none){k:Nat}(hk:k<n)(hfree:keys k=none):
  TabOK N hm n (tab.set (rg N (hm key) t) ((k:Int)+1)) (Keys.kset keys k (some key)):=by
 have hh:=T.home key
 have hN:0<N:=by omega
 obtain⟨h0,habs⟩:=L.here
 have hj:rg N (hm key) t<N:=W0 hN
 have hnew:(tab.set (rg N (hm key) t) ((k:Int)+1))[rg N (hm key) t]? =some ((k:Int)+1):=by rw[yH (by rw[T.len];exact hj)]
 have hold:∀i,i≠rg N (hm key) t->(tab.set (rg N (hm key) t) ((k:Int)+1))[i]? =tab[i]? :=fun i hi=>yI (fun h=>hi h.symm)
 have hnk:∀i,tab[i]? ≠some ((k:Int)+1):=fun i hi=>by
  obtain⟨k',key',h1,h2,h3⟩:=T.val i _ hi (by omega)
  have:k' =k:=by omega
  subst this;rw[hfree]at h3;cases h3
 refine⟨by rw[List.length_set];exact T.len,T.big,T.home,fun j v hv hv0=>?_,fun l key' hl hkey=>?_,fun i j v hi hj' hv0=>?_,fun a b key' ha hb h1 h2=>?_⟩
 ·by_cases hjj:j=rg N (hm key) t
  ·subst hjj
   rw[hnew]at hv
   obtain rfl:=yA hv
   exact⟨k,key,rfl,hk,by simp[Keys.kset]⟩
  ·rw[hold j hjj]at hv
   obtain⟨k',key',h1,h2,h3⟩:=T.val j v hv hv0
   refine⟨k',key',h1,h2,?_⟩
   unfold Keys.kset
   rw[if_neg fun h=>by subst h;rw[hfree]at h3;cases h3]
   exact h3
 ·unfold Keys.kset at hkey
  split at hkey
  ·rename_i hlk
   subst hlk
   obtain rfl:=yA hkey
   refine⟨rg N (hm key) t,hj,hnew,fun s hs hs0=>?_⟩
   have hdt:dst N (hm key) (rg N (hm key) t)=t:=a6M hh (V7 hh hj) L.lt (a0z hh hj)
   rw[hdt]at hs
   rw[hold _ fun he=>by have:=a6M hh (by have:=L.lt;omega) L.lt he;omega]at hs0
   obtain⟨k',_,h1,_⟩:=L.ahead s hs
   rw[h1]at hs0
   have:=yA hs0
   omega
  ·obtain⟨j,h1,h2,h3⟩:=T.there l key' hl hkey
   have hjj:j≠rg N (hm key) t:=fun he=>by
    rw[he,h0]at h2
    have:=yA h2
    omega
   refine⟨j,h1,by rw[hold j hjj];exact h2,fun s hs hs0=>?_⟩
   by_cases he:rg N (hm key') s=rg N (hm key) t
   ·rw[he,hnew]at hs0
    have:=yA hs0
    omega
   ·rw[hold _ he]at hs0;exact h3 s hs hs0
 ·by_cases hi' :i=rg N (hm key) t
  ·by_cases hj'' :j=rg N (hm key) t
   ·rw[hi',hj'']
   ·subst hi'
    rw[hnew]at hi
    rw[hold j hj'']at hj'
    obtain rfl:=yA hi
    exact absurd hj' (hnk j)
  ·by_cases hj'' :j=rg N (hm key) t
   ·subst hj''
    rw[hnew]at hj'
    rw[hold i hi']at hi
    obtain rfl:=yA hj'
    exact absurd hi (hnk i)
   ·rw[hold i hi']at hi
    rw[hold j hj'']at hj'
    exact T.inj i j v hi hj' hv0
 ·unfold Keys.kset at h1 h2
  split at h1
  ·rename_i h;obtain rfl:=yA h1
   split at h2
   ·rename_i h';rw[h,h']
   ·exact absurd h2 (habs b hb)
  ·split at h2
   ·rename_i h;obtain rfl:=yA h2;exact absurd h1 (habs a ha)
   ·exact T.kinj a b key' ha hb h1 h2
def onW(H p c:Nat):Prop:=if H<=p then H<=c/\c<p else H<=c\/c<p
structure Gone(N:Nat)(hm:ByteArray->Nat)(n:Nat)(keys:Nat->Option ByteArray)(i0 E q a:Nat)(tab:List Int):Prop where
 len:tab.length=N
 ilt:i0<N
 elt:E<N
 zero:tab[rg N i0 E]? =some 0
 qlt:q<a
 ale:a<=E
 hole:tab[rg N i0 q]? =some 0
 full:∀p,p<E->p≠q->tab[rg N i0 p]? ≠some 0
 val:∀(j:Nat) (v:Int),tab[j]? =some v->v≠0->∃(k:Nat) (key:ByteArray),v=(k:Int)+1/\k<n/\keys k=some key
 there:∀(k:Nat) (key:ByteArray),k<n->keys k=some key->∃p,p<N/\tab[rg N i0 p]? =some ((k:Int)+1)
 inj:∀(i j:Nat) (v:Int),tab[i]? =some v->tab[j]? =some v->v≠0->i=j
 way:∀(p k:Nat) (key:ByteArray),p<N->tab[rg N i0 p]? =some ((k:Int)+1)->keys k=some key->∀c,c<N->onW (dst N i0 (hm key)) p c->c≠q->tab[rg N i0 c]? ≠some 0
 back:∀(p k:Nat) (key:ByteArray),p<a->tab[rg N i0 p]? =some ((k:Int)+1)->keys k=some key->¬onW (dst N i0 (hm key)) p q
theorem d3S{N s t u:Nat}(hs:s<N)(ht:t<N)(hu:u<N)(h:t≠u):rg N s t≠rg N s u:=fun he=>h (a6M hs ht hu he)
theorem test_iff{N i0 q a x:Nat}(hi:i0<N)(hq:q<a)(ha:a<N)(hx:x<N):dst N x (rg N i0 a)<dst N (rg N i0 q) (rg N i0 a)↔¬onW (dst N i0 x) a q:=by
 rw[a3G hi ha,a3G hi (by omega)]
 unfold dst onW
 split<;>split<;>(repeat' split)<;>omega
theorem TabOK.start{N:Nat}{hm:ByteArray->Nat}{n:Nat}{tab:List Int}{keys:Nat->Option ByteArray}(T:TabOK N hm n tab keys){i0 k0:Nat}{key0:ByteArray}(hi:i0<N)(h0:tab[i0]? =some ((k0:Int)+1))(hk:k0<n)(hkey:keys k0=some key0):
  ∃E,Gone N hm n (Keys.kset keys k0 none) i0 E 0 1 (tab.set i0 0):=by
 have hb:=T.big
 have r0:rg N i0 0=i0:=Nat.mod_eq_of_lt hi
 obtain⟨j,hj,hj0⟩:=T.gap
 obtain⟨E,hE,hE0,hlt⟩:=least (p:=fun p=>tab[rg N i0 p]? =some 0) (dst N i0 j) (by rw[a0z hi hj];exact hj0)
 have hd:=V7 hi hj
 have hE1:E≠0:=fun h=>by
  rw[h,r0,h0]at hE0
  have:=yA hE0
  omega
 have hold:∀i,i≠i0->(tab.set i0 0)[i]? =tab[i]? :=fun i hi=>yI fun h=>hi h.symm
 have hz:(tab.set i0 0)[i0]? =some 0:=by rw[yH (by rw[T.len];exact hi)]
 have hne:∀p,p<N->p≠0->rg N i0 p≠i0:=fun p hp h h' =>h (a6M hi hp (by omega) (h'.trans r0.symm))
 have hkeys:∀k key,Keys.kset keys k0 none k=some key->keys k=some key/\k≠k0:=fun k key h=>by
  unfold Keys.kset at h
  split at h
  ·cases h
  ·rename_i hk;exact⟨h,hk⟩
 have hkeys2:∀k key,keys k=some key->k≠k0->Keys.kset keys k0 none k=some key:=fun k key h hk=>by
  unfold Keys.kset;rw[if_neg hk];exact h
 refine⟨E,by rw[List.length_set];exact T.len,hi,by omega,by rw[hold _ (hne E (by omega) hE1)];exact hE0,by omega,by omega,by rw[r0];exact hz,fun p hp hp0=>?_,fun j v hv hv0=>?_,fun k key hkn hkk=>?_,fun i j v hv1 hv2 hv0=>?_,fun p k key hp hpk hkk c hc hon hc0=>?_,fun p k key hp hpk hkk=>?_⟩
 ·rw[hold _ (hne p (by omega) hp0)];exact hlt p hp
 ·have hji:j≠i0:=fun h=>by rw[h,hz]at hv;exact hv0 (yA hv).symm
  rw[hold j hji]at hv
  obtain⟨k,key,h1,h2,h3⟩:=T.val j v hv hv0
  refine⟨k,key,h1,h2,hkeys2 k key h3 fun hkk=>hji ?_⟩
  subst hkk
  exact T.inj j i0 v hv (by rw[h0,h1]) hv0
 ·obtain⟨hkk,hkne⟩:=hkeys k key hkk
  obtain⟨j,hj,hjk,_⟩:=T.there k key hkn hkk
  refine⟨dst N i0 j,V7 hi hj,?_⟩
  rw[a0z hi hj,hold j fun h=>?_]
  ·exact hjk
  ·rw[h,h0]at hjk
   have:=yA hjk
   omega
 ·have h1:i≠i0:=fun h=>by rw[h,hz]at hv1;exact hv0 (yA hv1).symm
  have h2:j≠i0:=fun h=>by rw[h,hz]at hv2;exact hv0 (yA hv2).symm
  rw[hold i h1]at hv1
  rw[hold j h2]at hv2
  exact T.inj i j v hv1 hv2 hv0
 ·obtain⟨hkk,hkne⟩:=hkeys k key hkk
  have hp0:p≠0:=fun h=>by
   rw[h,r0,hz]at hpk
   have:=yA hpk
   omega
  rw[hold _ (hne p hp hp0)]at hpk
  rw[hold _ (hne c hc hc0)]
  have hkn:k<n:=by
   obtain⟨k',_,h1,h2,_⟩:=T.val _ _ hpk (by omega)
   omega
  obtain⟨j,hj,hjk,hway⟩:=T.there k key hkn hkk
  have hjp:j=rg N i0 p:=T.inj _ _ _ hjk hpk (by omega)
  have hh:=T.home key
  have ec:rg N (hm key) (dst N (hm key) (rg N i0 c))=rg N i0 c:=a0z hh (W0 (by omega))
  rw[<-ec]
  refine hway _ ?_
  rw[hjp,a3G hi hc,a3G hi hp]
  unfold dst onW at hon
  unfold dst
  revert hon
  (repeat' split)<;>intro hon<;>omega
 ·have hp0:p=0:=by omega
  subst hp0
  rw[r0,hz]at hpk
  have:=yA hpk
  omega
section
variable {N:Nat} {hm:ByteArray->Nat} {n:Nat} {tab:List Int} {keys:Nat->Option ByteArray} {i0 E q a:Nat}
theorem Gone.stay(G:Gone N hm n keys i0 E q a tab){k:Nat}{key:ByteArray}(ha:tab[rg N i0 a]? =some ((k:Int)+1))(hk:keys k=some key)(hno:¬onW (dst N i0 (hm key)) a q):Gone N hm n keys i0 E q (a+1) tab:=by
 have haE:a≠E:=fun h=>by
  have:=G.zero
  rw[<-h,ha]at this
  have:=yA this
  omega
 have:=G.ale
 have:=G.qlt
 refine { G with qlt:=by omega,ale:=by omega,back:=fun p k' key' hp hpk hkk=>?_ }
 by_cases hpa:p=a
 ·subst hpa
  rw[ha]at hpk
  have:k' =k:=by have:=yA hpk;omega
  subst this
  rw[hk]at hkk
  obtain rfl:=yA hkk
  exact hno
 ·exact G.back p k' key' (by omega) hpk hkk
theorem Gone.move(G:Gone N hm n keys i0 E q a tab)(hm_:∀s,hm s<N){k:Nat}{key:ByteArray}(ha:tab[rg N i0 a]? =some ((k:Int)+1))(hk:keys k=some key)(hon:onW (dst N i0 (hm key)) a q):
  Gone N hm n keys i0 E a (a+1) ((tab.set (rg N i0 q) ((k:Int)+1)).set (rg N i0 a) 0):=by
 have hi:=G.ilt
 have hE:=G.elt
 have hle:=G.ale
 have hqa:=G.qlt
 have haE:a≠E:=fun h=>by
  have:=G.zero
  rw[<-h,ha]at this
  have:=yA this
  omega
 have hN:0<N:=by omega
 have hla:rg N i0 a<tab.length:=by rw[G.len];exact W0 hN
 have hlq:rg N i0 q<tab.length:=by rw[G.len];exact W0 hN
 have nqa:rg N i0 q≠rg N i0 a:=d3S hi (by omega) (by omega) (by omega)
 have ga:((tab.set (rg N i0 q) ((k:Int)+1)).set (rg N i0 a) 0)[rg N i0 a]? =some 0:=by rw[yH (by rw[List.length_set];exact hla)]
 have gq:((tab.set (rg N i0 q) ((k:Int)+1)).set (rg N i0 a) 0)[rg N i0 q]? =some ((k:Int)+1):=by rw[yI nqa.symm,yH hlq]
 have go:∀i,i≠rg N i0 q->i≠rg N i0 a->((tab.set (rg N i0 q) ((k:Int)+1)).set (rg N i0 a) 0)[i]? =tab[i]? :=fun i h1 h2=>by rw[yI h2.symm,yI h1.symm]
 have gp:∀p,p<N->p≠q->p≠a->((tab.set (rg N i0 q) ((k:Int)+1)).set (rg N i0 a) 0)[rg N i0 p]? =tab[rg N i0 p]? :=fun p hp h1 h2=>go _ (d3S hi hp (by omega) h1) (d3S hi hp (by omega) h2)
 have hkn:k<n:=by
  obtain⟨k',_,h1,h2,_⟩:=G.val _ _ ha (by omega)
  omega
 have noE:∀(p k' :Nat) (key' :ByteArray),p<N->tab[rg N i0 p]? =some ((k' :Int)+1)->keys k' =some key' ->¬onW (dst N i0 (hm key')) p E:=fun p k' key' hp hpk hkk h=>G.way p k' key' hp hpk hkk E hE h (by omega) G.zero
 have hH:∀key',dst N i0 (hm key')<N:=fun key' =>V7 hi (hm_ key')
 refine⟨by rw[List.length_set,List.length_set];exact G.len,hi,hE,by rw[gp E hE (by omega) (by omega)];exact G.zero,by omega,by omega,ga,fun p hp hpa=>?_,fun j v hv hv0=>?_,fun l key' hl hkk=>?_,fun i j v hv1 hv2 hv0=>?_,fun p l key' hp hpl hkk c hc hw hca=>?_,fun p l key' hp hpl hkk=>?_⟩
 ·by_cases hpq:p=q
  ·subst hpq;rw[gq];intro h;have:=yA h;omega
  ·rw[gp p (by omega) hpq hpa];exact G.full p hp hpq
 ·by_cases h1:j=rg N i0 a
  ·rw[h1,ga]at hv;exact absurd (yA hv).symm hv0
  ·by_cases h2:j=rg N i0 q
   ·rw[h2,gq]at hv
    obtain rfl:=yA hv
    exact⟨k,key,rfl,hkn,hk⟩
   ·rw[go j h2 h1]at hv;exact G.val j v hv hv0
 ·obtain⟨p,hp,hpl⟩:=G.there l key' hl hkk
  by_cases hpa:p=a
  ·subst hpa
   rw[ha]at hpl
   have:l=k:=by have:=yA hpl;omega
   subst this
   exact⟨q,by omega,gq⟩
  ·have hpq:p≠q:=fun h=>by
    rw[h,G.hole]at hpl
    have:=yA hpl
    omega
   exact⟨p,hp,by rw[gp p hp hpq hpa];exact hpl⟩
 ·have na:∀i,((tab.set (rg N i0 q) ((k:Int)+1)).set (rg N i0 a) 0)[i]? =some v->i≠rg N i0 a:=fun i h h' =>by rw[h',ga]at h;exact hv0 (yA h).symm
  have n1:=na i hv1
  have n2:=na j hv2
  by_cases c1:i=rg N i0 q
  ·by_cases c2:j=rg N i0 q
   ·rw[c1,c2]
   ·subst c1
    rw[gq]at hv1
    rw[go j c2 n2]at hv2
    obtain rfl:=yA hv1
    exact absurd (G.inj _ _ _ hv2 ha hv0) n2
  ·by_cases c2:j=rg N i0 q
   ·subst c2
    rw[gq]at hv2
    rw[go i c1 n1]at hv1
    obtain rfl:=yA hv2
    exact absurd (G.inj _ _ _ hv1 ha hv0) n1
   ·rw[go i c1 n1]at hv1
    rw[go j c2 n2]at hv2
    exact G.inj i j v hv1 hv2 hv0
 ·have hpa:p≠a:=fun h=>by
   rw[h,ga]at hpl
   have:=yA hpl
   omega
  by_cases hcq:c=q
  ·subst hcq;rw[gq];intro h;have:=yA h;omega
  rw[gp c hc hcq hca]
  by_cases hpq:p=q
  ·subst hpq
   rw[gq]at hpl
   have:l=k:=by have:=yA hpl;omega
   subst this
   rw[hk]at hkk
   obtain rfl:=yA hkk
   refine G.way a l key (by omega) ha hk c hc ?_ hcq
   have:=hH key
   unfold onW at hon hw ⊢
   revert hon hw
   (repeat' split)<;>intro hon hw<;>omega
  ·rw[gp p hp hpq hpa]at hpl
   exact G.way p l key' hp hpl hkk c hc hw hcq
 ·have hpa:p≠a:=fun h=>by
   rw[h,ga]at hpl
   have:=yA hpl
   omega
  intro hw
  by_cases hpq:p=q
  ·subst hpq
   rw[gq]at hpl
   have:l=k:=by have:=yA hpl;omega
   subst this
   rw[hk]at hkk
   obtain rfl:=yA hkk
   have h2:=noE a l key (by omega) ha hk
   have:=hH key
   unfold onW at hon hw h2
   revert hon hw h2
   (repeat' split)<;>intro hon hw h2<;>omega
  ·rw[gp p (by omega) hpq hpa]at hpl
   have h2:=noE p l key' (by omega) hpl hkk
   have:=hH key'
   unfold onW at hw h2
   revert hw h2
   (repeat' split)<;>intro hw h2<;>omega
theorem Gone.done(G:Gone N hm n keys i0 E q a tab)(hm_:∀s,hm s<N)(hn:n<N)(kinj:∀(k l:Nat) (key:ByteArray),k<n->l<n->keys k=some key->keys l=some key->k=l)(ha:tab[rg N i0 a]? =some 0):TabOK N hm n tab keys:=by
 have hi:=G.ilt
 have hE:=G.elt
 have hle:=G.ale
 have hqa:=G.qlt
 have haE:a=E:=by
  rcases Nat.lt_or_ge a E with h|h
  ·exact absurd ha (G.full a h (by omega))
  ·omega
 refine⟨G.len,hn,hm_,G.val,fun k key hk hkk=>?_,G.inj,kinj⟩
 obtain⟨p,hp,hpk⟩:=G.there k key hk hkk
 have hH:=V7 hi (hm_ key)
 refine⟨rg N i0 p,W0 (by omega),hpk,fun t ht h0=>?_⟩
 have hc:=V7 hi (W0 (N:=N) (s:=hm key) (t:=t) (by omega))
 have ec:=a0z hi (W0 (N:=N) (s:=hm key) (t:=t) (by omega))
 have htN:t<N:=Nat.lt_trans ht (V7 (hm_ key) (W0 (by omega)))
 have hw:onW (dst N i0 (hm key)) p (dst N i0 (rg N (hm key) t)):=by
  have hh:=hm_ key
  rw[a3G hi hp]at ht
  rw[a3G hh htN]
  unfold dst at ht
  unfold onW dst
  revert ht
  (repeat' split)<;>intro ht<;>omega
 rw[<-ec]at h0
 have hcq:dst N i0 (rg N (hm key) t)=q:=by
  rcases Classical.em (dst N i0 (rg N (hm key) t)=q)with h|h
  ·exact h
  ·exact absurd h0 (G.way p k key hp hpk hkk _ hc hw h)
 rw[hcq]at hw
 rcases Nat.lt_or_ge p a with h|h
 ·exact G.back p k key h hpk hkk hw
 ·have hpE:p≠E:=fun he=>by
   have:=G.zero
   rw[<-he,hpk]at this
   have:=yA this
   omega
  have h2:¬onW (dst N i0 (hm key)) p E:=fun h=>G.way p k key hp hpk hkk E hE h (by omega) G.zero
  unfold onW at hw h2
  revert hw h2
  (repeat' split)<;>intro hw h2<;>omega
end
end Go.Proofs.YtlakhgibjfmjjaaGreat.Can
namespace Go.Proofs.YtlakhgibjfmjjaaGreat.Can
open Go
attribute [local congr] m9 l8 f7 f6 i7 l7 l9 s9 s7
theorem e0R{a b:ByteArray}(h:a≠b):(a.toList==b.toList)=false:=by
 cases hq:(a.toList==b.toList)with
 |false=>rfl
 |true=>
  have h2:=eq_of_beq hq
  rw[ByteArray.toList_eq,ByteArray.toList_eq]at h2
  exact absurd (Go.WideShapes.bytes_inj h2) h
theorem c1F:decide ((-1:Int)>=0)=false:=by decide
theorem e1f(a:ByteArray):(a.toList==a.toList)=true:=by simp
theorem b1l{N x y:Nat}(hx:x<N)(hy:y<N):Int.tmod ((x:Int)-(y:Int)+(N:Int)) (N:Int)=((dst N y x:Nat):Int):=by
 rw[I0 _ _ (by omega)]
 unfold dst
 split
 ·rw[show(x:Int)-(y:Int)+(N:Int)=((x-y:Nat):Int)+(N:Int) by omega,Int.add_emod_right,Int.emod_eq_of_lt (by omega) (by omega)]
 ·rw[show(x:Int)-(y:Int)+(N:Int)=((N-y+x:Nat):Int) by omega,Int.emod_eq_of_lt (by omega) (by omega)]
abbrev hmI(row:K2)(n:Nat):ByteArray->Nat:=fun s=>bkt row s (2*n+1)
def plc:Option Nat->Int
 |none=> -1
 |some k=>k
section
variable {h:Heap} {x tb st:Nat} {row:K2} {n:Nat} {tab:List Int} {A:List Nat} {keys:Nat->Option ByteArray} {fl:List Nat}
theorem c4n(i:IdxAt h x tb st row n tab)(hr:row.OK)(hn:n<=1024)(s:ByteArray)(hs:s.size<=140737488355328){Q:Value->Heap->Prop}(hQ:∀h',Old h h' ->Q (.int .i64 (hmI row n s:Nat)) h'):
  r8 cp 175 [.pointer (some ⟨x,0,none⟩),.string s] h Q:=by
 rw[a8 cp e6c]
 have ox:=i.ox
 have f:=fun h=>d4m h row hr s hs (2*n+1) (by omega) (by omega)
 have en:Y5.enc row=[.int .u64 row.1,.int .u64 row.2.1,.int .u64 row.2.2]:=rfl
 rw[en]at f
 simp(disch:=omega)only[d8P,↓e6o,ox,f,List.drop_succ_cons,List.drop_zero,List.take_succ_cons,List.take_zero,↓j0,l0,zA,zB,zC,zD,zE,zF,zG,zH,zI,reduceCtorEq,zJ,zK,zL,zM]
 exact hQ _ (((Old.refl h).more _).more _)
theorem b0I(i:IdxAt h x tb st row n tab)(S:StAt h st A n keys fl)(hr:row.OK)(hn:n<=1024)(T:TabOK (2*n+1) (hmI row n) n tab keys){key:ByteArray}(hs:key.size<=140737488355328){t:Nat}{r:Option Nat}(L:Looked (2*n+1) (hmI row n) n tab keys key t r){Q:Value->Heap->Prop}
  (hQ:∀h',Old h h' ->Q (.tuple #[.int .i64 (rg (2*n+1) (hmI row n key) t:Nat),.int .i64 (plc r)]) h'):
  r8 cp 165 [.pointer (some ⟨x,0,none⟩),.string key] h Q:=by
 rw[a8 cp e2Z]
 simp(disch:=omega)only[b1J,↓c9Y,↓j0,l0,zA,zB,zC,zD,zE,zF,zG,zH,zI,reduceCtorEq,zJ,zK,zL,zM]
 refine c4n i hr hn key hs fun h1 o1=>?_
 have i1:=i.keep o1.next (o1.obj x i.lx) (o1.obj tb i.lt)
 have S1:=S.old o1
 simp(disch:=omega)only[b1J,↓c9Y,↓j0,l0,zA,zB,zC,zD,zE,zF,zG,zH,zI,reduceCtorEq,zJ,zK,zL,zM]
 refine y6 cp a1A _ (fun d e hh=>∃s,s+d=t/\hh=h1/\e 0=.pointer (some ⟨x,0,none⟩)/\e 1=.string key/\e 6=.int .i64 (rg (2*n+1) (hmI row n key) s:Nat)) ?_ t _ _
  ⟨0,by omega,rfl,rfl,rfl,by rw[show rg (2*n+1) (hmI row n key) 0=hmI row n key from Nat.mod_eq_of_lt (T.home key)];rfl⟩
 rintro d e hh ⟨s,hsd,rfl,e0,e1,e6⟩
 have ox:=i1.ox
 have ot:=i1.ot
 have len:=i1.len
 have hp:rg (2*n+1) (hmI row n key) s<2*n+1:=W0 (by omega)
 have nx:Int.tmod (((rg (2*n+1) (hmI row n key) s:Nat):Int)+1) ((2*n+1:Nat):Int)=((rg (2*n+1) (hmI row n key) (s+1):Nat):Int):=by
  rw[I0 _ _ (by omega),show((rg (2*n+1) (hmI row n key) s:Nat):Int)+1=((rg (2*n+1) (hmI row n key) s+1:Nat):Int) by omega]
  show(((rg (2*n+1) (hmI row n key) s+1) % (2*n+1):Nat):Int)=_
  congr 1
  show((hmI row n key+s) % (2*n+1)+1) % (2*n+1)=(hmI row n key+(s+1)) % (2*n+1)
  rw[Nat.mod_add_mod,Nat.add_assoc]
 have z0:((2*n+1:Nat):Int)≠0:=by omega
 obtain⟨P,hP⟩:∃P,P=rg (2*n+1) (hmI row n key) s:=⟨_,rfl⟩
 rw[<-hP]at e6 hp nx
 rcases Nat.lt_or_ge s t with hst|hst
 ·obtain⟨k,key',g1,g2,g3,g4⟩:=L.ahead s hst
  rw[<-hP]at g1
  have g1' :=B0 .i32 tab g1
  have k1:(k:Int)+1-1=(k:Int):=by omega
  have k2:decide ((k:Int)<0)=false:=decide_eq_false (by omega)
  have fi:=fun Q=>Keys.st_is S1.S g2 g3 key Q
  simp(disch:=omega)only[a1A,b1J,↓c9Y,e0,e1,e6,ox,ot,g1',k1,k2,fi,e0R g4,nx,yS,↓j0,l0,zA,zB,zC,zD,zE,zF,zG,zH,zI,reduceCtorEq,zJ,zK,zL,zM]
  exact⟨d-1,by omega,s+1,by omega,rfl⟩
 ·obtain rfl:s=t:=by omega
  have hl:=L.here
  cases r with
  |none=>
   obtain⟨g1,_⟩:=hl
   rw[<-hP]at g1
   have g1' :=B0 .i32 tab g1
   rw[<-hP]at hQ
   simp(disch:=omega)only[a1A,b1J,↓c9Y,e0,e1,e6,ox,ot,g1',yS,↓j0,l0,zA,zB,zC,zD,zE,zF,zG,zH,zI,reduceCtorEq,zJ,zK,zL,zM]
   exact hQ _ o1
  |some k=>
   obtain⟨g1,g2,g3⟩:=hl
   rw[<-hP]at g1
   have g1' :=B0 .i32 tab g1
   rw[<-hP]at hQ
   have k1:(k:Int)+1-1=(k:Int):=by omega
   have k2:decide ((k:Int)<0)=false:=decide_eq_false (by omega)
   have fi:=fun Q=>Keys.st_is S1.S g2 g3 key Q
   simp(disch:=omega)only[a1A,b1J,↓c9Y,e0,e1,e6,ox,ot,g1',k1,k2,fi,e1f,yS,↓j0,l0,zA,zB,zC,zD,zE,zF,zG,zH,zI,reduceCtorEq,zJ,zK,zL,zM]
   exact hQ _ o1
theorem b0q(i:IdxAt h x tb st row n tab)(S:StAt h st A n keys fl)(hr:row.OK)(hn:n<=1024)(T:TabOK (2*n+1) (hmI row n) n tab keys){key:ByteArray}(hs:key.size<=140737488355328){t:Nat}{r:Option Nat}(L:Looked (2*n+1) (hmI row n) n tab keys key t r){Q:Value->Heap->Prop}
  (hQ:∀h',Old h h' ->Q (.int .i64 (plc r)) h'):r8 cp 147 [.pointer (some ⟨x,0,none⟩),.string key] h Q:=by
 rw[a8 cp e6b]
 simp(disch:=omega)only[d0r,↓e3p,↓j0,l0,zA,zB,zC,zD,zE,zF,zG,zH,zI,reduceCtorEq,zJ,zK,zL,zM]
 refine b0I i S hr hn T hs L fun h1 o1=>?_
 simp(disch:=omega)only[d0r,↓e3p,↓j0,l0,zA,zB,zC,zD,zE,zF,zG,zH,zI,reduceCtorEq,zJ,zK,zL,zM]
 exact hQ _ o1
theorem c2C(i:IdxAt h x tb st row n tab){k:Nat}(S:StAt h st A n keys (k::fl))(hr:row.OK)(hn:n<=1024)(T:TabOK (2*n+1) (hmI row n) n tab keys){key:ByteArray}(hs:key.size<=64){t:Nat}(L:Looked (2*n+1) (hmI row n) n tab keys key t none)(hx:x∉A)(htb:tb∉A){Q:Value->Heap->Prop}
  (hQ:∀h',OldF (fun z=>z=tb\/z∈A) h h' ->IdxAt h' x tb st row n (tab.set (rg (2*n+1) (hmI row n key) t) ((k:Int)+1))->StAt h' st A n (Keys.kset keys k (some key)) fl->
   TabOK (2*n+1) (hmI row n) n (tab.set (rg (2*n+1) (hmI row n key) t) ((k:Int)+1)) (Keys.kset keys k (some key))->Q (.int .i64 k) h'):r8 cp 150 [.pointer (some ⟨x,0,none⟩),.string key] h Q:=by
 rw[a8 cp e4p]
 simp(disch:=omega)only[c5V,↓e1b,↓j0,l0,zA,zB,zC,zD,zE,zF,zG,zH,zI,reduceCtorEq,zJ,zK,zL,zM]
 refine b0I i S hr hn T (by omega) L fun h1 o1=>?_
 have i1:=i.keep o1.next (o1.obj x i.lx) (o1.obj tb i.lt)
 have S1:=S.old o1
 have ox:=i1.ox
 obtain⟨s,hsp,hso,hsn,hsA,hsg⟩:=S1.S
 have hkn:k<n:=by have:=hsg.lt k List.mem_cons_self;omega
 have hkf:keys k=none:=(hsg.free k (by omega)).1 List.mem_cons_self
 simp(disch:=omega)only[c5V,↓e1b,plc,c1F,ox,↓j0,l0,zA,zB,zC,zD,zE,zF,zG,zH,zI,reduceCtorEq,zJ,zK,zL,zM]
 refine Keys.st_put S1.S hs fun h2 S2 kp=>?_
 have o2:OldF (fun z=>z=tb\/z∈A) h h2:=(o1.f _).trans ⟨by rw[kp.next];exact yP _,fun b _ hb=>kp.obj b fun hbA=>hb (.inr hbA)⟩
 have ox2:h2.obj x=_:=(kp.obj x hx).trans i1.ox
 have ot2:h2.obj tb=_:=(kp.obj tb htb).trans i1.ot
 have len:=i1.len
 have hp:rg (2*n+1) (hmI row n key) t<2*n+1:=W0 (by omega)
 have k2:decide ((k:Int)>=0)=true:=decide_eq_true (by omega)
 have ne:=i.ne
 obtain⟨P,hP⟩:∃P,P=rg (2*n+1) (hmI row n key) t:=⟨_,rfl⟩
 rw[<-hP]at hp hQ
 simp(disch:=omega)only[c5V,↓e1b,<-hP,ox2,ot2,k2,C5,E9,z8,len,yS,↓j0,l0,zA,zB,zC,zD,zE,zF,zG,zH,zI,reduceCtorEq,zJ,zK,zL,zM]
 have tp:=T.put L hkn hkf
 rw[<-hP]at tp
 have S3:StAt h2 st A n (Keys.kset keys k (some key)) fl:=⟨S2,fun z hz=>by rw[kp.next];exact S1.lt z hz⟩
 refine hQ _ (o2.trans (OldF.upd _ _ _ (.inl rfl))) ⟨?_,?_,?_,?_,by rw[List.length_set];exact len,ne⟩ (S3.keep (yP _) fun z hz=>a6 _ _ fun e=>htb (e▸hz)) tp
 ·rw[a6 _ _ ne];exact ox2
 ·show x<h2.next;rw[kp.next];exact i1.lx
 ·exact a9 _ _ _
 ·show tb<h2.next;rw[kp.next];exact i1.lt
theorem a6g(i:IdxAt h x tb st row n tab)(S:StAt h st A n keys fl)(hr:row.OK)(hn:n<=1024)(T:TabOK (2*n+1) (hmI row n) n tab keys){key:ByteArray}(hs:key.size<=64){t k:Nat}(L:Looked (2*n+1) (hmI row n) n tab keys key t (some k))(hx:x∉A)(htb:tb∉A){Q:Value->Heap->Prop}
  (hQ:∀h' tab',OldF (fun z=>z=tb\/z∈A) h h' ->IdxAt h' x tb st row n tab' ->StAt h' st A n (Keys.kset keys k none) (k::fl)->TabOK (2*n+1) (hmI row n) n tab' (Keys.kset keys k none)->Q (.int .i64 k) h'):
  r8 cp 167 [.pointer (some ⟨x,0,none⟩),.string key] h Q:=by
 rw[a8 cp e5J]
 simp(disch:=omega)only[a7w,↓b4P,↓j0,l0,zA,zB,zC,zD,zE,zF,zG,zH,zI,reduceCtorEq,zJ,zK,zL,zM]
 refine b0I i S hr hn T (by omega) L fun h1 o1=>?_
 have i1:=i.keep o1.next (o1.obj x i.lx) (o1.obj tb i.lt)
 have S1:=S.old o1
 have ox:=i1.ox
 have len:=i1.len
 have ne:=i.ne
 have k2:decide ((k:Int)<0)=false:=decide_eq_false (by omega)
 obtain⟨l1,l2,l3⟩:=L.here
 simp(disch:=omega)only[a7w,↓b4P,plc,ox,k2,↓j0,l0,zA,zB,zC,zD,zE,zF,zG,zH,zI,reduceCtorEq,zJ,zK,zL,zM]
 refine Keys.st_free S1.S l2 l3 fun h2 S2 kp=>?_
 have ox2:h2.obj x=_:=(kp.obj x hx).trans i1.ox
 have ot2:h2.obj tb=_:=(kp.obj tb htb).trans i1.ot
 have o2:OldF (fun z=>z=tb\/z∈A) h h2:=(o1.f _).trans ⟨by rw[kp.next];exact yP _,fun b _ hb=>kp.obj b fun hbA=>hb (.inr hbA)⟩
 have S3:StAt h2 st A n (Keys.kset keys k none) (k::fl):=⟨S2,fun z hz=>by rw[kp.next];exact S1.lt z hz⟩
 have lx2:x<h2.next:=by rw[kp.next];exact i1.lx
 have lt2:tb<h2.next:=by rw[kp.next];exact i1.lt
 obtain⟨i0,hi0⟩:∃i0,i0=rg (2*n+1) (hmI row n key) t:=⟨_,rfl⟩
 have hp:i0<2*n+1:=by rw[hi0];exact W0 (by omega)
 rw[<-hi0]at l1
 rw[<-hi0]
 obtain⟨E,G⟩:=T.start hp l1 l2 l3
 have r1:rg (2*n+1) i0 0=i0:=Nat.mod_eq_of_lt hp
 have kinj:∀(a b:Nat) (key' :ByteArray),a<n->b<n->Keys.kset keys k none a=some key' ->Keys.kset keys k none b=some key' ->a=b:=fun a b key' ha hb h1 h2=>by
  unfold Keys.kset at h1 h2
  split at h1
  ·cases h1
  ·split at h2
   ·cases h2
   ·exact T.kinj a b key' ha hb h1 h2
 have nx:∀s,Int.tmod (((rg (2*n+1) i0 s:Nat):Int)+1) ((2*n+1:Nat):Int)=((rg (2*n+1) i0 (s+1):Nat):Int):=fun s=>by
  rw[I0 _ _ (by omega),show((rg (2*n+1) i0 s:Nat):Int)+1=((rg (2*n+1) i0 s+1:Nat):Int) by omega]
  show(((rg (2*n+1) i0 s+1) % (2*n+1):Nat):Int)=_
  congr 1
  show((i0+s) % (2*n+1)+1) % (2*n+1)=(i0+(s+1)) % (2*n+1)
  rw[Nat.mod_add_mod,Nat.add_assoc]
 have nx0:=nx 0
 rw[r1]at nx0
 have z0:((2*n+1:Nat):Int)≠0:=by omega
 simp(disch:=omega)only[a7w,↓b4P,ox2,ot2,C5,E9,z8,len,nx0,yS,↓j0,l0,zA,zB,zC,zD,zE,zF,zG,zH,zI,reduceCtorEq,zJ,zK,zL,zM]
 refine y6 cp a0I _ (fun d e hh=>∃q a tab',a+d=E/\Gone (2*n+1) (hmI row n) n (Keys.kset keys k none) i0 E q a tab' /\OldF (fun z=>z=tb\/z∈A) h hh/\IdxAt hh x tb st row n tab' /\StAt hh st A n (Keys.kset keys k none) (k::fl)/\
   e 0=.pointer (some ⟨x,0,none⟩)/\e 5=.int .i64 (rg (2*n+1) i0 q:Nat)/\e 6=.int .i64 k/\e 7=.int .i64 (2*n+1:Nat)/\e 8=.int .i64 (rg (2*n+1) i0 a:Nat)) ?_ (E-1) _ _
  ⟨0,1,tab.set i0 0,by have:=G.ale;omega,G,o2.trans (OldF.upd _ _ _ (.inl rfl)),⟨by rw[a6 _ _ ne];exact ox2,lx2,a9 _ _ _,lt2,by rw[List.length_set];exact len,ne⟩,S3.keep (yP _) fun z hz=>a6 _ _ fun e=>htb (e▸hz),rfl,by rw[r1];rfl,rfl,rfl,rfl⟩
 rintro d e hh ⟨q,a,tab',had,G',o',i',S',e0,e5,e6,e7,e8⟩
 have ox' :=i'.ox
 have ot' :=i'.ot
 have len' :=i'.len
 have hE:=G'.elt
 have hqa:=G'.qlt
 have hpa:rg (2*n+1) i0 a<2*n+1:=W0 (by omega)
 have hpq:rg (2*n+1) i0 q<2*n+1:=W0 (by omega)
 have nx' :=nx a
 obtain⟨P,hP⟩:∃P,P=rg (2*n+1) i0 a:=⟨_,rfl⟩
 obtain⟨R,hR⟩:∃R,R=rg (2*n+1) i0 q:=⟨_,rfl⟩
 rw[<-hP]at e8 hpa nx'
 rw[<-hR]at e5 hpq
 obtain⟨v,hv⟩:=a6S G'.len (j:=P) hpa
 have hv' :=B0 .i32 tab' hv
 by_cases hv0:v=0
 ·subst hv0
  have b1:decide ((0:Int)>0)=false:=by decide
  simp(disch:=omega)only[a0I,a7w,↓b4P,e0,e5,e6,e7,e8,ox',ot',hv',b1,yS,↓j0,l0,zA,zB,zC,zD,zE,zF,zG,zH,zI,reduceCtorEq,zJ,zK,zL,zM]
  exact hQ _ tab' o' i' S' (G'.done T.home T.big kinj (by rw[<-hP];exact hv))
 ·obtain⟨l,name,rfl,hl,hname⟩:=G'.val P v hv hv0
  have b1:decide ((l:Int)+1>0)=true:=decide_eq_true (by omega)
  have k1:(l:Int)+1-1=(l:Int):=by omega
  have fk:=fun Q=>Keys.st_key S'.S hl hname Q
  simp(disch:=omega)only[a0I,a7w,↓b4P,e0,e5,e6,e7,e8,ox',ot',hv',b1,k1,fk,yS,↓j0,l0,zA,zB,zC,zD,zE,zF,zG,zH,zI,reduceCtorEq,zJ,zK,zL,zM]
  have hnsz:name.size<=64:=by
   obtain⟨s0,_,_,hsn,_,hsg⟩:=S'.S
   exact(hsg.held l name (by omega) hname).2.1
  refine c4n i' hr hn name (by omega) fun h3 o3=>?_
  have i3:=i'.keep o3.next (o3.obj x i'.lx) (o3.obj tb i'.lt)
  have S3' :=S'.old o3
  have of3:=o'.trans (o3.f _)
  have ox3:=i3.ox
  have ot3:=i3.ot
  have hh3:hmI row n name<2*n+1:=T.home name
  obtain⟨H,hH⟩:∃H,H=hmI row n name:=⟨_,rfl⟩
  rw[<-hH]at hh3
  rw[<-hH]
  have m1:=b1l hpa hh3
  have m2:=b1l hpa hpq
  have tst:=test_iff (N:=2*n+1) (i0:=i0) (q:=q) (a:=a) (x:=H) hp hqa (by have:=G'.ale;omega) hh3
  rw[<-hP,<-hR]at tst
  have nE:a≠E:=fun he=>by
   have:=G'.zero
   rw[<-he,<-hP,hv]at this
   have:=yA this
   omega
  have hle:=G'.ale
  by_cases ho:onW (dst (2*n+1) i0 H) a q
  ·have b2:decide (((dst (2*n+1) H P:Nat):Int)<((dst (2*n+1) R P:Nat):Int))=false:=decide_eq_false (by
    have h1:¬dst (2*n+1) H P<dst (2*n+1) R P:=fun h=>tst.1 h ho
    omega)
   have G2:=G'.move T.home (k:=l) (key:=name) (by rw[<-hP];exact hv) hname (by rw[<-hH];exact ho)
   rw[<-hP,<-hR]at G2
   simp(disch:=omega)only[a0I,a7w,↓b4P,e0,e5,e6,e7,e8,ox3,ot3,m1,m2,b2,hv',a9,a6,ne,ne.symm,C5,E9,z8,len',nx',yS,↓j0,l0,zA,zB,zC,zD,zE,zF,zG,zH,zI,reduceCtorEq,zJ,zK,zL,zM]
   refine⟨d-1,by omega,a,a+1,_,by omega,G2,of3.trans ((OldF.upd _ _ _ (.inl rfl)).trans (OldF.upd _ _ _ (.inl rfl))),⟨?_,i3.lx,a9 _ _ _,i3.lt,by rw[List.length_set,List.length_set];exact len',ne⟩,S3'.keep (yP _) fun z hz=>?_,by rw[hP],rfl⟩
   ·rw[a6 _ _ ne,a6 _ _ ne];exact i3.ox
   ·have hz2:z≠tb:=fun e=>htb (e▸hz)
    rw[a6 _ _ hz2,a6 _ _ hz2]
  ·have b2:decide (((dst (2*n+1) H P:Nat):Int)<((dst (2*n+1) R P:Nat):Int))=true:=decide_eq_true (by
    have h1:=tst.2 ho
    omega)
   have G2:=G'.stay (k:=l) (key:=name) (by rw[<-hP];exact hv) hname (by rw[<-hH];exact ho)
   simp(disch:=omega)only[a0I,a7w,↓b4P,e0,e5,e6,e7,e8,ox3,ot3,m1,m2,b2,nx',yS,↓j0,l0,zA,zB,zC,zD,zE,zF,zG,zH,zI,reduceCtorEq,zJ,zK,zL,zM]
   exact⟨d-1,by omega,q,a+1,tab',by omega,G2,of3,i3,S3',by rw[hR],rfl⟩
end
abbrev D7:=Int×Int×Int×Int
abbrev E4:Enc D7:=Enc.pair (Enc.int .i64) (Enc.pair (Enc.int .i64) (Enc.pair (Enc.int .i64) (Enc.int .i64)))
theorem c5U(n:Nat):F8 n [.int .i64 0,.int .i64 0,.int .i64 0,.int .i64 0]=E4.all (List.replicate n (0,0,0,0)):=by
 induction n with
 |zero=>rfl
 |succ n ih=>rw[List.replicate_succ];show[Value.int .i64 0,.int .i64 0,.int .i64 0,.int .i64 0]++F8 n _=_;rw[ih];rfl
structure PA where
 p:Nat
 st:Nat
 x:Nat
 tb:Nat
 cb:Nat
 A:List Nat
 n:Nat
 row:K2
def PA.own(a:PA):List Nat:=a.p::a.cb::a.x::a.tb::a.A
structure PoolAt(h:Heap)(a:PA)(keys:Nat->Option ByteArray)(fl:List Nat)(tab:List Int)(cells:List D7):Prop where
 op:h.obj a.p=.cells [.pointer (some ⟨a.st,0,none⟩),.pointer (some ⟨a.x,0,none⟩),.slice (some ⟨a.cb,0,none⟩) a.n a.n] 165 .fix
 s:StAt h a.st a.A a.n keys fl
 i:IdxAt h a.x a.tb a.st a.row a.n tab
 oc:h.obj a.cb=.cells (E4.all cells) 250 .grow
 len:cells.length=a.n
 nd:a.own.Nodup
 lt:∀z∈a.own,z<h.next
 hn:1<=a.n/\a.n<=1024
theorem PoolAt.keep{h h' :Heap}{a:PA}{keys:Nat->Option ByteArray}{fl:List Nat}{tab:List Int}{cells:List D7}(P:PoolAt h a keys fl tab cells)(hn:h.next<=h'.next)(ho:∀z∈a.own,h'.obj z=h.obj z):PoolAt h' a keys fl tab cells where
 op:=(ho _ (by simp[PA.own])).trans P.op
 s:=P.s.keep hn fun z hz=>ho z (by simp[PA.own,hz])
 i:=P.i.keep hn (ho _ (by simp[PA.own])) (ho _ (by simp[PA.own]))
 oc:=(ho _ (by simp[PA.own])).trans P.oc
 len:=P.len
 nd:=P.nd
 lt:=fun z hz=>yN (P.lt z hz) hn
 hn:=P.hn
theorem b4q(h:Heap)(n:Nat)(hn:1<=n/\n<=1024)(row:K2){Q:Value->Heap->Prop}
  (hQ:∀h' a,Old h h' ->PoolAt h' a (fun _=>none) (List.range n) (List.replicate (2*n+1) 0) (List.replicate n (0,0,0,0))->a.n=n->a.row=row->(∀z∈a.own,h.next<=z)->Q (.pointer (some ⟨a.p,0,none⟩)) h'):
  r8 cp 80 [.int .i64 n,e1i row] h Q:=by
 rw[a8 cp e7X]
 obtain⟨h1,h1d,o1,n1,g1⟩:=M8 h (.cells [.int .u64 row.1,.int .u64 row.2.1,.int .u64 row.2.2] 182 .fix)
 have a1:decide ((n:Int)<1)=false:=decide_eq_false (by omega)
 have a2:decide ((n:Int)>1024)=false:=decide_eq_false (by omega)
 have z0:¬(n:Int)<0:=by omega
 simp(disch:=omega)only[c80,↓R80,a1,a2,<-h1d,↓j0,l0,zA,zB,zC,zD,zE,zF,zG,zH,zI,reduceCtorEq,zJ,zK,zL,zM]
 refine b2M h1 n (by omega) fun h2 st A o2 s2 hst nd hA=>?_
 have n2:=o2.next
 have g2:=(o2.obj h.next (by omega)).trans g1
 obtain⟨h3,h3d⟩:∃h3,h3=(h2.new (.cells (E4.all (List.replicate n (0,0,0,0))) 250 .grow)).new (.cells [.pointer (some ⟨st,0,none⟩),.pointer none,.slice (some ⟨h2.next,0,none⟩) n n] 165 .fix):=⟨_,rfl⟩
 have o3:Old h2 h3:=by rw[h3d];exact((Old.refl h2).more _).more _
 have n3:h3.next=h2.next+1+1:=by rw[h3d];rfl
 have gp3:h3.obj (h2.next+1)=.cells [.pointer (some ⟨st,0,none⟩),.pointer none,.slice (some ⟨h2.next,0,none⟩) n n] 165 .fix:=by rw[h3d];exact K8 _ _ _
 have gc3:h3.obj h2.next=.cells (E4.all (List.replicate n (0,0,0,0))) 250 .grow:=by rw[h3d,b7 _ _ (by simp only[f4];omega)];exact b8 _ _
 have g3:=(o3.obj h.next (by omega)).trans g2
 have s3:=s2.old o3
 simp(disch:=omega)only[c80,↓R80,c5U,u5,<-h3d,gp3,g3,↓j0,l0,zA,zB,zC,zD,zE,zF,zG,zH,zI,reduceCtorEq,zJ,zK,zL,zM]
 refine a7P s3 (by omega) row fun h4 x tb o4 i4 hx ht=>?_
 have gp4:=(o4.obj _ (by omega)).trans gp3
 have n4:=o4.next
 have lx:=i4.lx
 have lt:=i4.lt
 simp(disch:=omega)only[c80,↓R80,gp4,↓j0,l0,zA,zB,zC,zD,zE,zF,zG,zH,zI,reduceCtorEq,zJ,zK,zL,zM]
 have hlt:=s2.lt
 refine hQ _ ⟨h2.next+1,st,x,tb,h2.next,A,n,row⟩ ⟨by rw[l6];omega,fun z hz=>by rw[a6 _ _ (by omega),o4.obj z (by omega),o3.obj z (by omega),o2.obj z (by omega),o1.obj z hz]⟩ ⟨?_,?_,?_,?_,?_,?_,?_,hn⟩ rfl rfl ?_
 ·exact a9 _ _ _
 ·refine(s3.old o4).keep (yP _) fun z hz=>a6 _ _ (by have:=hlt z hz;omega)
 ·exact i4.keep (yP _) (a6 _ _ (by omega)) (a6 _ _ (by omega))
 ·show(h4.upd _ _).obj h2.next=_
  rw[a6 _ _ (by omega),o4.obj _ (by omega)];exact gc3
 ·simp
 ·have ne:=i4.ne
  simp only[PA.own,List.nodup_cons,List.mem_cons,not_or]
  refine⟨⟨by omega,by omega,by omega,fun hz=>by have:=hlt _ hz;omega⟩,⟨by omega,by omega,fun hz=>by have:=hlt _ hz;omega⟩,⟨ne,fun hz=>by have:=hlt _ hz;omega⟩,fun hz=>by have:=hlt _ hz;omega,nd⟩
 ·intro z hz
  simp only[PA.own,List.mem_cons]at hz
  rw[l6]
  rcases hz with rfl|rfl|rfl|rfl|hz
  ·omega
  ·omega
  ·omega
  ·omega
  ·have:=hlt _ hz;omega
 ·intro z hz
  simp only[PA.own,List.mem_cons]at hz
  rcases hz with rfl|rfl|rfl|rfl|hz
  ·omega
  ·omega
  ·omega
  ·omega
  ·have:=hA _ hz;omega
def plK(n:Nat)(keys:Nat->Option ByteArray)(key:ByteArray):Option Nat:=(List.range n).find? fun k=>decide (keys k=some key)
theorem F0{n:Nat}{keys:Nat->Option ByteArray}{key:ByteArray}{k:Nat}(h:plK n keys key=some k):k<n/\keys k=some key:=by
 unfold plK at h
 have h1:=List.mem_of_find?_eq_some h
 have h2:=List.find?_some h
 exact⟨List.mem_range.1 h1,of_decide_eq_true h2⟩
theorem a4t{n:Nat}{keys:Nat->Option ByteArray}{key:ByteArray}(h:plK n keys key=none):∀k,k<n->keys k≠some key:=fun k hk he=>by
 unfold plK at h
 exact(List.find?_eq_none.1 h) k (List.mem_range.2 hk) (decide_eq_true he)
theorem b4e{n:Nat}{keys:Nat->Option ByteArray}{key:ByteArray}{k:Nat}(hk:k<n)(he:keys k=some key)(hu:∀(k l:Nat) (key:ByteArray),k<n->l<n->keys k=some key->keys l=some key->k=l):plK n keys key=some k:=by
 cases hq:plK n keys key with
 |none=>exact absurd he (a4t hq k hk)
 |some l=>obtain⟨h1,h2⟩:=F0 hq;rw[hu k l key hk h1 he h2]
theorem Looked.pl{N:Nat}{hm:ByteArray->Nat}{n:Nat}{tab:List Int}{keys:Nat->Option ByteArray}(T:TabOK N hm n tab keys){key:ByteArray}{t:Nat}{r:Option Nat}(L:Looked N hm n tab keys key t r):plK n keys key=r:=by
 have h:=L.here
 cases r with
 |none=>
  cases hq:plK n keys key with
  |none=>rfl
  |some l=>obtain⟨h1,h2⟩:=F0 hq;exact absurd h2 (h.2 l h1)
 |some k=>exact b4e h.2.1 h.2.2 T.kinj
theorem TabOK.look'{N:Nat}{hm:ByteArray->Nat}{n:Nat}{tab:List Int}{keys:Nat->Option ByteArray}(T:TabOK N hm n tab keys)(key:ByteArray):∃t,Looked N hm n tab keys key t (plK n keys key):=by
 obtain⟨t,r,L⟩:=T.look key
 exact⟨t,by rw[L.pl T];exact L⟩
structure PV where
 keys:Nat->Option ByteArray
 fl:List Nat
 cells:List D7
structure Pool(h:Heap)(a:PA)(v:PV):Prop where
 at_:∃tab,PoolAt h a v.keys v.fl tab v.cells/\TabOK (2*a.n+1) (hmI a.row a.n) a.n tab v.keys
 row:a.row.OK
theorem Pool.keep{h h' :Heap}{a:PA}{v:PV}(P:Pool h a v)(hn:h.next<=h'.next)(ho:∀z∈a.own,h'.obj z=h.obj z):Pool h' a v:=
 let ⟨tab,p,t⟩:=P.at_;⟨⟨tab,p.keep hn ho,t⟩,P.row⟩
theorem Pool.lt{h:Heap}{a:PA}{v:PV}(P:Pool h a v):∀z∈a.own,z<h.next:=let ⟨_,p,_⟩:=P.at_;p.lt
theorem Pool.old{h h' :Heap}{a:PA}{v:PV}(P:Pool h a v)(o:Old h h'):Pool h' a v:=P.keep o.next fun z hz=>o.obj z (P.lt z hz)
theorem Pool.oldF{F:Nat->Prop}{h h' :Heap}{a:PA}{v:PV}(P:Pool h a v)(o:OldF F h h')(hF:∀z∈a.own,¬F z):Pool h' a v:=P.keep o.next fun z hz=>o.obj z (P.lt z hz) (hF z hz)
structure PV.OK(v:PV)(n:Nat):Prop where
 inj:∀(k l:Nat) (key:ByteArray),k<n->l<n->v.keys k=some key->v.keys l=some key->k=l
 free:∀k,k<n->(k∈v.fl↔v.keys k=none)
 flt:∀k∈v.fl,k<n
 nodup:v.fl.Nodup
 le:v.fl.length<=n
 size:∀k key,k<n->v.keys k=some key->key.size<=64
 len:v.cells.length=n
 hn:1<=n/\n<=1024
theorem Pool.ok{h:Heap}{a:PA}{v:PV}(P:Pool h a v):v.OK a.n:=by
 obtain⟨tab,p,t⟩:=P.at_
 obtain⟨s,_,_,hsn,_,g⟩:=p.s.S
 have hn:=p.hn
 exact⟨t.kinj,fun k hk=>g.free k (by omega),fun k hk=>by have:=g.lt k hk;omega,g.nodup,by have:=g.le;omega,fun k key hk hkey=>(g.held k key (by omega) hkey).2.1,p.len,hn⟩
section
variable {h:Heap} {a:PA} {v:PV}
theorem d8n(P:Pool h a v)(Q:Value->Heap->Prop):r8 cp 49 [.pointer (some ⟨a.p,0,none⟩)] h Q↔Q (.int .i64 ((a.n:Int)-v.fl.length)) h:=by
 refine p6 ?_ Q
 rw[a8 cp e4w]
 obtain⟨tab,p,t⟩:=P.at_
 have op:=p.op
 have f:=fun Q=>Keys.st_used p.s.S Q
 simp(disch:=omega)only[c49,↓R49,op,f,D3,↓j0,l0,zA,zB,zC,zD,zE,zF,zG,zH,zI,reduceCtorEq,zJ,zK,zL,zM]
theorem d6F(P:Pool h a v)(Q:Value->Heap->Prop):r8 cp 141 [.pointer (some ⟨a.p,0,none⟩)] h Q↔Q (.bool (decide (v.fl=[]))) h:=by
 refine p6 ?_ Q
 rw[a8 cp e1U]
 obtain⟨tab,p,t⟩:=P.at_
 have op:=p.op
 have f:=fun Q=>d8n P Q
 have e1:((a.n:Int)-v.fl.length==(a.n:Int))=decide (v.fl=[]):=by
  cases hf:v.fl with
  |nil=>simp
  |cons x l=>simp only[yM,reduceCtorEq,decide_false];rw[beq_eq_false_iff_ne];omega
 simp(disch:=omega)only[d8D,↓e7s,op,f,e1,D3,↓j0,l0,zA,zB,zC,zD,zE,zF,zG,zH,zI,reduceCtorEq,zJ,zK,zL,zM]
theorem c9N(P:Pool h a v){key:ByteArray}(hs:key.size<=140737488355328){Q:Value->Heap->Prop}(hQ:∀h',Old h h' ->Q (.pointer ((plK a.n v.keys key).map fun k=>⟨a.cb,k*4,none⟩)) h'):
  r8 cp 139 [.pointer (some ⟨a.p,0,none⟩),.string key] h Q:=by
 rw[a8 cp e5P]
 obtain⟨tab,p,t⟩:=P.at_
 have op:=p.op
 have hn:=p.hn
 obtain⟨tt,L⟩:=t.look' key
 simp(disch:=omega)only[c5n,↓d9R,op,D3,↓j0,l0,zA,zB,zC,zD,zE,zF,zG,zH,zI,reduceCtorEq,zJ,zK,zL,zM]
 refine b0q p.i p.s P.row hn.2 t hs L fun h1 o1=>?_
 have op1:=(o1.obj a.p (P.lt _ (by simp[PA.own]))).trans op
 cases hq:plK a.n v.keys key with
 |none=>
  rw[hq]at hQ
  simp(disch:=omega)only[c5n,↓d9R,plc,c1F,op1,↓j0,l0,zA,zB,zC,zD,zE,zF,zG,zH,zI,reduceCtorEq,zJ,zK,zL,zM]
  exact hQ _ o1
 |some k=>
  rw[hq]at hQ
  have hk:=(F0 hq).1
  have k2:decide ((k:Int)>=0)=true:=decide_eq_true (by omega)
  simp(disch:=omega)only[c5n,↓d9R,plc,k2,op1,↓j0,l0,zA,zB,zC,zD,zE,zF,zG,zH,zI,reduceCtorEq,zJ,zK,zL,zM]
  exact hQ _ o1
abbrev c7R(c:D7):Value:=.agg (E4.enc c).toArray
theorem Z4(l:List D7){i:Nat}{c:D7}(h:l[i]? =some c):((E4.all l).drop (i*4)).take 4=E4.enc c:=E4.all_at l i c h
theorem b2k(l:List D7){i:Nat}(c:D7)(h:i<l.length):setAt (E4.all l) (i*4) (E4.enc c)=E4.all (l.set i c):=E4.all_set l i c h
theorem I7(l:List D7):(E4.all l).length=l.length*4:=E4.all_len l
theorem D6(c:D7):E4.enc c=[.int .i64 c.1,.int .i64 c.2.1,.int .i64 c.2.2.1,.int .i64 c.2.2.2]:=rfl
theorem b6c(P:Pool h a v){key:ByteArray}(hs:key.size<=64)(c:D7){k:Nat}{fl:List Nat}(hf:v.fl=k::fl)(hno:plK a.n v.keys key=none){Q:Value->Heap->Prop}
  (hQ:∀h',OldF (fun z=>z∈a.own) h h' ->Pool h' a ⟨Keys.kset v.keys k (some key),fl,v.cells.set k c⟩->Q (.pointer (some ⟨a.cb,k*4,none⟩)) h'):
  r8 cp 155 [.pointer (some ⟨a.p,0,none⟩),.string key,c7R c] h Q:=by
 rw[a8 cp e5L]
 have hok:=P.ok
 have hkn:k<a.n:=hok.flt k (by rw[hf];exact List.mem_cons_self)
 obtain⟨tab,p,t⟩:=P.at_
 have hn:=p.hn
 obtain⟨tt,L⟩:=t.look' key
 rw[hno]at L
 obtain⟨h1,h1d,o1,n1,g1⟩:=M8 h (.cells (E4.enc c) 250 .fix)
 have p1:=p.keep o1.next fun z hz=>o1.obj z (p.lt z hz)
 have op1:=p1.op
 have s1:=p1.s
 rw[hf]at s1
 have nd:=p.nd
 simp only[PA.own,List.nodup_cons,List.mem_cons,not_or]at nd
 obtain⟨⟨d1,d2,d3,d4⟩,⟨d5,d6,d7⟩,⟨d8,d9⟩,d10,d11⟩:=nd
 rw[D6]at h1d
 simp(disch:=omega)only[d1G,↓e5s,D6,<-h1d,op1,D3,↓j0,l0,zA,zB,zC,zD,zE,zF,zG,zH,zI,reduceCtorEq,zJ,zK,zL,zM]
 refine c2C p1.i s1 P.row hn.2 t hs L d9 d10 fun h2 o2 i2 s2 t2=>?_
 have own2:∀z,(z=a.tb\/z∈a.A)->z∈a.own:=fun z hz=>by
  rcases hz with rfl|hz
  ·simp[PA.own]
  ·simp[PA.own,hz]
 have op2:=(o2.obj a.p (by rw[n1];have:=p.lt a.p (by simp[PA.own]);omega) (by rintro(he|he);exact d3 he;exact d4 he)).trans op1
 have oc2:=(o2.obj a.cb (by rw[n1];have:=p.lt a.cb (by simp[PA.own]);omega) (by rintro(he|he);exact d6 he;exact d7 he)).trans p1.oc
 have hlt:=p.lt
 have g2:=(o2.obj h.next (by omega) (by rintro(he|he);have:=hlt a.tb (by simp[PA.own]);omega;have:=hlt h.next (by simp[PA.own,he]);omega)).trans g1
 have k2:decide ((k:Int)<0)=false:=decide_eq_false (by omega)
 have len:=p.len
 have cs:=b2k v.cells c (i:=k) (by omega)
 rw[D6]at g2 cs
 simp(disch:=omega)only[d1G,↓e5s,k2,op2,oc2,g2,cs,I7,len,↓j0,l0,zA,zB,zC,zD,zE,zF,zG,zH,zI,reduceCtorEq,zJ,zK,zL,zM]
 have o3:OldF (fun z=>z∈a.own) h (h2.upd a.cb (.cells (E4.all (v.cells.set k c)) 250 .grow)):=
  (o1.f _).trans ((o2.mono own2).trans (OldF.upd _ _ _ (by simp[PA.own])))
 refine hQ _ o3 ⟨⟨_,⟨?_,?_,?_,a9 _ _ _,by rw[List.length_set];exact len,p.nd,fun z hz=>yN (p.lt z hz) o3.next,hn⟩,t2⟩,P.row⟩
 ·rw[a6 _ _ d1];exact op2
 ·exact s2.keep (yP _) fun z hz=>a6 _ _ fun e=>d7 (e▸hz)
 ·exact i2.keep (yP _) (a6 _ _ (Ne.symm d5)) (a6 _ _ (Ne.symm d6))
theorem b5d(P:Pool h a v){key:ByteArray}(hs:key.size<=64){k:Nat}(hk:plK a.n v.keys key=some k){c:D7}(hc:v.cells[k]? =some c){Q:Value->Heap->Prop}
  (hQ:∀h',OldF (fun z=>z∈a.own) h h' ->Pool h' a ⟨Keys.kset v.keys k none,k::v.fl,v.cells⟩->Q (.tuple #[c7R c,.bool true]) h'):
  r8 cp 153 [.pointer (some ⟨a.p,0,none⟩),.string key] h Q:=by
 rw[a8 cp e5Z]
 have hok:=P.ok
 obtain⟨hkn,hkey⟩:=F0 hk
 obtain⟨tab,p,t⟩:=P.at_
 have hn:=p.hn
 obtain⟨tt,L⟩:=t.look' key
 rw[hk]at L
 obtain⟨h1,h1d,o1,n1,g1⟩:=M8 h (.cells (E4.enc (0,0,0,0)) 250 .fix)
 have p1:=p.keep o1.next fun z hz=>o1.obj z (p.lt z hz)
 have op1:=p1.op
 have nd:=p.nd
 simp only[PA.own,List.nodup_cons,List.mem_cons,not_or]at nd
 obtain⟨⟨d1,d2,d3,d4⟩,⟨d5,d6,d7⟩,⟨d8,d9⟩,d10,d11⟩:=nd
 rw[D6]at h1d
 simp(disch:=omega)only[d3E,↓e4M,<-h1d,op1,D3,↓j0,l0,zA,zB,zC,zD,zE,zF,zG,zH,zI,reduceCtorEq,zJ,zK,zL,zM]
 refine a6g p1.i p1.s P.row hn.2 t hs L d9 d10 fun h2 tab2 o2 i2 s2 t2=>?_
 have own2:∀z,(z=a.tb\/z∈a.A)->z∈a.own:=fun z hz=>by
  rcases hz with rfl|hz
  ·simp[PA.own]
  ·simp[PA.own,hz]
 have op2:=(o2.obj a.p (by rw[n1];have:=p.lt a.p (by simp[PA.own]);omega) (by rintro(he|he);exact d3 he;exact d4 he)).trans op1
 have oc2:=(o2.obj a.cb (by rw[n1];have:=p.lt a.cb (by simp[PA.own]);omega) (by rintro(he|he);exact d6 he;exact d7 he)).trans p1.oc
 have hlt:=p.lt
 have g2:=(o2.obj h.next (by omega) (by rintro(he|he);have:=hlt a.tb (by simp[PA.own]);omega;have:=hlt h.next (by simp[PA.own,he]);omega)).trans g1
 have k2:decide ((k:Int)<0)=false:=decide_eq_false (by omega)
 have len:=p.len
 have cr:=Z4 v.cells hc
 rw[D6]at g2
 rw[D6]at cr
 simp(disch:=omega)only[d3E,↓e4M,k2,op2,oc2,g2,cr,I7,len,setAt,List.set_cons_zero,List.set_cons_succ,a9,↓j0,l0,zA,zB,zC,zD,zE,zF,zG,zH,zI,reduceCtorEq,zJ,zK,zL,zM]
 have hx:∀z,z∈a.own->z≠h.next:=fun z hz e=>by have:=hlt z hz;omega
 have o3:=(o1.f _).trans (o2.mono own2)
 have o4:OldF (fun z=>z∈a.own) h (h2.upd h.next (.cells (E4.enc c) 250 .fix)):=⟨o3.next,fun b hb hbo=>by rw[a6 _ _ (by omega)];exact o3.obj b hb hbo⟩
 refine hQ _ o4 ⟨⟨tab2,⟨?_,?_,?_,?_,len,p.nd,fun z hz=>yN (p.lt z hz) o4.next,hn⟩,t2⟩,P.row⟩
 ·rw[a6 _ _ (hx _ (by simp[PA.own]))];exact op2
 ·exact s2.keep (yP _) fun z hz=>a6 _ _ (hx z (by simp[PA.own,hz]))
 ·exact i2.keep (yP _) (a6 _ _ (hx _ (by simp[PA.own]))) (a6 _ _ (hx _ (by simp[PA.own])))
 ·rw[a6 _ _ (hx _ (by simp[PA.own]))];exact oc2
end
end Go.Proofs.YtlakhgibjfmjjaaGreat.Can
namespace Go.Proofs.YtlakhgibjfmjjaaGreat.Can.Cl
open Go
def Small(z:Int):Prop:=0<=z/\z<=2306000000000000000
structure PaceOk(T W B L:Int):Prop where
 t1:1<=T
 t2:T<=256
 w1:1<=W
 w2:W<=256
 b1:1<=B
 bl:B<=L
 l2:L<=32
 unit:W<=T*(L+1-B)
 least:(T-1)*(L+1-B)<W
theorem bt_le{T W B L:Int}(h:PaceOk T W B L):1<=B*T/\B*T<=8192:=by
 obtain⟨t1,t2,w1,w2,b1,bl,l2,_,_⟩:=h
 refine⟨?_,?_⟩
 ·have:=Int.mul_le_mul b1 t1 (by omega) (by omega);omega
 ·have:=Int.mul_le_mul (show B<=32 by omega) t2 (by omega) (by omega);omega
def base(F T B now:Int):Int:=if 0<F-now then(if B*T<F-now then 0 else(B*T-(F-now)) / T)else B
def room(F S C U T W B L now:Int):Int:=if now<S+W then min (base F T B now) (max (L-(C+U)) 0)else base F T B now
theorem base_range{F T B now W L:Int}(h:PaceOk T W B L):0<=base F T B now/\base F T B now<=B:=by
 have hbt:=bt_le h
 have ht:=h.t1
 have hb:=h.b1
 unfold base
 split
 ·split
  ·omega
  ·refine⟨Int.ediv_nonneg (by omega) (by omega),?_⟩
   have:(B*T-(F-now)) / T<=B*T / T:=Int.ediv_le_ediv (by omega) (by omega)
   rw[Int.mul_ediv_cancel B (by omega)]at this
   exact this
 ·omega
theorem room_range{F S C U T W B L now:Int}(h:PaceOk T W B L):0<=room F S C U T W B L now/\room F S C U T W B L now<=B:=by
 have:= @base_range F T B now W L h
 unfold room
 split<;>omega
theorem base_take{F T B now c W L:Int}(h:PaceOk T W B L)(hc:1<=c)(hle:c<=base F T B now):base (max F now+c*T) T B now=base F T B now-c/\max F now+c*T<=now+B*T:=by
 have ht:=h.t1
 have hbt:=bt_le h
 have hcT:1<=c*T:=by have:=Int.mul_le_mul hc ht (by omega) (by omega);omega
 have key:∀a:Int,0<=a->a<=B*T->c<=(B*T-a) / T->c*T<=B*T-a/\(B*T-(a+c*T)) / T=(B*T-a) / T-c:=by
  intro a h0 h1 h2
  have h3:c*T<=B*T-a:=by
   have:=(Int.le_ediv_iff_mul_le (show 0<T by omega)).mp h2
   exact this
  refine⟨h3,?_⟩
  have e:B*T-(a+c*T)=(B*T-a)+(-c)*T:=by rw[Int.neg_mul];omega
  rw[e,Int.add_mul_ediv_right _ _ (by omega)];omega
 by_cases c1:0<F-now
 ·have hb:¬B*T<F-now:=fun hlt=>by
   have:base F T B now=0:=by unfold base;rw[if_pos c1,if_pos hlt]
   omega
  have he:base F T B now=(B*T-(F-now)) / T:=by unfold base;rw[if_pos c1,if_neg hb]
  rw[he]at hle
  obtain⟨k1,k2⟩:=key (F-now) (by omega) (by omega) hle
  rw[he]
  refine⟨?_,by omega⟩
  have hm:max F now=F:=by omega
  unfold base
  rw[hm,if_pos (by omega),if_neg (by omega),<-k2]
  congr 2;omega
 ·have he:base F T B now=B:=by unfold base;rw[if_neg c1]
  rw[he]at hle
  have hdiv:(B*T-0) / T=B:=by rw[Int.sub_zero,Int.mul_ediv_cancel B (by omega)]
  obtain⟨k1,k2⟩:=key 0 (by omega) (by omega) (by rw[hdiv];exact hle)
  rw[he]
  have hm:max F now=now:=by omega
  refine⟨?_,by omega⟩
  unfold base
  rw[hm,if_pos (by omega),if_neg (by omega)]
  rw[hdiv]at k2
  rw[<-k2]
  congr 2;omega
def lag(F T B now c:Int):Int:=max (max F now-(now+(B-c)*T)) 0
def wait(F S C U T W B L now c:Int):Int:=if now<S+W/\L<C+U+c then max (lag F T B now c) (S+W-now)else lag F T B now c
theorem bc_le{T W B L c:Int}(h:PaceOk T W B L)(hc1:1<=c)(hc2:c<=B):0<=(B-c)*T/\(B-c)*T<=8192:=by
 obtain⟨t1,t2,w1,w2,b1,bl,l2,_,_⟩:=h
 refine⟨yO (by omega) (by omega),?_⟩
 have:=Int.mul_le_mul (show B-c<=32 by omega) t2 (by omega) (by omega);omega
end Go.Proofs.YtlakhgibjfmjjaaGreat.Can.Cl
namespace Go.Proofs.YtlakhgibjfmjjaaGreat.Can.Cl
open Go
attribute [local congr] m9 l8 f7 f6 i7 l7 l9 s9 s7
theorem mm_min(x y:Int)(h:Heap):A0 (.minmax false [.int .i64 x,.int .i64 y]) h=some (.int .i64 (min x y),h):=by
 show(some (Value.int .i64 (if y<x then y else x))).map (fun v=>(v,h))=_
 rw[show(if y<x then y else x)=min x y by split<;>omega];rfl
theorem mm_max(x y:Int)(h:Heap):A0 (.minmax true [.int .i64 x,.int .i64 y]) h=some (.int .i64 (max x y),h):=by
 show(some (Value.int .i64 (if y>x then y else x))).map (fun v=>(v,h))=_
 rw[show(if y>x then y else x)=max x y by split<;>omega];rfl
structure OldX(X:Nat)(h h' :Heap):Prop where
 next:h.next<=h'.next
 obj:∀b,b<h.next->b≠X->h'.obj b=h.obj b
theorem Old.x{h h' :Heap}(o:Old h h')(X:Nat):OldX X h h' :=⟨o.next,fun b hb _=>o.obj b hb⟩
theorem OldX.trans{X:Nat}{a b c:Heap}(h:OldX X a b)(k:OldX X b c):OldX X a c:=⟨yR h.next k.next,fun x hx hn=>by rw[k.obj x (yN hx h.next) hn,h.obj x hx hn]⟩
theorem OldX.fresh{X:Nat}{a b:Heap}(h:OldX X a b)(hX:a.next<=X):Old a b:=⟨h.next,fun x hx=>h.obj x hx (by omega)⟩
abbrev cellC(F S C U:Int):List Value:=[.int .i64 F,.int .i64 S,.int .i64 C,.int .i64 U]
abbrev paceC(T W B L:Int):List Value:=[.int .i64 T,.int .i64 W,.int .i64 B,.int .i64 L]
abbrev b1n(L W B:Int):List Value:=[.int .i64 L,.int .i64 W,.int .i64 B,.int .i64 0,.int .i64 0,.int .i64 0,.int .i64 0,.int .i64 0,.bool false]
theorem tdiv_in(x T:Int)(ht:1<=T):(0<=x->Int.tdiv x T=x / T)/\(x<0->Int.tdiv x T<=0/\x<=Int.tdiv x T):=by
 refine⟨fun h=>Int.tdiv_eq_ediv_of_nonneg h,fun h=>?_⟩
 have e:Int.tdiv x T= -((-x) / T):=by
  have:x= -(-x):=by omega
  rw[this,Int.neg_tdiv,Int.tdiv_eq_ediv_of_nonneg (by omega)]
  simp
 have h0:0<=(-x) / T:=Int.ediv_nonneg (by omega) (by omega)
 have h1:(-x) / T<= -x:=Int.ediv_le_self T (by omega)
 omega
theorem pace_of{L W B:Int}(w1:1<=W)(w2:W<=256)(b1:1<=B)(bl:B<=L)(l2:L<=32):PaceOk (Q6 W (L+1-B)) W B L:=by
 obtain⟨d,hd⟩:∃d,d=L+1-B:=⟨_,rfl⟩
 rw[<-hd]
 have e:=Int.ediv_mul_add_emod W d
 have r0:=Int.emod_nonneg W (show d≠0 by omega)
 have r1:=Int.emod_lt_of_pos W (show 0<d by omega)
 have q0:0<=W / d:=Int.ediv_nonneg (by omega) (by omega)
 have q1:W / d<=W:=Int.ediv_le_self d (by omega)
 unfold Q6
 by_cases c:W % d=0
 ·rw[if_pos c]
  have q2:1<=W / d:=by
   rcases Int.lt_or_eq_of_le q0 with h|h
   ·omega
   ·rw[<-h]at e;omega
  refine⟨q2,by omega,w1,w2,b1,bl,l2,?_,?_⟩
  ·rw[<-hd];omega
  ·rw[<-hd,Int.sub_mul];omega
 ·rw[if_neg c]
  have q3:W / d<W\/d=1:=by
   by_cases h1:d=1
   ·exact .inr h1
   ·exact .inl (Int.ediv_lt_self_of_pos_of_ne_one (by omega) h1)
  have q4:W / d+1<=256:=by
   rcases q3 with h|h
   ·omega
   ·subst h;omega
  refine⟨by omega,q4,w1,w2,b1,bl,l2,?_,?_⟩
  ·rw[<-hd,Int.add_mul];omega
  ·rw[<-hd,show W / d+1-1=W / d by omega];omega
theorem cnew_ok(h:Heap)(now c:Int){Q:Value->Heap->Prop}(hQ:∀h',Old h h' ->Q (.agg (cellC now now c 0).toArray) h'):r8 cp 142 [.int .i64 now,.int .i64 c] h Q:=by
 rw[a8 cp e4c]
 simp(disch:=first|omega| (simp only[f4,l6,ne_eq];omega))only[d8Q,↓e7l,↓j0,l0,zA,zB,zC,zD,zE,zF,zG,zH,zI,reduceCtorEq,zJ,zK,zL,zM]
 exact hQ _ ((Old.refl h).put _ _)
section
variable {T W B L F S C U now:Int}
theorem young_ok(h:Heap)(p:PaceOk T W B L)(hS:Small S){Q:Value->Heap->Prop}(hQ:∀h',Old h h' ->Q (.bool (decide (now<S+W))) h'):
  r8 cp 156 [.agg (cellC F S C U).toArray,.agg (paceC T W B L).toArray,.int .i64 now] h Q:=by
 rw[a8 cp e3a]
 have w1:=p.w1
 have w2:=p.w2
 unfold Small at hS
 have f:=fun h=>N1 h S W (by unfold C2;omega) (by unfold C2;omega)
 rw[P0 (show C2 (S+W) by unfold C2;omega)]at f
 simp(disch:=first|omega| (simp only[f4,l6,ne_eq];omega))only[d8v,↓e8n,f,↓j0,l0,zA,zB,zC,zD,zE,zF,zG,zH,zI,reduceCtorEq,zJ,zK,zL,zM]
 exact hQ _ (((Old.refl h).more _).more _)
theorem room_ok(h:Heap)(p:PaceOk T W B L)(hF:Small F)(hS:Small S)(hC:Small C)(hU:Small U)(hn:Small now){Q:Value->Heap->Prop}(hQ:∀h',Old h h' ->Q (.int .i64 (room F S C U T W B L now)) h'):
  r8 cp 134 [.agg (cellC F S C U).toArray,.agg (paceC T W B L).toArray,.int .i64 now] h Q:=by
 rw[a8 cp e5z]
 have bt:=bt_le p
 have t1:=p.t1
 have t2:=p.t2
 have b1:=p.b1
 have bl:=p.bl
 have l2:=p.l2
 have br:= @base_range F T B now W L p
 have rr:= @room_range F S C U T W B L now p
 have hF' :=hF
 have hC' :=hC
 have hU' :=hU
 have hn' :=hn
 unfold Small at hF' hC' hU' hn'
 have nT:(T=0)=False:=by simp;omega
 have f:=fun h=>N1 h C U (by unfold C2;omega) (by unfold C2;omega)
 rw[P0 (show C2 (C+U) by unfold C2;omega)]at f
 have o1:Old h ((h.new (.cells (cellC F S C U) 250 .fix)).new (.cells (paceC T W B L) 126 .fix)):=((Old.refl h).more _).more _
 have g1:((h.new (.cells (cellC F S C U) 250 .fix)).new (.cells (paceC T W B L) 126 .fix)).obj h.next=.cells (cellC F S C U) 250 .fix:=by rw[b7 _ _ (by simp only[f4];omega)];exact b8 _ _
 have g2:((h.new (.cells (cellC F S C U) 250 .fix)).new (.cells (paceC T W B L) 126 .fix)).obj (h.next+1)=.cells (paceC T W B L) 126 .fix:=b8 _ _
 have n1:((h.new (.cells (cellC F S C U) 250 .fix)).new (.cells (paceC T W B L) 126 .fix)).next=h.next+1+1:=rfl
 have tail:∀(e:a7) (b:Int) (hh:Heap),Old h hh->hh.obj h.next=.cells (cellC F S C U) 250 .fix->hh.obj (h.next+1)=.cells (paceC T W B L) 126 .fix->h.next+1<hh.next->b=base F T B now->
   e 2=.int .i64 now->e 3=.pointer (some ⟨h.next,0,none⟩)->e 4=.pointer (some ⟨h.next+1,0,none⟩)->e 7=.int .i64 b->
   r8 cp 156 [.agg #[.int .i64 F,.int .i64 S,.int .i64 C,.int .i64 U],.agg #[.int .i64 T,.int .i64 W,.int .i64 B,.int .i64 L],.int .i64 now] hh
    (a0D cp (fun t38=>Reg.done (e.upd 38 t38)) (a5V cp (.cond (fun e=>e 38) (.region b0c) .skip) (a5V cp (.seq (.region b1e) .ret) (a2w [.t 6] Q)))):=by
  intro e b hh o g1 g2 n1 hb e2 e3 e4 e7
  refine young_ok hh p hS fun h3 o3=>?_
  have g3:=(o3.obj h.next (by omega)).trans g1
  have g4:=(o3.obj (h.next+1) n1).trans g2
  by_cases y:now<S+W
  ·have a1:=decide_eq_true y
   have re:room F S C U T W B L now=min b (max (L-(C+U)) 0):=by unfold room;rw[if_pos y,hb]
   rw[re]at hQ rr
   simp(disch:=first|omega| (simp only[f4,l6,ne_eq];omega))only[b1i,↓d5T,e2,e3,e4,e7,g3,g4,a1,f,↓mm_max,↓mm_min,↓j0,l0,zA,zB,zC,zD,zE,zF,zG,zH,zI,reduceCtorEq,zJ,zK,zL,zM]
   exact hQ _ (o.trans o3)
  ·have a1:=decide_eq_false y
   have re:room F S C U T W B L now=b:=by unfold room;rw[if_neg y,hb]
   rw[re]at hQ
   simp(disch:=first|omega| (simp only[f4,l6,ne_eq];omega))only[b1i,↓d5T,e2,e3,e4,e7,g3,g4,a1,↓j0,l0,zA,zB,zC,zD,zE,zF,zG,zH,zI,reduceCtorEq,zJ,zK,zL,zM]
   exact hQ _ (o.trans o3)
 by_cases c1:F-now>0
 ·have a1:=decide_eq_true c1
  have td:=tdiv_in (B*T-(F-now)) T t1
  obtain⟨q,hq⟩:∃q,q=Int.tdiv (B*T-(F-now)) T:=⟨_,rfl⟩
  rw[<-hq]at td
  have qd:0<=B*T-(F-now)->(B*T-(F-now)) / T<=B*T-(F-now)/\0<=(B*T-(F-now)) / T:=fun h=>⟨Int.ediv_le_self T h,Int.ediv_nonneg h (by omega)⟩
  have qi: -9000000000000000000<=q/\q<=9000000000000000000:=by
   by_cases z:0<=B*T-(F-now)
   ·have:=qd z;rw[td.1 z];omega
   ·have:=td.2 (by omega);omega
  by_cases c2:B*T<F-now
  ·have a2:=decide_eq_true c2
   simp(disch:=first|omega| (simp only[f4,l6,ne_eq];omega))only[b1i,↓d5T,a1,a2,nT,<-hq,↓mm_max,↓j0,l0,zA,zB,zC,zD,zE,zF,zG,zH,zI,reduceCtorEq,zJ,zK,zL,zM]
   refine tail _ 0 _ o1 g1 g2 (by omega) ?_ rfl rfl rfl rfl
   unfold base;rw[if_pos (by omega),if_pos c2]
  ·have a2:=decide_eq_false c2
   simp(disch:=first|omega| (simp only[f4,l6,ne_eq];omega))only[b1i,↓d5T,a1,a2,nT,<-hq,↓mm_max,↓j0,l0,zA,zB,zC,zD,zE,zF,zG,zH,zI,reduceCtorEq,zJ,zK,zL,zM]
   refine tail _ (max q 0) _ o1 g1 g2 (by omega) ?_ rfl rfl rfl rfl
   unfold base;rw[if_pos (by omega),if_neg c2]
   have:=qd (by omega);rw[td.1 (by omega)];omega
 ·have a1:=decide_eq_false c1
  simp(disch:=first|omega| (simp only[f4,l6,ne_eq];omega))only[b1i,↓d5T,a1,nT,↓j0,l0,zA,zB,zC,zD,zE,zF,zG,zH,zI,reduceCtorEq,zJ,zK,zL,zM]
  refine tail _ B _ o1 g1 g2 (by omega) ?_ rfl rfl rfl rfl
  unfold base;rw[if_neg (by omega)]
theorem cwait_ok(h:Heap)(p:PaceOk T W B L)(hF:Small F)(hS:Small S)(hC:Small C)(hU:Small U)(hn:Small now){c:Int}(hc1:1<=c)(hc2:c<=B){Q:Value->Heap->Prop}(hQ:∀h',Old h h' ->Q (.int .i64 (wait F S C U T W B L now c)) h'):
  r8 cp 133 [.agg (cellC F S C U).toArray,.agg (paceC T W B L).toArray,.int .i64 now,.int .i64 c] h Q:=by
 rw[a8 cp e1V]
 have bc:=bc_le p hc1 hc2
 have w1:=p.w1
 have w2:=p.w2
 have bl:=p.bl
 have l2:=p.l2
 have hF' :=hF
 have hS' :=hS
 have hC' :=hC
 have hU' :=hU
 have hn' :=hn
 unfold Small at hF' hS' hC' hU' hn'
 have f1:=fun h=>N1 h C U (by unfold C2;omega) (by unfold C2;omega)
 rw[P0 (show C2 (C+U) by unfold C2;omega)]at f1
 have f2:=fun h=>N1 h (C+U) c (by unfold C2;omega) (by unfold C2;omega)
 rw[P0 (show C2 (C+U+c) by unfold C2;omega)]at f2
 have el:lag F T B now c=max (max F now-(now+(B-c)*T)) 0:=rfl
 simp(disch:=first|omega| (simp only[f4,l6,ne_eq];omega))only[b5j,↓d8T,↓mm_max,↓j0,l0,zA,zB,zC,zD,zE,zF,zG,zH,zI,reduceCtorEq,zJ,zK,zL,zM]
 refine young_ok _ p hS fun h3 o3=>?_
 have g1:=(o3.obj h.next (by simp only[f4];omega)).trans ((b7 _ _ (by simp only[f4];omega)).trans (b8 _ _))
 have g2:=(o3.obj (h.next+1) (by simp only[f4];omega)).trans (b8 _ _)
 have q1:((h.new (.cells (cellC F S C U) 250 .fix)).new (.cells (paceC T W B L) 126 .fix)).obj h.next=.cells (cellC F S C U) 250 .fix:=(b7 _ _ (by simp only[f4];omega)).trans (b8 _ _)
 have q2:((h.new (.cells (cellC F S C U) 250 .fix)).new (.cells (paceC T W B L) 126 .fix)).obj (h.next+1)=.cells (paceC T W B L) 126 .fix:=b8 _ _
 have o3:=(((Old.refl h).more _).more _).trans o3
 by_cases y:now<S+W
 ·have a1:=decide_eq_true y
  by_cases q:C+U+c>L
  ·have a2:=decide_eq_true q
   have e:wait F S C U T W B L now c=max (max (max F now-(now+(B-c)*T)) 0) (S+W-now):=by unfold wait;rw[if_pos ⟨y,q⟩,el]
   rw[e]at hQ
   simp(disch:=first|omega| (simp only[f4,l6,ne_eq];omega))only[b5j,↓d8T,g1,g2,q1,q2,a1,a2,f1,f2,↓mm_max,↓j0,l0,zA,zB,zC,zD,zE,zF,zG,zH,zI,reduceCtorEq,zJ,zK,zL,zM]
   exact hQ _ o3
  ·have a2:=decide_eq_false q
   have e:wait F S C U T W B L now c=max (max F now-(now+(B-c)*T)) 0:=by unfold wait;rw[if_neg (fun k=>q k.2),el]
   rw[e]at hQ
   simp(disch:=first|omega| (simp only[f4,l6,ne_eq];omega))only[b5j,↓d8T,g1,g2,q1,q2,a1,a2,f1,f2,↓mm_max,↓j0,l0,zA,zB,zC,zD,zE,zF,zG,zH,zI,reduceCtorEq,zJ,zK,zL,zM]
   exact hQ _ o3
 ·have a1:=decide_eq_false y
  have e:wait F S C U T W B L now c=max (max F now-(now+(B-c)*T)) 0:=by unfold wait;rw[if_neg (fun k=>y k.1),el]
  rw[e]at hQ
  simp(disch:=first|omega| (simp only[f4,l6,ne_eq];omega))only[b5j,↓d8T,g1,g2,q1,q2,a1,↓mm_max,↓j0,l0,zA,zB,zC,zD,zE,zF,zG,zH,zI,reduceCtorEq,zJ,zK,zL,zM]
  exact hQ _ o3
end
def bdN(F S U T W L now:Int):Int:=if now<S+W then min U L else min (max (Int.tdiv (F-(now-W)) T) 0) L
section
variable {T W B L F S C U now:Int}
theorem bound_ok(h:Heap)(p:PaceOk T W B L)(hF:Small F)(hS:Small S)(hU:Small U)(hn:Small now){Q:Value->Heap->Prop}(hQ:∀h',Old h h' ->Q (.int .i64 (bdN F S U T W L now)) h'):
  r8 cp 154 [.agg (cellC F S C U).toArray,.agg (paceC T W B L).toArray,.int .i64 now] h Q:=by
 rw[a8 cp e2Q]
 have w1:=p.w1
 have w2:=p.w2
 have nT:(T=0)=False:=by simp;have:=p.t1;omega
 have td:=tdiv_in (F-(now-W)) T p.t1
 obtain⟨q,hq⟩:∃q,q=Int.tdiv (F-(now-W)) T:=⟨_,rfl⟩
 rw[<-hq]at td
 unfold Small at hF hU hn
 have qi: -9000000000000000000<=q/\q<=9000000000000000000:=by
  by_cases z:0<=F-(now-W)
  ·have h1:=Int.ediv_le_self T z
   have h2:=Int.ediv_nonneg z (show 0<=T by have:=p.t1;omega)
   rw[td.1 z];omega
  ·have:=td.2 (by omega);omega
 simp(disch:=first|omega| (simp only[f4,l6,ne_eq];omega))only[c6N,↓d9W,↓j0,l0,zA,zB,zC,zD,zE,zF,zG,zH,zI,reduceCtorEq,zJ,zK,zL,zM]
 refine young_ok _ p hS fun h3 o3=>?_
 have g1:=(o3.obj h.next (by simp only[f4];omega)).trans ((b7 _ _ (by simp only[f4];omega)).trans (b8 _ _))
 have g2:=(o3.obj (h.next+1) (by simp only[f4];omega)).trans (b8 _ _)
 have o3:=(((Old.refl h).more _).more _).trans o3
 unfold bdN at hQ
 rw[<-hq]at hQ
 by_cases y:now<S+W
 ·have a1:=decide_eq_true y
  rw[if_pos y]at hQ
  simp(disch:=first|omega| (simp only[f4,l6,ne_eq];omega))only[c6N,↓d9W,g1,g2,a1,↓mm_min,↓j0,l0,zA,zB,zC,zD,zE,zF,zG,zH,zI,reduceCtorEq,zJ,zK,zL,zM]
  exact hQ _ o3
 ·have a1:=decide_eq_false y
  rw[if_neg y]at hQ
  simp(disch:=first|omega| (simp only[f4,l6,ne_eq];omega))only[c6N,↓d9W,g1,g2,a1,nT,<-hq,↓mm_min,↓mm_max,↓j0,l0,zA,zB,zC,zD,zE,zF,zG,zH,zI,reduceCtorEq,zJ,zK,zL,zM]
  exact hQ _ o3
theorem idle_ok(h:Heap)(p:PaceOk T W B L)(hS:Small S)(hn:Small now){Q:Value->Heap->Prop}(hQ:∀h',Old h h' ->Q (.bool (decide (¬now<S+W/\F<=now-W))) h'):
  r8 cp 163 [.agg (cellC F S C U).toArray,.agg (paceC T W B L).toArray,.int .i64 now] h Q:=by
 rw[a8 cp e5N]
 have w1:=p.w1
 have w2:=p.w2
 unfold Small at hn
 simp(disch:=first|omega| (simp only[f4,l6,ne_eq];omega))only[c163,↓d9j,↓j0,l0,zA,zB,zC,zD,zE,zF,zG,zH,zI,reduceCtorEq,zJ,zK,zL,zM]
 refine young_ok _ p hS fun h3 o3=>?_
 have g1:=(o3.obj h.next (by simp only[f4];omega)).trans ((b7 _ _ (by simp only[f4];omega)).trans (b8 _ _))
 have g2:=(o3.obj (h.next+1) (by simp only[f4];omega)).trans (b8 _ _)
 have o3:=(((Old.refl h).more _).more _).trans o3
 by_cases y:now<S+W
 ·have a1:=decide_eq_true y
  rw[decide_eq_false (fun k=>k.1 y)]at hQ
  simp(disch:=first|omega| (simp only[f4,l6,ne_eq];omega))only[c163,↓d9j,g1,g2,a1,↓j0,l0,zA,zB,zC,zD,zE,zF,zG,zH,zI,reduceCtorEq,zJ,zK,zL,zM]
  exact hQ _ o3
 ·have a1:=decide_eq_false y
  by_cases z:F<=now-W
  ·have a2:=decide_eq_true z
   rw[decide_eq_true ⟨y,z⟩]at hQ
   simp(disch:=first|omega| (simp only[f4,l6,ne_eq];omega))only[c163,↓d9j,g1,g2,a1,a2,↓j0,l0,zA,zB,zC,zD,zE,zF,zG,zH,zI,reduceCtorEq,zJ,zK,zL,zM]
   exact hQ _ o3
  ·have a2:=decide_eq_false z
   rw[decide_eq_false (fun k=>z k.2)]at hQ
   simp(disch:=first|omega| (simp only[f4,l6,ne_eq];omega))only[c163,↓d9j,g1,g2,a1,a2,↓j0,l0,zA,zB,zC,zD,zE,zF,zG,zH,zI,reduceCtorEq,zJ,zK,zL,zM]
   exact hQ _ o3
end
end Go.Proofs.YtlakhgibjfmjjaaGreat.Can.Cl
namespace Go.Proofs.YtlakhgibjfmjjaaGreat.Can
open Go
attribute [local congr] m9 l8 f7 f6 i7 l7 l9 s9 s7
theorem c0A(l:List D7){k:Nat}{c:D7}(h:l[k]? =some c):(E4.all l)[k*4]? =some (.int .i64 c.1)/\(E4.all l)[k*4+1]? =some (.int .i64 c.2.1)/\(E4.all l)[k*4+2]? =some (.int .i64 c.2.2.1)/\(E4.all l)[k*4+3]? =some (.int .i64 c.2.2.2):=by
 have h4:=Z4 l h
 rw[D6]at h4
 have g:∀j,j<4->(E4.all l)[k*4+j]? =[Value.int .i64 c.1,.int .i64 c.2.1,.int .i64 c.2.2.1,.int .i64 c.2.2.2][j]? :=fun j hj=>by
  rw[<-h4,List.getElem?_take,if_pos hj,List.getElem?_drop]
 exact⟨g 0 (by omega),g 1 (by omega),g 2 (by omega),g 3 (by omega)⟩
theorem c7w(l:List D7){k:Nat}{F S C U F' U' :Int}(h:l[k]? =some (F,S,C,U)):((E4.all l).set (k*4) (.int .i64 F')).set (k*4+3) (.int .i64 U')=E4.all (l.set k (F',S,C,U')):=by
 have hk:=(List.getElem?_eq_some_iff.1 h).1
 rw[<-b2k l (F',S,C,U') hk,D6]
 obtain⟨_,g1,g2,_⟩:=c0A l h
 have e1:((E4.all l).set (k*4) (.int .i64 F')).set (k*4+1) (.int .i64 S)=(E4.all l).set (k*4) (.int .i64 F'):=by
  apply List.ext_getElem?
  intro j
  rw[List.getElem?_set]
  split
  ·rename_i hj;subst hj;rw[yI (by omega),g1];rw[if_pos];rw[List.length_set];exact(List.getElem?_eq_some_iff.1 g1).1
  ·rfl
 have e2:((E4.all l).set (k*4) (.int .i64 F')).set (k*4+2) (.int .i64 C)=(E4.all l).set (k*4) (.int .i64 F'):=by
  apply List.ext_getElem?
  intro j
  rw[List.getElem?_set]
  split
  ·rename_i hj;subst hj;rw[yI (by omega),g2];rw[if_pos];rw[List.length_set];exact(List.getElem?_eq_some_iff.1 g2).1
  ·rfl
 simp only[setAt]
 rw[show k*4+1+1=k*4+2 from rfl,show k*4+2+1=k*4+3 from rfl,e1,e2]
open Cl
section
variable {h:Heap} {a:PA} {v:PV} {T W B L F S C U now:Int}
theorem d0l(P:Pool h a v){k:Nat}(hk:v.cells[k]? =some (F,S,C,U))(p:PaceOk T W B L)(hF:Small F)(hS:Small S)(hC:Small C)(hU:Small U)(hn:Small now)(c:Int)(hc1:1<=c)(hc:¬c<=room F S C U T W B L now){Q:Value->Heap->Prop}(hQ:∀h',Old h h' ->Q (.bool false) h'):
  r8 cp 132 [.pointer (some ⟨a.cb,k*4,none⟩),.agg (paceC T W B L).toArray,.int .i64 now,.int .i64 c] h Q:=by
 rw[a8 cp d9v]
 obtain⟨tab,p0,t⟩:=P.at_
 have oc:=p0.oc
 have lt:=p0.lt a.cb (by simp[PA.own])
 have xn:a.cb≠h.next:=by omega
 have cr:=Z4 v.cells hk
 rw[D6]at cr
 have len:=p0.len
 have hkl:=(List.getElem?_eq_some_iff.1 hk).1
 have a1:decide (c<1)=false:=decide_eq_false (by omega)
 have a2:decide (c>room F S C U T W B L now)=true:=decide_eq_true (by omega)
 simp(disch:=first|omega| (simp only[f4,l6,ne_eq];omega))only[b5i,↓d8N,a1,oc,cr,I7,↓j0,l0,zA,zB,zC,zD,zE,zF,zG,zH,zI,reduceCtorEq,zJ,zK,zL,zM]
 refine Cl.room_ok _ p hF hS hC hU hn fun h1 o1=>?_
 simp(disch:=first|omega| (simp only[f4,l6,ne_eq];omega))only[b5i,↓d8N,a1,a2,oc,↓j0,l0,zA,zB,zC,zD,zE,zF,zG,zH,zI,reduceCtorEq,zJ,zK,zL,zM]
 exact hQ _ (((Old.refl h).more _).trans o1)
theorem c6W(P:Pool h a v){k:Nat}(hk:v.cells[k]? =some (F,S,C,U))(p:PaceOk T W B L)(hF:Small F)(hS:Small S)(hC:Small C)(hU:Small U)(hn:Small now)(c:Int)(hc1:1<=c)(hc:c<=room F S C U T W B L now){Q:Value->Heap->Prop}
  (hQ:∀h',OldF (fun z=>z∈a.own) h h' ->Pool h' a { v with cells:=v.cells.set k (max F now+c*T,S,C,U+c) }->Q (.bool true) h'):
  r8 cp 132 [.pointer (some ⟨a.cb,k*4,none⟩),.agg (paceC T W B L).toArray,.int .i64 now,.int .i64 c] h Q:=by
 rw[a8 cp d9v]
 obtain⟨tab,p0,t⟩:=P.at_
 have oc:=p0.oc
 have lt:=p0.lt a.cb (by simp[PA.own])
 have xn:a.cb≠h.next:=by omega
 have cr:=Z4 v.cells hk
 rw[D6]at cr
 have len:=p0.len
 have hkl:=(List.getElem?_eq_some_iff.1 hk).1
 obtain⟨w0,w1,w2,w3⟩:=c0A v.cells hk
 have rr:= @room_range F S C U T W B L now p
 have bl:=p.bl
 have l2:=p.l2
 have t1:=p.t1
 have cT:0<=c*T/\c*T<=32*256:=⟨yO (by omega) (by omega),Int.mul_le_mul (by omega) p.t2 (by omega) (by omega)⟩
 have a1:decide (c<1)=false:=decide_eq_false (by omega)
 have a2:decide (c>room F S C U T W B L now)=false:=decide_eq_false (by omega)
 simp(disch:=first|omega| (simp only[f4,l6,ne_eq];omega))only[b5i,↓d8N,a1,oc,cr,I7,↓j0,l0,zA,zB,zC,zD,zE,zF,zG,zH,zI,reduceCtorEq,zJ,zK,zL,zM]
 refine Cl.room_ok _ p hF hS hC hU hn fun h1 o1=>?_
 have g1:=(o1.obj a.cb (by simp only[f4];omega)).trans ((b7 _ _ xn).trans oc)
 have g2:=(o1.obj h.next (Nat.lt_succ_self _)).trans (b8 _ _)
 have n1:=o1.next
 simp only[f4]at n1
 have hF' :=hF
 have hU' :=hU
 have hn' :=hn
 unfold Small at hF' hU' hn'
 have f:=fun h=>N1 h U c (by unfold C2;omega) (by unfold C2;omega)
 rw[P0 (show C2 (U+c) by unfold C2;omega)]at f
 have w3' :((E4.all v.cells).set (k*4) (.int .i64 (max F now+c*T)))[k*4+3]? =some (.int .i64 U):=by rw[yI (by omega)];exact w3
 have es:=c7w v.cells (F' :=max F now+c*T) (U' :=U+c) hk
 simp(disch:=first|omega| (simp only[f4,l6,ne_eq];omega))only[b5i,↓d8N,a1,a2,g1,g2,f,w0,w3,w3',I7,List.length_set,C5,Nat.zero_add,Nat.add_zero,↓mm_max,D3,↓j0,l0,zA,zB,zC,zD,zE,zF,zG,zH,zI,reduceCtorEq,zJ,zK,zL,zM]
 rw[es]
 have nd:=p0.nd
 simp only[PA.own,List.nodup_cons,List.mem_cons,not_or]at nd
 obtain⟨⟨d1,d2,d3,d4⟩,⟨d5,d6,d7⟩,_⟩:=nd
 have oA:Old h h1:=((Old.refl h).more _).trans o1
 have p1:=p0.keep oA.next fun z hz=>oA.obj z (p0.lt z hz)
 refine hQ _ ((oA.f _).trans ((OldF.upd _ _ _ (by simp[PA.own])).trans (OldF.upd _ _ _ (by simp[PA.own])))) ⟨⟨tab,⟨?_,?_,?_,a9 _ _ _,by rw[List.length_set];exact len,p0.nd,p1.lt,p0.hn⟩,t⟩,P.row⟩
 ·rw[a6 _ _ d1,a6 _ _ d1];exact p1.op
 ·refine p1.s.keep (yP _) fun z hz=>?_
  have hz2:z≠a.cb:=fun e=>d7 (e▸hz)
  rw[a6 _ _ hz2,a6 _ _ hz2]
 ·refine p1.i.keep (yP _) ?_ ?_
  ·rw[a6 _ _ (Ne.symm d5),a6 _ _ (Ne.symm d5)]
  ·rw[a6 _ _ (Ne.symm d6),a6 _ _ (Ne.symm d6)]
end
end Go.Proofs.YtlakhgibjfmjjaaGreat.Can
namespace Go.Proofs.YtlakhgibjfmjjaaGreat.Can
open Go
def Lim{α:Type}(x:Option α)(xs:Nat->Option α):Prop:=∀r,x=some r->∃n,xs n=some r
def d1s(c:v8)(cn:Nat->v8):Prop:=∀t a h,Lim (c t a h) fun n=>cn n t a h
def e4d(cn:Nat->v8):Prop:=∀n m,n<=m->LeC (cn n) (cn m)
def c1J(y:YF)(ys:Nat->YF):Prop:=∀a h,Lim (y a h) fun n=>ys n a h
def b9r(ys:Nat->YF):Prop:=∀n m,n<=m->c5B (ys n) (ys m)
def e0C(cy:Nat->YF->v8)(cyn:Nat->Nat->YF->v8):Prop:=∀b y ys,b9r ys->c1J y ys->d1s (cy b y) fun n=>cyn n b (ys n)
def e6N(cyn:Nat->Nat->YF->v8):Prop:=∀n m,n<=m->LeY (cyn n) (cyn m)
theorem b1h{c:v8}{cn:Nat->v8}(hc:d1s c cn)(o:COp)(h:Heap):Lim (F2 c o h) fun n=>F2 (cn n) o h:=by
 intro r hr
 unfold F2 at hr ⊢
 split at hr
 ·exact hc _ _ _ _ hr
 ·exact hc _ _ _ _ hr
 ·exact hc _ _ _ _ hr
 ·exact⟨0,hr⟩
theorem d8i{c:v8}{cn:Nat->v8}(hm:e4d cn)(hc:d1s c cn)(l:Reg):∀h,Lim (J5 c l h) fun n=>J5 (cn n) l h:=by
 induction l with
 |done e=>intro h r hr;exact⟨0,hr⟩
 |op o k ih=>
  intro h r hr
  simp only[J5]at hr ⊢
  cases hx:F2 c o h with
  |none=>rw[hx]at hr;exact absurd hr (by simp)
  |some y=>
   rw[hx]at hr
   obtain⟨n,hn⟩:=b1h hc o h _ hx
   obtain⟨m,hm2⟩:=ih _ _ _ hr
   exact⟨max n m,by rw[a0G (hm n _ (Nat.le_max_left n m)) _ _ _ hn];exact a0y (hm m _ (Nat.le_max_right n m)) _ _ _ hm2⟩
 |opg g w o k ih=>
  intro h r hr
  simp only[J5]at hr ⊢
  cases hw:Q7 g w with
  |none=>rw[hw]at hr;exact absurd hr (by simp)
  |some b=>
   rw[hw]at hr
   cases b with
   |true=>
    simp only at hr ⊢
    cases hx:F2 c o h with
    |none=>rw[hx]at hr;exact absurd hr (by simp)
    |some y=>
     rw[hx]at hr
     obtain⟨n,hn⟩:=b1h hc o h _ hx
     obtain⟨m,hm2⟩:=ih _ _ _ hr
     exact⟨max n m,by rw[a0G (hm n _ (Nat.le_max_left n m)) _ _ _ hn];exact a0y (hm m _ (Nat.le_max_right n m)) _ _ _ hm2⟩
   |false=>exact ih _ _ _ hr
 |snap k ih=>intro h r hr;simp only[J5]at hr ⊢;exact ih _ _ _ hr
 |chk g hj o v k ih=>
  intro h r hr
  simp only[J5]at hr ⊢
  split at hr
  ·rename_i hx
   obtain⟨n,hn⟩:=ih _ _ hr
   exact⟨n,by rw[if_pos hx];exact hn⟩
  ·exact absurd hr (by simp)
abbrev a6e:=a7->Heap->Option (X×a7×Heap)
def d7Z(f:a6e)(fs:Nat->a6e):Prop:=∀e h,Lim (f e h) fun n=>fs n e h
def e0G(fs:Nat->a6e):Prop:=∀n m,n<=m->∀e h,LeO (fs n e h) (fs m e h)
theorem d0q{f:a6e}{fs:Nat->a6e}(hm:e0G fs)(hf:d7Z f fs):∀N e h,Lim (U0 f N e h) fun n=>U0 (fs n) N e h:=by
 intro N
 induction N with
 |zero=>intro e h r hr;exact absurd hr (by simp[U0])
 |succ N ih=>
  intro e h r hr
  simp only[U0]at hr ⊢
  cases hx:f e h with
  |none=>rw[hx]at hr;exact absurd hr (by simp)
  |some y=>
   rw[hx]at hr
   obtain⟨n,hn⟩:=hf _ _ _ hx
   obtain⟨x,e',h'⟩:=y
   cases x with
   |normal=>
    obtain⟨m,hm2⟩:=ih _ _ _ hr
    exact⟨max n m,by rw[hm n _ (Nat.le_max_left n m) _ _ _ hn];exact Y6 (hm m _ (Nat.le_max_right n m)) N N (yP _) _ _ _ hm2⟩
   |exit i=>exact⟨n,by(try dsimp only at hn ⊢);rw[hn];exact hr⟩
   |ret=>exact⟨n,by(try dsimp only at hn ⊢);rw[hn];exact hr⟩
theorem b4T{fa fb:a6e}{fas fbs:Nat->a6e}(hma:e0G fas)(hmb:e0G fbs)(ha:d7Z fa fas)(hb:d7Z fb fbs)(b:Nat)(ps:List Nat)(e1:a7):c1J (I9 fa fb b ps e1) fun n=>I9 (fas n) (fbs n) b ps e1:=by
 intro a h r hr
 unfold I9 at hr ⊢
 split at hr
 ·rename_i hc
  split at hr
  ·rename_i e2 h2 hx
   split at hr
   ·rename_i hq
    split at hr
    ·rename_i x e3 h3 hy
     obtain⟨n,hn⟩:=ha _ _ _ hx
     obtain⟨m,hm⟩:=hb _ _ _ hy
     exact⟨max n m,by dsimp only;rw[if_pos hc,hma n _ (Nat.le_max_left n m) _ _ _ hn];simp only;rw[if_pos hq,hmb m _ (Nat.le_max_right n m) _ _ _ hm];exact hr⟩
    ·simp at hr
   ·simp at hr
  ·simp at hr
 ·simp at hr
theorem c6n{cy:Nat->YF->v8}{cyn:Nat->Nat->YF->v8}(hc:e0C cy cyn){y:YF}{ys:Nat->YF}(hm:b9r ys)(hy:c1J y ys)(b:Nat)(g:Value)(h:Heap):Lim (W6 cy y b g h) fun n=>W6 (cyn n) (ys n) b g h:=by
 intro r hr
 unfold W6 at hr ⊢
 split at hr
 ·exact hc _ _ _ hm hy _ _ _ _ hr
 ·simp at hr
theorem d8x{c:v8}{cn:Nat->v8}(hm:e4d cn)(hc:d1s c cn){cy:Nat->YF->v8}{cyn:Nat->Nat->YF->v8}(hmy:e6N cyn)(hcy:e0C cy cyn)(N:Nat)(x:CC):
  d7Z (B7 c cy N x) fun n=>B7 (cn n) (cyn n) N x:=by
 have mon:∀x n m,n<=m->∀e h,LeO (B7 (cn n) (cyn n) N x e h) (B7 (cn m) (cyn m) N x e h):=fun x n m h e hh=>a1Q (hm n m h) (hmy n m h) (yP N) x e hh
 induction x with
 |skip=>intro e h r hr;exact⟨0,hr⟩
 |region ops=>
  intro e h r hr
  simp only[B7,yD]at hr ⊢
  obtain⟨a,ha,rfl⟩:=hr
  obtain⟨n,hn⟩:=d8i hm hc _ _ _ ha
  exact⟨n,a,hn,rfl⟩
 |seq a b iha ihb=>
  intro e h r hr
  simp only[B7]at hr ⊢
  cases hx:B7 c cy N a e h with
  |none=>rw[hx]at hr;exact absurd hr (by simp)
  |some y=>
   rw[hx]at hr
   obtain⟨n,hn⟩:=iha _ _ _ hx
   obtain⟨x,e',h'⟩:=y
   cases x with
   |normal=>
    obtain⟨m,hm2⟩:=ihb _ _ _ hr
    exact⟨max n m,by rw[mon a n _ (Nat.le_max_left n m) _ _ _ hn];exact mon b m _ (Nat.le_max_right n m) _ _ _ hm2⟩
   |exit i=>exact⟨n,by(try dsimp only at hn ⊢);rw[hn];exact hr⟩
   |ret=>exact⟨n,by(try dsimp only at hn ⊢);rw[hn];exact hr⟩
 |cond t a b iha ihb=>
  intro e h r hr
  simp only[B7]at hr
  split at hr
  ·rename_i heq;obtain⟨n,hn⟩:=iha _ _ _ hr;exact⟨n,by simp only[B7,heq];exact hn⟩
  ·rename_i heq;obtain⟨n,hn⟩:=ihb _ _ _ hr;exact⟨n,by simp only[B7,heq];exact hn⟩
  ·exact absurd hr (by simp)
 |block id b ih=>
  intro e h r hr
  simp only[B7]at hr ⊢
  cases hx:B7 c cy N b e h with
  |none=>rw[hx]at hr;exact absurd hr (by simp)
  |some y=>rw[hx]at hr;obtain⟨n,hn⟩:=ih _ _ _ hx;exact⟨n,by(try dsimp only at hn ⊢);rw[hn];exact hr⟩
 |loop b ih=>intro e h;exact d0q (fs:=fun n=>B7 (cn n) (cyn n) N b) (mon b) ih N e h
 |exit id=>intro e h r hr;exact⟨0,hr⟩
 |ret=>intro e h r hr;exact⟨0,hr⟩
 |bad=>intro e h r hr;exact⟨0,hr⟩
 |dfr pre g caps post iha ihb=>
  intro e h r hr
  simp only[B7]at hr ⊢
  cases hx:B7 c cy N pre e h with
  |none=>rw[hx]at hr;exact absurd hr (by simp)
  |some y=>
   rw[hx]at hr
   obtain⟨n,hn⟩:=iha _ _ _ hx
   obtain⟨x,e',h'⟩:=y
   cases x with
   |normal=>
    simp only at hr ⊢
    cases hy:B7 c cy N post e' h' with
    |none=>rw[hy]at hr;exact absurd hr (by simp)
    |some z=>
     rw[hy]at hr
     obtain⟨m,hm2⟩:=ihb _ _ _ hy
     obtain⟨x2,e2,h2⟩:=z
     have fin:∀r',(c (.fn g) (caps e') h2).map (fun r=>(X.ret,e2,r.2))=some r' ->∃k,n<=k/\m<=k/\((cn k) (.fn g) (caps e') h2).map (fun r=>(X.ret,e2,r.2))=some r' :=fun r' hr' =>by
      simp only[yD]at hr' ⊢
      obtain⟨a,ha,hb⟩:=hr'
      obtain⟨k,hk⟩:=hc _ _ _ _ ha
      exact⟨max (max n m) k,by omega,by omega,a,hm k _ (by omega) _ _ _ _ hk,hb⟩
     cases x2 with
     |exit i=>simp at hr
     |normal=>obtain⟨k,k1,k2,k3⟩:=fin _ hr;exact⟨k,by rw[mon pre n k k1 _ _ _ hn];simp only;rw[mon post m k k2 _ _ _ hm2];exact k3⟩
     |ret=>obtain⟨k,k1,k2,k3⟩:=fin _ hr;exact⟨k,by rw[mon pre n k k1 _ _ _ hn];simp only;rw[mon post m k k2 _ _ _ hm2];exact k3⟩
   |exit i=>exact⟨n,by(try dsimp only at hn ⊢);rw[hn];exact hr⟩
   |ret=>exact⟨n,by(try dsimp only at hn ⊢);rw[hn];exact hr⟩
 |rng pre id g ps asg body post iha ihb ihc ihd=>
  intro e h r hr
  simp only[B7]at hr ⊢
  cases hx:B7 c cy N pre e h with
  |none=>rw[hx]at hr;exact absurd hr (by simp)
  |some y=>
   rw[hx]at hr
   obtain⟨n,hn⟩:=iha _ _ _ hx
   obtain⟨x,e',h'⟩:=y
   cases x with
   |normal=>
    simp only at hr ⊢
    have rmon:b9r fun n=>I9 (B7 (cn n) (cyn n) N asg) (B7 (cn n) (cyn n) N body) h'.next ps e' :=fun n m hl=>a0j (mon asg n m hl) (mon body n m hl) _ _ _
    cases hy:W6 cy (I9 (B7 c cy N asg) (B7 c cy N body) h'.next ps e') h'.next (g e') (h'.new (.loop 0 none))with
    |none=>rw[hy]at hr;exact absurd hr (by simp)
    |some z=>
     rw[hy]at hr
     obtain⟨m,hm2⟩:=c6n hcy rmon (b4T (fas:=fun n=>B7 (cn n) (cyn n) N asg) (fbs:=fun n=>B7 (cn n) (cyn n) N body) (mon asg) (mon body) ihb ihc _ _ _) _ _ _ _ hy
     obtain⟨v2,h2⟩:=z
     dsimp only at hr
     have go:∀k,n<=k->m<=k->(match a1d id (h2.obj h'.next)with
       |some .normal=>B7 (cn k) (cyn k) N post e' (h2.upd h'.next .gone)
       |some .ret=>some (.ret,e',h2.upd h'.next .gone)
       |_=>none)=some r->(match B7 (cn k) (cyn k) N pre e h with
       |some (.normal,e1,h1)=>match W6 (cyn k) (I9 (B7 (cn k) (cyn k) N asg) (B7 (cn k) (cyn k) N body) h1.next ps e1) h1.next (g e1) (h1.new (.loop 0 none))with
        |some (_,h2)=>match a1d id (h2.obj h1.next)with
         |some .normal=>B7 (cn k) (cyn k) N post e1 (h2.upd h1.next .gone)
         |some .ret=>some (.ret,e1,h2.upd h1.next .gone)
         |_=>none
        |none=>none
       |some (.ret,e1,h1)=>some (.ret,e1,h1)
       |_=>none)=some r:=fun k k1 k2 k3=>by
      rw[mon pre n k k1 _ _ _ hn];simp only
      rw[a6f (hmy m k k2) (rmon m k k2) _ _ _ _ hm2]
      exact k3
     cases hl:a1d id (h2.obj h'.next)with
     |none=>rw[hl]at hr;simp at hr
     |some q=>
      rw[hl]at hr
      cases q with
      |normal=>
       obtain⟨k,hk⟩:=ihd _ _ _ hr
       exact⟨max (max n m) k,go _ (by omega) (by omega) (by rw[hl];exact mon post k _ (by omega) _ _ _ hk)⟩
      |ret=>exact⟨max n m,go _ (by omega) (by omega) (by rw[hl];exact hr)⟩
      |exit i=>simp at hr
   |exit i=>simp at hr
   |ret=>exact⟨n,by(try dsimp only at hn ⊢);rw[hn];exact hr⟩
theorem d9m:∀(k:Nat) {D:CProg} {Dn:Nat->CProg},(∀n,(Dn n).fn=D.fn)->(∀n m,n<=m->LeP (Dn n) (Dn m))->(∀b a h,Lim (ylF D b a h) fun n=>ylF (Dn n) b a h)->d1s (N6 D k) fun n=>N6 (Dn n) k:=by
 intro k
 induction k with
 |zero=>intro D Dn _ _ _ t a h r hr;exact absurd hr (by simp[N6])
 |succ k ih=>
  intro D Dn hfn hle hyl t a h r hr
  cases t with
  |yl b=>
   rw[a1v]at hr
   obtain⟨n,hn⟩:=hyl _ _ _ _ hr
   exact⟨n,by dsimp only;rw[a1v];exact hn⟩
  |fn f=>
   rw[Z0]at hr
   cases hf:D f with
   |none=>rw[hf]at hr;simp at hr
   |some fn=>
    rw[hf]at hr
    simp only at hr
    cases hx:B7 (N6 D k) (cyF D k) k fn.body (R9 a) h with
    |none=>rw[hx]at hr;simp at hr
    |some y=>
     have hcy:e0C (cyF D k) fun n=>cyF (Dn n) k:=fun b y ys hm hl=>ih (D:=D.put b y) (Dn:=fun n=>(Dn n).put b (ys n)) hfn (fun n m h=>(hle n m h).put b (hm n m h)) fun c a h r hr=>by
      unfold ylF CProg.put at hr ⊢
      simp only at hr ⊢
      split at hr
      ·rename_i hc
       obtain⟨n,hn⟩:=hl _ _ _ hr
       exact⟨n,by rw[if_pos hc];exact hn⟩
      ·simp at hr
     obtain⟨n,hn⟩:=d8x (fun n m h=>evF_mono' (yP k) (hle n m h)) (ih hfn hle hyl) (fun n m h=>a5i (yP k) (hle n m h)) hcy k fn.body _ _ _ hx
     refine⟨n,?_⟩
     dsimp only
     rw[Z0,show(Dn n) f=D f from congrFun (hfn n) f,hf]
     simp only
     (try dsimp only at hn)
     rw[hn]
     rw[hx]at hr
     exact hr
section
variable (CP:CProg)
noncomputable def yAt (b:Nat) (ps:List Nat) (e1:a7) (asg body:CC) (n:Nat):YF:=I9 (B7 (N6 CP n) (cyF CP n) n asg) (B7 (N6 CP n) (cyF CP n) n body) b ps e1
theorem a3T(b:Nat)(ps:List Nat)(e1:a7)(asg body:CC):b9r (yAt CP b ps e1 asg body):=fun n m h=>a0j (D8 CP h asg) (D8 CP h body) b ps e1
open Classical in
noncomputable def a4I (b:Nat) (ps:List Nat) (e1:a7) (asg body:CC):YF:=fun args h=>
 if hx:∃r,∃n,yAt CP b ps e1 asg body n args h=some r then some hx.choose else none
theorem d4w(b:Nat)(ps:List Nat)(e1:a7)(asg body:CC):c1J (a4I CP b ps e1 asg body) (yAt CP b ps e1 asg body):=by
 intro a h r hr
 unfold a4I at hr
 split at hr
 ·rename_i hx
  obtain rfl:=yA hr
  exact hx.choose_spec
 ·simp at hr
theorem d8A{b:Nat}{ps:List Nat}{e1:a7}{asg body:CC}{n:Nat}{args:List Value}{h:Heap}{r:Value×Heap}(hr:yAt CP b ps e1 asg body n args h=some r):a4I CP b ps e1 asg body args h=some r:=by
 have hx:∃r,∃n,yAt CP b ps e1 asg body n args h=some r:=⟨r,n,hr⟩
 unfold a4I
 rw[dif_pos hx]
 obtain⟨m,hm⟩:=hx.choose_spec
 have h1:=a3T CP b ps e1 asg body n _ (Nat.le_max_left n m) _ _ _ hr
 have h2:=a3T CP b ps e1 asg body m _ (Nat.le_max_right n m) _ _ _ hm
 rw[h1]at h2
 exact h2.symm
def a9O(id:Nat)(post:CC)(e1:a7)(b:Nat)(Q:y7)(h2:Heap):Prop:=match a1d id (h2.obj b)with
 |some .normal=>F9 CP post e1 (h2.upd b .gone) Q
 |some .ret=>Q .ret e1 (h2.upd b .gone)
 |_=>False
def b1R(y:YF)(b:Nat)(g:Value)(h:Heap)(R:Heap->Prop):Prop:=match g with
 | .func (.func f) first captured=>r8 (CP.put b y) f (first.toList++[.func (.yield b) #[] #[]]++captured.toList) h fun _ h2=>R h2
 |_=>False
def e4T(id:Nat)(g:a7->Value)(ps:List Nat)(asg body post:CC)(Q:y7):y7
 | .normal,e1,h1=>b1R CP (a4I CP h1.next ps e1 asg body) h1.next (g e1) (h1.new (.loop 0 none)) (a9O CP id post e1 h1.next Q)
 | .ret,e1,h1=>Q .ret e1 h1
 | .exit _,_,_=>False
theorem b1E(pre:CC)(id:Nat)(g:a7->Value)(ps:List Nat)(asg body post:CC)(e:a7)(h:Heap)(Q:y7)(hr:F9 CP pre e h (e4T CP id g ps asg body post Q)):F9 CP (.rng pre id g ps asg body post) e h Q:=by
 obtain⟨n,x,e1,h1,hx,hq⟩:=hr
 cases x with
 |exit i=>exact hq.elim
 |ret=>exact⟨n,_,_,_,by simp only[B7,hx],hq⟩
 |normal=>
  have hq:b1R CP (a4I CP h1.next ps e1 asg body) h1.next (g e1) (h1.new (.loop 0 none)) (a9O CP id post e1 h1.next Q):=hq
  unfold b1R at hq
  split at hq
  case h_2=>exact hq.elim
  rename_i f first captured hg
  obtain⟨k,v,h2,hc,hq⟩:=hq
  obtain⟨m,hm⟩:=d9m k (D:=CP.put h1.next (a4I CP h1.next ps e1 asg body)) (Dn:=fun n=>CP.put h1.next (yAt CP h1.next ps e1 asg body n)) (fun _=>rfl) (fun n m h=>(LeP.refl CP).put _ (a3T CP _ _ _ _ _ n m h)) (fun c a h r hr=>by
   unfold ylF CProg.put at hr ⊢
   simp only at hr ⊢
   split at hr
   ·rename_i hc
    obtain⟨n,hn⟩:=d4w CP _ _ _ _ _ _ _ _ hr
    exact⟨n,by rw[if_pos hc];exact hn⟩
   ·simp at hr) _ _ _ _ hc
  have run:∀N,n<=N->k<=N->m<=N->∀r,(match a1d id (h2.obj h1.next)with
    |some .normal=>B7 (N6 CP N) (cyF CP N) N post e1 (h2.upd h1.next .gone)
    |some .ret=>some (.ret,e1,h2.upd h1.next .gone)
    |_=>none)=some r->B7 (N6 CP N) (cyF CP N) N (.rng pre id g ps asg body post) e h=some r:=fun N k1 k2 k3 r hr=>by
   simp only[B7]
   rw[D8 CP k1 _ _ _ _ hx]
   simp only
   have:W6 (cyF CP N) (I9 (B7 (N6 CP N) (cyF CP N) N asg) (B7 (N6 CP N) (cyF CP N) N body) h1.next ps e1) h1.next (g e1) (h1.new (.loop 0 none))=some (v,h2):=by
    unfold W6
    rw[hg]
    exact evF_mono' k2 ((LeP.refl CP).put _ (a3T CP _ _ _ _ _ m N k3)) _ _ _ _ hm
   rw[this]
   exact hr
  unfold a9O at hq
  split at hq
  ·rename_i hl
   obtain⟨j,x2,e2,h3,hj,hq⟩:=hq
   refine⟨max (max n k) (max m j),x2,e2,h3,run _ (by omega) (by omega) (by omega) _ ?_,hq⟩
   rw[hl]
   exact D8 CP (by omega) _ _ _ _ hj
  ·rename_i hl
   exact⟨max (max n k) m,.ret,e1,_,run _ (by omega) (by omega) (by omega) _ (by rw[hl]),hq⟩
  ·exact hq.elim
theorem a9w{C:CProg}{b:Nat}{ps:List Nat}{e1:a7}{asg body:CC}{args:List Value}{h:Heap}{R:Value->Heap->Prop}(hlen:args.length=ps.length)(hready:a2f (h.obj b)=true)
  (hr:F9 CP asg (a3c e1 ps args) h fun x e2 h2=>x=.normal/\a2f (h2.obj b)=true/\F9 CP body e2 (h2.upd b (.loop 1 none)) fun x3 _ h3=>b3g (h3.obj b)=true/\R (.bool (decide (x3=.normal))) (h3.upd b (if x3=.normal then .loop 0 none else .loop 2 (some x3)))):
  a2h (C.put b (a4I CP b ps e1 asg body)) b args h R:=by
 obtain⟨n,x,e2,h2,hx,rfl,hr2,m,x3,e3,h3,hy,hb,hR⟩:=hr
 have:a4I CP b ps e1 asg body args h=some (.bool (decide (x3=.normal)),h3.upd b (if x3=.normal then .loop 0 none else .loop 2 (some x3))):=by
  refine d8A CP (n:=max n m) ?_
  unfold yAt I9
  rw[if_pos ⟨hlen,hready⟩,D8 CP (Nat.le_max_left n m) _ _ _ _ hx]
  simp only
  rw[if_pos hr2,D8 CP (Nat.le_max_right n m) _ _ _ _ hy]
  simp only
  rw[if_pos hb]
 unfold a2h ylF CProg.put
 simp only[if_true,this]
 exact hR
end
theorem d1l{CP:CProg}(hy:CP.yl=none){b:Nat}{y:YF}{f:FuncId}{args:List Value}{h:Heap}{Q:Value->Heap->Prop}(c:r8 CP f args h Q):r8 (CP.put b y) f args h Q:=by
 obtain⟨n,v,h1,he,hq⟩:=c
 exact⟨n,v,h1,evF_mono' (C:=CP) (D:=CP.put b y) (yP n) ⟨rfl,fun c z hz=>by rw[hy]at hz;cases hz⟩ _ _ _ _ he,hq⟩
end Go.Proofs.YtlakhgibjfmjjaaGreat.Can
namespace Go.Proofs.YtlakhgibjfmjjaaGreat.Can
open Go
attribute [local congr] m9 l8 f7 f6 i7 l7 l9 s9 s7
theorem d9Z{b:Nat}{y:YF}{f:FuncId}{fn:CFn}(h:cp f=some fn):(cp.put b y) f=some fn:=h
theorem c4s{b:Nat}{y:YF}{f:FuncId}{args:List Value}{h:Heap}{u:Value}(c:∀Q,r8 cp f args h Q↔Q u h)(Q:Value->Heap->Prop):r8 (cp.put b y) f args h Q↔Q u h:=
 p6 (d1l rfl ((c _).2 ⟨rfl,rfl⟩)) Q
theorem d5W{CP:CProg}{id:Nat}{post:CC}{e:a7}{b:Nat}{Q:y7}{h:Heap}(q:Q .ret e ((h.upd b (.loop 2 (some .ret))).upd b .gone)):a9O CP id post e b Q (h.upd b (.loop 2 (some .ret))):=by
 unfold a9O
 rw[a9]
 exact q
theorem b1s{CP:CProg}{id:Nat}{post:CC}{e:a7}{b:Nat}{Q:y7}{h:Heap}(hb:h.obj b=.loop 0 none)(q:F9 CP post e (h.upd b .gone) Q):a9O CP id post e b Q h:=by
 unfold a9O
 rw[hb]
 exact q
theorem a2h.mono{C:CProg}{b:Nat}{args:List Value}{h:Heap}{Q Q' :Value->Heap->Prop}(r:a2h C b args h Q)(hq:∀v h,Q v h->Q' v h):a2h C b args h Q' :=by
 unfold a2h at r ⊢
 split at r
 ·exact hq _ _ r
 ·exact r.elim
section
variable {h:Heap} {a:PA} {v:PV}
theorem b8m(P:Pool h a v){b:Nat}{y:YF}{J:Nat->Heap->Prop}{Q:Heap->Prop}(hJ0:J 0 h)(hJo:∀i hh hh',J i hh->Old hh hh' ->J i hh')(hJP:∀i hh,J i hh->Pool hh a v)
  (hskip:∀i hh,i<a.n->v.keys i=none->J i hh->J (i+1) hh)
  (hstep:∀i hh key c,i<a.n->v.keys i=some key->v.cells[i]? =some c->J i hh->a2h (cp.put b y) b [.string key,c7R c] hh fun r h' =>(r=.bool true/\J (i+1) h')\/(r=.bool false/\Q h'))
  (hend:∀hh,J a.n hh->Q hh):r8 (cp.put b y) 162 [.pointer (some ⟨a.p,0,none⟩),.func (.yield b) #[] #[]] h fun _ h' =>Q h' :=by
 rw[a8 (cp.put b y) (d9Z e2m)]
 obtain⟨tab,p,t⟩:=P.at_
 have op:=p.op
 simp(disch:=omega)only[b0E,↓c5P,op,D3,↓j0,l0,zA,zB,zC,zD,zE,zF,zG,zH,zI,reduceCtorEq,zJ,zK,zL,zM]
 refine y6 (cp.put b y) Y8 _ (fun d e hh=>∃i,i+d=a.n/\J i hh/\e 0=.pointer (some ⟨a.p,0,none⟩)/\e 1=.func (.yield b) #[] #[]/\e 13=.slice (some ⟨a.cb,0,none⟩) a.n a.n/\e 14=.int .i64 a.n/\e 15=.int .i64 i) ?_ a.n _ _
  ⟨0,by omega,hJ0,rfl,rfl,rfl,rfl,rfl⟩
 rintro d e hh ⟨i,hid,hJ,e0,e1,e13,e14,e15⟩
 by_cases hin:i<a.n
 ·have b1:decide ((i:Int)<(a.n:Int))=true:=decide_eq_true (by omega)
  have nx:(i:Int)+1=((i+1:Nat):Int):=by omega
  obtain⟨tab',p',t'⟩:=(hJP i hh hJ).at_
  have hn:=p'.hn
  have len:=p'.len
  obtain⟨c,hc⟩:∃c,v.cells[i]? =some c:=⟨_,yF (by omega)⟩
  have cr:=Z4 v.cells hc
  rw[D6]at cr
  obtain⟨h1,h1d,o1,_,g1⟩:=Z1 hh (.cells [.int .i64 0,.int .i64 0,.int .i64 0,.int .i64 0] 250 .fix) (.cells (E4.enc c) 250 .fix)
  have J1:=hJo i hh h1 hJ o1
  obtain⟨tab1,p1,t1⟩:=(hJP i h1 J1).at_
  have op1:=p1.op
  have oc:=p'.oc
  rw[D6]at h1d g1
  cases hk:v.keys i with
  |none=>
   have nok:Keys.NoKey a.n v.keys (i:Int):=fun k hk' hkn=>by
    have:k=i:=by omega
    rw[this];exact hk
   have fk:=fun Q=>c4s (b:=b) (y:=y) (fun Q=>Keys.st_key_no p1.s.S nok Q) Q
   have s0:=hskip i h1 hin hk J1
   simp(disch:=omega)only[Y8,b0E,↓c5P,e0,e1,e13,e14,e15,b1,oc,cr,I7,len,setAt,List.set_cons_zero,List.set_cons_succ,<-h1d,op1,fk,nx,D3,↓j0,l0,zA,zB,zC,zD,zE,zF,zG,zH,zI,reduceCtorEq,zJ,zK,zL,zM]
   exact⟨d-1,by omega,i+1,by omega,s0,rfl⟩
  |some key=>
   have fk:=fun Q=>c4s (b:=b) (y:=y) (fun Q=>Keys.st_key p1.s.S hin hk Q) Q
   simp(disch:=omega)only[Y8,b0E,↓c5P,e0,e1,e13,e14,e15,b1,oc,cr,I7,len,setAt,List.set_cons_zero,List.set_cons_succ,<-h1d,op1,g1,fk,nx,D3,c5W,↓j0,l0,zA,zB,zC,zD,zE,zF,zG,zH,zI,reduceCtorEq,zJ,zK,zL,zM]
   refine(hstep i h1 key c hin hk hc J1).mono fun r h2 hr=>?_
   rcases hr with⟨rfl,J2⟩| ⟨rfl,hq⟩
   ·simp(disch:=omega)only[Y8,b0E,↓c5P,e0,e1,e13,e14,e15,nx,↓j0,l0,zA,zB,zC,zD,zE,zF,zG,zH,zI,reduceCtorEq,zJ,zK,zL,zM]
    exact⟨d-1,by omega,i+1,by omega,J2,rfl⟩
   ·simp(disch:=omega)only[Y8,b0E,↓c5P,e0,e1,e13,e14,e15,nx,↓j0,l0,zA,zB,zC,zD,zE,zF,zG,zH,zI,reduceCtorEq,zJ,zK,zL,zM]
    exact hq
 ·have b1:decide ((i:Int)<(a.n:Int))=false:=decide_eq_false (by omega)
  obtain rfl:i=a.n:=by omega
  simp(disch:=omega)only[Y8,b0E,↓c5P,e0,e1,e13,e14,e15,b1,↓j0,l0,zA,zB,zC,zD,zE,zF,zG,zH,zI,reduceCtorEq,zJ,zK,zL,zM]
  exact hend _ hJ
def b3B(W now:Int)(c:D7):Bool:=decide (¬now<c.2.1+W/\c.1<=now-W)
def a0f(W now:Int)(v:PV):Nat->Nat->Option ByteArray
 |_,0=>none
 |i,d+1=>match v.keys i,v.cells[i]? with
  |some key,some c=>if b3B W now c then some key else a0f W now v (i+1) d
  |_,_=>a0f W now v (i+1) d
def c7M(r:Option ByteArray):Value:=.tuple #[.string (r.getD .empty),.bool r.isSome]
open Cl in
theorem c9Q(P:Pool h a v){T W B L now:Int}(p:PaceOk T W B L)(hsm:∀(i:Nat) (c:D7),v.cells[i]? =some c->Small c.2.1)(hn:Small now){Q:Value->Heap->Prop}(hQ:∀h',Old h h' ->Q (c7M (a0f W now v 0 a.n)) h'):
  r8 cp 140 [.pointer (some ⟨a.p,0,none⟩),.agg (paceC T W B L).toArray,.int .i64 now] h Q:=by
 rw[a8 cp e3o]
 refine b1E cp _ _ _ _ _ _ _ _ _ _ ?_
 obtain⟨h1,h1d⟩:∃h1,h1=(((h.new (.cells (paceC T W B L) 126 .fix)).new (.cells [.int .i64 now] 2 .fix)).new (.cells [.string ⟨#[]⟩] 9 .fix)).new (.cells [.bool false] 4 .fix):=⟨_,rfl⟩
 have o1:Old h h1:=by rw[h1d];exact((((Old.refl h).more _).more _).more _).more _
 simp(disch:=omega)only[b0f,↓c5C,<-h1d,↓j0,l0,zA,zB,zC,zD,zE,zF,zG,zH,zI,reduceCtorEq,zJ,zK,zL,zM]
 have n1:h1.next=h.next+4:=by rw[h1d];rfl
 have q0:h1.obj h.next=.cells (paceC T W B L) 126 .fix:=by
  rw[h1d,b7 _ _ (by simp only[f4];omega),b7 _ _ (by simp only[f4];omega),b7 _ _ (by simp only[f4];omega)];exact b8 _ _
 have q1:h1.obj (h.next+1)=.cells [.int .i64 now] 2 .fix:=by
  rw[h1d,b7 _ _ (by simp only[f4];omega),b7 _ _ (by simp only[f4];omega)];exact b8 _ _
 have q2:h1.obj (h.next+2)=.cells [.string ⟨#[]⟩] 9 .fix:=by
  rw[h1d,b7 _ _ (by simp only[f4];omega)];exact b8 _ _
 have q3:h1.obj (h.next+3)=.cells [.bool false] 4 .fix:=by
  rw[h1d];exact b8 _ _
 generalize he1:((((((R9 _).upd 4 _).upd 5 _).upd 6 _).upd 7 _).upd 11 _:a7)=e1
 have e4:e1 4=.pointer (some ⟨h.next,0,none⟩):=by rw[<-he1];rfl
 have e5:e1 5=.pointer (some ⟨h.next+1,0,none⟩):=by rw[<-he1];rfl
 have e6:e1 6=.pointer (some ⟨h.next+2,0,none⟩):=by rw[<-he1];rfl
 have e7:e1 7=.pointer (some ⟨h.next+3,0,none⟩):=by rw[<-he1];rfl
 have e11:e1 11=.func (.func 162) #[.pointer (some ⟨a.p,0,none⟩)] #[]:=by rw[<-he1];rfl
 clear he1
 obtain⟨h2,h2d,o2,n2,ql⟩:=M8 h1 (.loop 0 none)
 have P2:=P.old (o1.trans o2)
 show b1R cp (a4I cp h1.next [12,13] e1 b5x a5j) h1.next (e1 11) (h1.new (.loop 0 none)) _
 rw[e11,<-h2d]
 refine(b8m P2 (b:=h1.next) (Q:=fun hh=>a9O cp 0 b4A e1 h1.next (a2w [.c 6 none,.c 7 none] Q) hh)
  (J:=fun i hh=>Pool hh a v/\Old h hh/\h1.next<hh.next/\hh.obj h.next=.cells (paceC T W B L) 126 .fix/\hh.obj (h.next+1)=.cells [.int .i64 now] 2 .fix/\hh.obj (h.next+2)=.cells [.string ⟨#[]⟩] 9 .fix/\hh.obj (h.next+3)=.cells [.bool false] 4 .fix/\
   hh.obj h1.next=.loop 0 none/\a0f W now v 0 a.n=a0f W now v i (a.n-i)) ?_ ?_ ?_ ?_ ?_ ?_)
 ·exact⟨P2,o1.trans o2,by omega,(o2.obj _ (by omega)).trans q0,(o2.obj _ (by omega)).trans q1,(o2.obj _ (by omega)).trans q2,(o2.obj _ (by omega)).trans q3,ql,rfl⟩
 ·rintro i hh hh' ⟨j1,j2,j3,j4,j5,j6,j7,j8,j9⟩ o
  exact⟨j1.old o,j2.trans o,yN j3 o.next,(o.obj _ (by omega)).trans j4,(o.obj _ (by omega)).trans j5,(o.obj _ (by omega)).trans j6,(o.obj _ (by omega)).trans j7,(o.obj _ (by omega)).trans j8,j9⟩
 ·exact fun i hh j=>j.1
 ·rintro i hh hi hk ⟨j1,j2,j3,j4,j5,j6,j7,j8,j9⟩
  refine⟨j1,j2,j3,j4,j5,j6,j7,j8,j9.trans ?_⟩
  rw[show a.n-i=(a.n-(i+1))+1 by omega,a0f,hk]
 ·rintro i hh key c hi hk hc ⟨j1,j2,j3,j4,j5,j6,j7,j8,j9⟩
  rw[show a.n-i=(a.n-(i+1))+1 by omega,a0f,hk,hc]at j9
  simp only at j9
  refine a9w cp rfl (by rw[j8];rfl) ?_
  obtain⟨h3,h3d,o3,n3,g3⟩:=Z1 hh (.cells [.int .i64 0,.int .i64 0,.int .i64 0,.int .i64 0] 250 .fix) (.cells (E4.enc c) 250 .fix)
  rw[D6]at h3d g3
  simp(disch:=omega)only[b5x,b0f,↓c5C,a3c,D6,setAt,List.set_cons_zero,List.set_cons_succ,<-h3d,↓j0,l0,zA,zB,zC,zD,zE,zF,zG,zH,zI,reduceCtorEq,zJ,zK,zL,zM]
  have k8:=(o3.obj h1.next (by omega)).trans j8
  refine⟨by rw[k8];rfl,?_⟩
  obtain⟨h4,h4d⟩:∃h4,h4=h3.upd h1.next (.loop 1 none):=⟨_,rfl⟩
  have n4:h4.next=hh.next+1:=by rw[h4d];exact n3
  have k4:h4.obj h.next=.cells (paceC T W B L) 126 .fix:=by rw[h4d,a6 _ _ (by omega)];exact(o3.obj _ (by omega)).trans j4
  have k5:h4.obj (h.next+1)=.cells [.int .i64 now] 2 .fix:=by rw[h4d,a6 _ _ (by omega)];exact(o3.obj _ (by omega)).trans j5
  have k6:h4.obj (h.next+2)=.cells [.string ⟨#[]⟩] 9 .fix:=by rw[h4d,a6 _ _ (by omega)];exact(o3.obj _ (by omega)).trans j6
  have k7:h4.obj (h.next+3)=.cells [.bool false] 4 .fix:=by rw[h4d,a6 _ _ (by omega)];exact(o3.obj _ (by omega)).trans j7
  have k9:h4.obj hh.next=.cells [.int .i64 c.1,.int .i64 c.2.1,.int .i64 c.2.2.1,.int .i64 c.2.2.2] 250 .fix:=by rw[h4d,a6 _ _ (by omega)];exact g3
  have kb:h4.obj h1.next=.loop 1 none:=by rw[h4d];exact a9 _ _ _
  rw[<-h4d]
  simp(disch:=omega)only[a5j,b0f,↓c5C,e4,e5,k4,k5,k9,List.drop_zero,List.take_succ_cons,List.take_zero,↓j0,l0,zA,zB,zC,zD,zE,zF,zG,zH,zI,reduceCtorEq,zJ,zK,zL,zM]
  refine Cl.idle_ok h4 p (hsm i c hc) hn fun h5 o5=>?_
  have r6:=(o5.obj _ (by omega)).trans k6
  have r7:=(o5.obj _ (by omega)).trans k7
  have rb:=(o5.obj _ (by omega)).trans kb
  have oh5:∀b,b<h.next->h5.obj b=h.obj b:=fun b hb=>by rw[o5.obj b (by omega),h4d,a6 _ _ (by omega),o3.obj b (by omega),j2.obj b hb]
  have o25:Old h h5:=⟨by have:=o5.next;omega,oh5⟩
  by_cases hid:b3B W now c=true
  ·rw[if_pos hid]at j9
   unfold b3B at hid
   simp(disch:=omega)only[a5j,b0f,↓c5C,hid,e6,e7,r6,r7,setAt,List.set_cons_zero,List.set_cons_succ,↓j0,l0,zA,zB,zC,zD,zE,zF,zG,zH,zI,reduceCtorEq,zJ,zK,zL,zM]
   refine⟨by rw[rb];rfl,.inr (d5W ?_)⟩
   have x1:=o5.next
   simp(disch:=omega)only[e6,e7,a9,a6,a2L,↓j0,l0,zA,zB,zC,zD,zE,zF,zG,zH,zI,reduceCtorEq,zJ,zK,zL,zM]
   rw[j9]at hQ
   refine hQ _ ⟨by show h.next<=h5.next;omega,fun b hb=>?_⟩
   rw[a6 _ _ (by omega),a6 _ _ (by omega),a6 _ _ (by omega),a6 _ _ (by omega)];exact oh5 b hb
  ·have hid' :b3B W now c=false:=by simpa using hid
   rw[hid',if_neg (by simp)]at j9
   unfold b3B at hid'
   simp(disch:=omega)only[a5j,b0f,↓c5C,hid',e6,e7,r6,r7,↓j0,l0,zA,zB,zC,zD,zE,zF,zG,zH,zI,reduceCtorEq,zJ,zK,zL,zM]
   have x1:=o5.next
   have oF:Old h (h5.upd h1.next (.loop 0 none)):=⟨by show h.next<=h5.next;omega,fun b hb=>by rw[a6 _ _ (by omega)];exact oh5 b hb⟩
   exact⟨by rw[rb];rfl,.inl ⟨P.old oF,oF,by omega,(o5.obj _ (by omega)).trans k4,(o5.obj _ (by omega)).trans k5,j9⟩⟩
 ·rintro hh ⟨j1,j2,j3,j4,j5,j6,j7,j8,j9⟩
  rw[Nat.sub_self,a0f]at j9
  rw[j9]at hQ
  refine b1s j8 ?_
  simp(disch:=omega)only[b4A,b0f,↓c5C,e6,e7,j6,j7,a9,a6,setAt,List.set_cons_zero,List.set_cons_succ,a2L,↓j0,l0,zA,zB,zC,zD,zE,zF,zG,zH,zI,reduceCtorEq,zJ,zK,zL,zM]
  refine hQ _ ⟨j2.next,fun b hb=>?_⟩
  rw[a6 _ _ (by omega),a6 _ _ (by omega),a6 _ _ (by omega)];exact j2.obj b hb
end
structure SA where
 p:Nat
 st:Nat
 x:Nat
 tb:Nat
 nb:Nat
 eb:Nat
 ob:Nat
 wb:Nat
 A:List Nat
 n:Nat
 row:K2
def SA.own(a:SA):List Nat:=a.p::a.nb::a.eb::a.ob::a.wb::a.x::a.tb::a.A
abbrev e1c(a:SA)(tot:Int):List Value:=[.pointer (some ⟨a.st,0,none⟩),.pointer (some ⟨a.x,0,none⟩),.slice (some ⟨a.nb,0,none⟩) a.n a.n,.slice (some ⟨a.eb,0,none⟩) a.n a.n,.slice (some ⟨a.ob,0,none⟩) a.n a.n,.slice (some ⟨a.wb,0,none⟩) a.n a.n,.int .i64 tot]
structure SumAt(h:Heap)(a:SA)(keys:Nat->Option ByteArray)(fl:List Nat)(tab ns es os ws:List Int)(tot:Int):Prop where
 op:h.obj a.p=.cells (e1c a tot) 169 .fix
 s:StAt h a.st a.A a.n keys fl
 i:IdxAt h a.x a.tb a.st a.row a.n tab
 on:h.obj a.nb=.cells (ints .i64 ns) 2 .grow
 oe:h.obj a.eb=.cells (ints .i64 es) 2 .grow
 oo:h.obj a.ob=.cells (ints .i32 os) 21 .grow
 ow:h.obj a.wb=.cells (ints .i32 ws) 21 .grow
 ln:ns.length=a.n
 le:es.length=a.n
 lo:os.length=a.n
 lw:ws.length=a.n
 nd:a.own.Nodup
 lt:∀z∈a.own,z<h.next
 hn:1<=a.n/\a.n<=64
theorem SumAt.keep{h h' :Heap}{a:SA}{keys:Nat->Option ByteArray}{fl:List Nat}{tab ns es os ws:List Int}{tot:Int}(P:SumAt h a keys fl tab ns es os ws tot)(hn:h.next<=h'.next)(ho:∀z∈a.own,h'.obj z=h.obj z):SumAt h' a keys fl tab ns es os ws tot:=
 { P with
   op:=(ho _ (by simp[SA.own])).trans P.op
   s:=P.s.keep hn fun z hz=>ho z (by simp[SA.own,hz])
   i:=P.i.keep hn (ho _ (by simp[SA.own])) (ho _ (by simp[SA.own]))
   on:=(ho _ (by simp[SA.own])).trans P.on
   oe:=(ho _ (by simp[SA.own])).trans P.oe
   oo:=(ho _ (by simp[SA.own])).trans P.oo
   ow:=(ho _ (by simp[SA.own])).trans P.ow
   lt:=fun z hz=>yN (P.lt z hz) hn }
theorem c5k(h:Heap)(n:Nat)(hn:1<=n/\n<=64)(row:K2){Q:Value->Heap->Prop}
  (hQ:∀h' a,Old h h' ->SumAt h' a (fun _=>none) (List.range n) (List.replicate (2*n+1) 0) (List.replicate n 0) (List.replicate n 0) (List.replicate n 0) (List.replicate n 0) 0->a.n=n->a.row=row->(∀z∈a.own,h.next<=z)->Q (.pointer (some ⟨a.p,0,none⟩)) h'):
  r8 cp 82 [.int .i64 n,e1i row] h Q:=by
 rw[a8 cp e7P]
 obtain⟨h1,h1d,o1,n1,g1⟩:=M8 h (.cells [.int .u64 row.1,.int .u64 row.2.1,.int .u64 row.2.2] 182 .fix)
 have a1:decide ((n:Int)<1)=false:=decide_eq_false (by omega)
 have a2:decide ((n:Int)>64)=false:=decide_eq_false (by omega)
 have z0:¬(n:Int)<0:=by omega
 simp(disch:=omega)only[c82,↓R82,a1,a2,<-h1d,↓j0,l0,zA,zB,zC,zD,zE,zF,zG,zH,zI,reduceCtorEq,zJ,zK,zL,zM]
 refine b2M h1 n (by omega) fun h2 st A o2 s2 hst nd hA=>?_
 have n2:=o2.next
 have g2:=(o2.obj h.next (by omega)).trans g1
 obtain⟨ha,had⟩:∃ha,ha=((h2.new (.cells (ints .i64 (List.replicate n 0)) 2 .grow)).new (.cells (ints .i64 (List.replicate n 0)) 2 .grow)):=⟨_,rfl⟩
 have oa:Old h2 ha:=by rw[had];exact((Old.refl h2).more _).more _
 have na:ha.next=h2.next+1+1:=by rw[had];rfl
 have gn:ha.obj h2.next=.cells (ints .i64 (List.replicate n 0)) 2 .grow:=by rw[had,b7 _ _ (by simp only[f4];omega)];exact b8 _ _
 have ge:ha.obj (h2.next+1)=.cells (ints .i64 (List.replicate n 0)) 2 .grow:=by rw[had];exact b8 _ _
 obtain⟨h3,h3d⟩:∃h3,h3=((ha.new (.cells (ints .i32 (List.replicate n 0)) 21 .grow)).new (.cells (ints .i32 (List.replicate n 0)) 21 .grow)).new (.cells [.pointer (some ⟨st,0,none⟩),.pointer none,.slice (some ⟨h2.next,0,none⟩) n n,.slice (some ⟨h2.next+1,0,none⟩) n n,.slice (some ⟨ha.next,0,none⟩) n n,.slice (some ⟨ha.next+1,0,none⟩) n n,.int .i64 0] 169 .fix):=⟨_,rfl⟩
 have o3:Old ha h3:=by rw[h3d];exact(((Old.refl ha).more _).more _).more _
 have n3:h3.next=ha.next+1+1+1:=by rw[h3d];rfl
 have gp3:h3.obj (ha.next+1+1)=.cells [.pointer (some ⟨st,0,none⟩),.pointer none,.slice (some ⟨h2.next,0,none⟩) n n,.slice (some ⟨h2.next+1,0,none⟩) n n,.slice (some ⟨ha.next,0,none⟩) n n,.slice (some ⟨ha.next+1,0,none⟩) n n,.int .i64 0] 169 .fix:=by rw[h3d];exact b8 _ _
 have go:h3.obj ha.next=.cells (ints .i32 (List.replicate n 0)) 21 .grow:=by rw[h3d,b7 _ _ (by simp only[f4];omega),b7 _ _ (by simp only[f4];omega)];exact b8 _ _
 have gw:h3.obj (ha.next+1)=.cells (ints .i32 (List.replicate n 0)) 21 .grow:=by rw[h3d,b7 _ _ (by simp only[f4];omega)];exact b8 _ _
 have g3:=((o3.obj h.next (by omega)).trans (oa.obj h.next (by omega))).trans g2
 have s3:=(s2.old oa).old o3
 simp(disch:=omega)only[c82,↓R82,J9,u5,<-had,<-h3d,gp3,g3,↓j0,l0,zA,zB,zC,zD,zE,zF,zG,zH,zI,reduceCtorEq,zJ,zK,zL,zM]
 refine a7P s3 (by omega) row fun h4 x tb o4 i4 hx ht=>?_
 have gp4:=(o4.obj _ (by omega)).trans gp3
 have n4:=o4.next
 have lx:=i4.lx
 have lt:=i4.lt
 simp(disch:=omega)only[c82,↓R82,gp4,↓j0,l0,zA,zB,zC,zD,zE,zF,zG,zH,zI,reduceCtorEq,zJ,zK,zL,zM]
 have hlt:=s2.lt
 have keep:∀z,z<ha.next->z≠ha.next+1+1->∀c,(h4.upd (ha.next+1+1) c).obj z=ha.obj z:=fun z hz hne c=>by rw[a6 _ _ hne,o4.obj z (by omega),o3.obj z (by omega)]
 refine hQ _ ⟨ha.next+1+1,st,x,tb,h2.next,h2.next+1,ha.next,ha.next+1,A,n,row⟩ ⟨by rw[l6];omega,fun z hz=>by rw[a6 _ _ (by omega),o4.obj z (by omega),o3.obj z (by omega),oa.obj z (by omega),o2.obj z (by omega),o1.obj z hz]⟩ ⟨?_,?_,?_,?_,?_,?_,?_,by simp,by simp,by simp,by simp,?_,?_,hn⟩ rfl rfl ?_
 ·exact a9 _ _ _
 ·refine(s3.old o4).keep (yP _) fun z hz=>a6 _ _ (by have:=hlt z hz;omega)
 ·exact i4.keep (yP _) (a6 _ _ (by omega)) (a6 _ _ (by omega))
 ·exact(keep _ (by show h2.next<_;omega) (by show h2.next≠_;omega) _).trans gn
 ·exact(keep _ (by show h2.next+1<_;omega) (by show h2.next+1≠_;omega) _).trans ge
 ·show(h4.upd _ _).obj ha.next=_
  rw[a6 _ _ (by omega),o4.obj _ (by omega)];exact go
 ·show(h4.upd _ _).obj (ha.next+1)=_
  rw[a6 _ _ (by omega),o4.obj _ (by omega)];exact gw
 ·have ne:=i4.ne
  have hl:∀z,h2.next<=z->¬z∈A:=fun z hz hm=>by have:=hlt _ hm;omega
  simp only[SA.own,List.nodup_cons,List.mem_cons,not_or]
  refine⟨⟨by omega,by omega,by omega,by omega,by omega,by omega,hl _ (by omega)⟩,⟨by omega,by omega,by omega,by omega,by omega,hl _ (by omega)⟩,⟨by omega,by omega,by omega,by omega,hl _ (by omega)⟩,⟨by omega,by omega,by omega,hl _ (by omega)⟩,⟨by omega,by omega,hl _ (by omega)⟩,⟨ne,hl _ (by omega)⟩,hl _ (by omega),nd⟩
 ·intro z hz
  simp only[SA.own,List.mem_cons]at hz
  rw[l6]
  rcases hz with rfl|rfl|rfl|rfl|rfl|rfl|rfl|hz
  iterate 7 omega
  have:=hlt _ hz;omega
 ·intro z hz
  simp only[SA.own,List.mem_cons]at hz
  rcases hz with rfl|rfl|rfl|rfl|rfl|rfl|rfl|hz
  iterate 7 omega
  have:=hA _ hz;omega
end Go.Proofs.YtlakhgibjfmjjaaGreat.Can
