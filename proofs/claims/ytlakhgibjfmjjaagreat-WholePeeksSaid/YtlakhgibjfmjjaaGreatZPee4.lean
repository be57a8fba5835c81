/- Part 4 of 6 of the proof of the row RowWholePeeks: whatever the input, the law returns true. No condition. -/
import Derived.Test.YtlakhgibjfmjjaaGreatZPee3
import Derived.Laws.BitsLemmas
set_option linter.unusedSimpArgs false
set_option linter.unusedVariables false
set_option linter.defProp false
set_option maxHeartbeats 4000000
open Nat renaming reduceEqDiff → zA, reduceAdd → zB, reduceMul → zC, reduceSub → zD, reduceLT → zE, reduceLeDiff → zF, reduceBEq → zG, lt_of_lt_of_le → uzN, le_refl → uzP, le_trans → uzR, mul_one → uzS, lt_succ_self → vpz, zero_add → vsz, mul_le_mul_right → vzz, add_mul → vDz, le_of_not_lt → vGz, zero_le → vJz, sub_self → vKz, le_succ → vLz, lt_or_ge → vMz
open Int renaming reduceLT → zH, reduceLE → zI, reduceToNat → zJ, reduceAdd → zK, reduceSub → zL, reduceMul → zM, reduceBEq → zN, mul_nonneg → uzO, le_refl → uzQ, toNat_natCast → vAz, mul_le_mul → vHz
open Option renaming some.inj → uzA, some.injEq → uzC, map_eq_some_iff → uzD, map_some → vlz, getD_some → vFz
open Prod renaming mk.injEq → uzB
open List renaming getElem?_eq_getElem → uzF, length_append → uzG, getElem?_set_self → uzH, getElem?_set_ne → uzI, getElem?_map → uzJ, mem_of_getElem? → uzK, length_map → uzL, length_cons → uzM, replicate → vaz, set_cons_zero → vbz, getD_eq_getElem?_getD → vcz, length_singleton → vdz, set_cons_succ → vez, getElem?_append_right → vfz, length_set → viz, length_nil → vkz, getElem?_eq_none → vmz, take_of_length_le → vnz, getElem?_take → voz, length_take → vqz, nil_append → vrz, append_nil → vtz, getElem?_append_left → vuz, append_assoc → vvz, drop_zero → vwz, mem_cons → vxz, mem_cons_self → vyz, getElem?_cons_succ → vBz, cons_append → vCz, getElem?_drop → vEz, mem_or_eq_of_mem_set → vIz
open Bool renaming and_eq_true → vjz
namespace Go.Proofs.YtlakhgibjfmjjaaGreat.Can
open Go
attribute [local congr] u5 u4 l5 l8 r8 s9 u6 w9 u7
variable {Q : Value → Heap → Prop}
def bs(l:List Int):ByteArray:=⟨(l.map fun n=>UInt8.ofNat n.toNat).toArray⟩
theorem a1B(l:List Int):(bs l).size=l.length:=by
 show(l.map fun n=>UInt8.ofNat n.toNat).toArray.size=_
 simp
def E4(l:List Int):Prop:=∀x∈l,0<=x/\x<256
theorem E4.app{a b:List Int}(h:E4 a)(k:E4 b):E4 (a++b):=fun x hx=>(List.mem_append.1 hx).elim (h x) (k x)
abbrev B8:Enc Int:=Enc.int .u8
theorem a4c:∀l:List Int,bytesOf (B8.all l)=some (l.map fun n=>UInt8.ofNat n.toNat)
 | []=>rfl
 |x::t=>by
  show bytesOf (Value.int .u8 x::B8.all t)=_
  unfold bytesOf
  rw[a4c t];rfl
theorem b2Y(l:List Int)(h:E4 l):B6 (bs l).data.toList=B8.all l:=by
 induction l with
 |nil=>rfl
 |cons x t ih=>
  have e:=ih fun y hy=>h y (List.mem_cons_of_mem _ hy)
  have hx:=h x vyz
  have h2:(UInt8.ofNat x.toNat).toNat=x.toNat:=by simp;omega
  have h3:((UInt8.ofNat x.toNat).toNat:Int)=x:=by rw[h2];omega
  show Value.int .u8 ((UInt8.ofNat x.toNat).toNat:Int)::B6 (bs t).data.toList=Value.int .u8 x::B8.all t
  rw[h3,e]
theorem e0p(h:Heap)(l:List Int)(hb:E4 l):D1 h 1 (.string (bs l))=some (B8.all l,l.length):=by
 show(if(1:Nat)=1 then some (B6 (bs l).data.toList,(bs l).size)else none)=_
 rw[if_pos rfl,b2Y l hb,a1B]
theorem e4Y(s:ByteArray):∃l,E4 l/\s=bs l:=by
 refine⟨s.data.toList.map fun b=>(b.toNat:Int),fun x hx=>?_,?_⟩
 ·obtain⟨b,_,rfl⟩:=List.mem_map.1 hx
  have:=b.toNat_lt
  omega
 ·apply ByteArray.ext
  have e:((fun n:Int=>UInt8.ofNat n.toNat)∘fun b:UInt8=>(b.toNat:Int))=id:=by
   funext b
   simp
  simp[bs,e]
def M1:Nat->Int->List Int
 |0,_=>[]
 |n+1,x=>M1 n (x / 256)++[x % 256]
def a1S(l:List Int):Int:=l.foldl (fun a c=>a*256+c) 0
theorem a3B(l:List Int)(c:Int):a1S (l++[c])=a1S l*256+c:=by unfold a1S;rw[List.foldl_append];rfl
theorem E1:∀n x,(M1 n x).length=n
 |0,_=>rfl
 |n+1,x=>by simp only[M1,uzG,vdz,E1 n]
theorem Q9:∀n x,E4 (M1 n x)
 |0,_=>fun y hy=>by simp[M1]at hy
 |n+1,x=>fun y hy=>by
  simp only[M1,List.mem_append,List.mem_singleton]at hy
  rcases hy with hy|rfl
  ·exact Q9 n _ y hy
  ·omega
theorem a2r:∀(n:Nat) (l:List Int),l.length=n->E4 l->0<=a1S l/\a1S l<256 ^ n:=by
 intro n
 induction n with
 |zero=>intro l hl _;rw[List.length_eq_zero_iff.1 hl];decide
 |succ n ih=>
  intro l hl hb
  obtain⟨m,c,rfl⟩:∃m c,l=m++[c]:=⟨l.dropLast,l.getLast (by intro h;rw[h]at hl;simp at hl),(List.dropLast_concat_getLast _).symm⟩
  have h1:=ih m (by simpa using hl) fun y hy=>hb y (List.mem_append_left _ hy)
  have h2:=hb c (by simp)
  rw[a3B,Int.pow_succ]
  omega
theorem c6W:∀(n:Nat) (x:Int),0<=x->x<256 ^ n->a1S (M1 n x)=x
 |0,x,h0,h1=>by simp at h1;have:x=0:=by omega
                subst this;rfl
 |n+1,x,h0,h1=>by
  rw[Int.pow_succ]at h1
  simp only[M1]
  rw[a3B,c6W n (x / 256) (by omega) (by omega)]
  omega
theorem a7L:∀(n:Nat) (x:Int) (i:Nat),i<n->(M1 n x)[i]? =some (x / 256 ^ (n-1-i) % 256)
 |0,_,_,h=>by omega
 |n+1,x,i,h=>by
  simp only[M1]
  by_cases e:i<n
  ·rw[vuz (by rw[E1];exact e),a7L n (x / 256) i e]
   rw[show n+1-1-i=(n-1-i)+1 by omega,Int.pow_succ,Int.mul_comm,<-Int.ediv_ediv_of_nonneg (by decide)]
  ·have:i=n:=by omega
   subst this
   rw[vfz (by rw[E1];exact uzP _),E1,vKz]
   simp
def e1H(x:Int):List Int:=M1 8 (x % 18446744073709551616)
theorem b0O(x:Int):E4 (e1H x):=Q9 8 _
theorem d9Q{ob:Obj}{o n a k:Nat}{l:List Value}(h:ob.read o n=some l)(hk:a+k<=n):ob.read (o+a) k=some ((l.drop a).take k):=by
 cases ob with
 |cells c t g=>
  simp only[Obj.read]at h ⊢
  split at h
  ·rename_i hle
   obtain rfl:=uzA h
   rw[if_pos (by omega)]
   congr 1
   apply List.ext_getElem?
   intro i
   rw[voz,voz,vEz,vEz,voz,vEz]
   by_cases hi:i<k
   ·rw[if_pos hi,if_pos hi,if_pos (by omega),Nat.add_assoc]
   ·rw[if_neg hi,if_neg hi]
  ·simp at h
 |_=>simp[Obj.read]at h
theorem e0E:∀(l:List Int) (a k:Nat),((B8.all l).drop a).take k=B8.all ((l.drop a).take k):=fun l a k=>by
 have e:∀l:List Int,B8.all l=l.map fun x=>Value.int .u8 x:=fun l=>by
  induction l with
  |nil=>rfl
  |cons x t ih=>show Value.int .u8 x::B8.all t=_;rw[ih];rfl
 rw[e,e,<-List.map_drop,<-List.map_take]
theorem e2N(l:List Int):(B8.all l).length=l.length:=by
 have:=B8.all_len l
 rw[show B8.sz=1 from rfl,uzS]at this
 exact this
theorem e2M(l:List Int){i:Nat}{x:Int}(hx:l[i]? =some x):(B8.all l)[i]? =some (.int .u8 x):=by
 have e:∀l:List Int,B8.all l=l.map fun x=>Value.int .u8 x:=fun l=>by
  induction l with
  |nil=>rfl
  |cons x t ih=>show Value.int .u8 x::B8.all t=_;rw[ih];rfl
 rw[e,uzJ,hx];rfl
def Bys(h:Heap)(v:Value)(l:List Int):Prop:=
 (v=.slice none 0 0/\l=[])\/∃b o cap,v=.slice (some ⟨b,o,none⟩) l.length cap/\l.length<=cap/\b<h.next/\(h.obj b).elemOk 5=true/\(h.obj b).read o l.length=some (B8.all l)
theorem Bys.old{h h' :Heap}{v:Value}{l:List Int}(s:Bys h v l)(o:Old h h'):Bys h' v l:=by
 rcases s with s| ⟨b,off,cap,h1,h2,h3,h4,h5⟩
 ·exact .inl s
 ·exact .inr ⟨b,off,cap,h1,h2,uzN h3 o.next,by rw[o.obj b h3];exact h4,by rw[o.obj b h3];exact h5⟩
theorem Bys.val{h:Heap}{v:Value}{l:List Int}(s:Bys h v l):∃a cap,v=.slice a l.length cap/\l.length<=cap:=by
 rcases s with⟨rfl,rfl⟩| ⟨b,off,cap,h1,h2,_⟩
 ·exact⟨none,0,rfl,uzP _⟩
 ·exact⟨_,cap,h1,h2⟩
theorem Bys.at{h:Heap}{v:Value}{l:List Int}(s:Bys h v l)(hl:0<l.length):∃b o cap,v=.slice (some ⟨b,o,none⟩) l.length cap/\l.length<=cap/\b<h.next/\(h.obj b).elemOk 5=true/\(h.obj b).read o l.length=some (B8.all l):=by
 rcases s with⟨rfl,rfl⟩|s
 ·simp at hl
 ·exact s
theorem Bys.get{h:Heap}{l:List Int}{b o cap:Nat}(s:(h.obj b).read o l.length=some (B8.all l)){i:Nat}{x:Int}(hx:l[i]? =some x):(h.obj b).get (o+i)=some (.int .u8 x):=
 a0r s (List.getElem?_eq_some_iff.1 hx).1 (e2M l hx)
theorem Bys.sub{h:Heap}{l:List Int}{b o cap:Nat}(hb:b<h.next)(he:(h.obj b).elemOk 5=true)(s:(h.obj b).read o l.length=some (B8.all l))(hc:l.length<=cap)(i j:Nat)(hij:i<=j)(hj:j<=l.length):Bys h (.slice (some ⟨b,o+i,none⟩) (j-i) (cap-i)) ((l.drop i).take (j-i)):=by
 have hlen:((l.drop i).take (j-i)).length=j-i:=by rw[vqz,List.length_drop];omega
 refine .inr ⟨b,o+i,cap-i,by rw[hlen],by rw[hlen];omega,hb,he,?_⟩
 rw[hlen,d9Q s (by omega),e0E]
theorem a0d.bys{h:Heap}{v:Value}{l:List Int}(s:a0d h B8 v l):Bys h v l:=by
 rcases s with⟨rfl,rfl⟩| ⟨b,o,cap,rfl,h2,h3,c,t,hob,hend,hat⟩
 ·exact .inl ⟨rfl,rfl⟩
 ·have hs:=a0d.src (E:=B8) (.inr ⟨b,o,cap,rfl,h2,h3,c,t,hob,hend,hat⟩)
  have hb1:B8.sz=1:=rfl
  refine .inr ⟨b,o,cap,rfl,h2,h3,by rw[hob];rfl,?_⟩
  unfold D1 at hs
  simp only[if_true,hob,hb1,uzS,e0q]at hs
  rw[hob,N8]
  rw[hb1,uzS]at hend
  rw[if_pos (by omega)]
  split at hs
  ·simp only[vlz,uzC,uzB]at hs
   rw[hs.1];rfl
  ·simp at hs
theorem or_u64'(i:Nat)(x y:Int)(hx0:0<=x)(hx:x % 2 ^ i=0)(hx1:x<18446744073709551616)(hy0:0<=y)(hy:y<2 ^ i)(hy1:y<18446744073709551616):
  IntKind.u64.wrap ((BitVec.ofInt IntKind.u64.bits x |||BitVec.ofInt IntKind.u64.bits y).toNat:Int)=x+y:=
 bits_join .u64 64 (by decide) (b2M 64 (by decide)) i x y hx0 hx (by omega) hy0 hy (by omega)
theorem d9C(h:Heap)(v:Value)(l:List Int)(s:Bys h v l)(hl:l.length<=8)(byt:E4 l)(hQ:Q (.int .u64 (a1S l)) h):u9 cp 46 [v] h Q:=by
 obtain⟨a,cap,rfl,hcap⟩:=s.val
 rw[a8 cp f0C]
 simp(disch:=omega)only[c46,↓R46,↓l9,m9,zA,zB,zC,zD,zE,zF,zG,zH,zI,reduceCtorEq,zJ,zK,zL,zM]
 refine A6 cp b1N _ (fun d e hh=>∃i:Nat,i+d=l.length/\hh=h/\e 3=.int .u64 (a1S (l.take i))/\e 6=.slice a l.length cap/\e 7=.int .i64 l.length/\e 8=.int .i64 i) ?_ l.length _ _
  ⟨0,by omega,rfl,rfl,rfl,rfl,rfl⟩
 rintro d e hh ⟨i,hi,rfl,e3,e6,e7,e8⟩
 by_cases ci:i<l.length
 ·have b1:decide ((i:Int)<(l.length:Int))=true:=dTz (by omega)
  have nx:(i:Int)+1=((i+1:Nat):Int):=by omega
  have hx:l[i]? =some l[i]:=uzF ci
  obtain⟨c,hc⟩:∃c,c=l[i]:=⟨_,rfl⟩
  rw[<-hc]at hx
  have cr:=byt c (uzK hx)
  obtain⟨b,o,cap',hv,_,_,_,hr⟩:=s.at (by omega)
  simp only[Value.slice.injEq]at hv
  obtain⟨rfl,_,_⟩:=hv
  have hg:=Bys.get (cap:=cap) hr hx
  have s8' :=fun x:Int=>b5r .u64 x 8 (by decide)
  have p8:(2:Int) ^ 8=256:=by decide
  have bt:E4 (l.take i):=fun y hy=>byt y (List.mem_of_mem_take hy)
  have il:(l.take i).length=i:=by rw[vqz];omega
  have rg:=a2r i _ il bt
  have pw:(256:Int) ^ i<=72057594037927936:=by
   have:i=0\/i=1\/i=2\/i=3\/i=4\/i=5\/i=6\/i=7:=by omega
   rcases this with rfl|rfl|rfl|rfl|rfl|rfl|rfl|rfl<;>decide
  obtain⟨x,hxd⟩:∃x,x=a1S (l.take i):=⟨_,rfl⟩
  rw[<-hxd]at rg e3
  have nxd:a1S (l.take (i+1))=x*256+c:=by rw[I7 hx,a3B,hxd]
  have eor:IntKind.u64.wrap ((BitVec.ofInt IntKind.u64.bits (x*256) |||BitVec.ofInt IntKind.u64.bits c).toNat:Int)=a1S (l.take (i+1)):=by
   rw[nxd]
   exact or_u64' 8 _ _ (by omega) (by rw[p8];omega) (by omega) (by omega) (by rw[p8];omega) (by omega)
  simp(disch:=omega)only[b1N,c46,↓R46,e3,e6,e7,e8,b1,hg,s8',p8,eor,nx,uzS,↓l9,m9,zA,zB,zC,zD,zE,zF,zG,zH,zI,reduceCtorEq,zJ,zK,zL,zM]
  refine⟨d-1,by omega,i+1,by omega,rfl,?_⟩
  repeat' first|assumption|rfl|apply And.intro
 ·have b1:decide ((i:Int)<(l.length:Int))=false:=dFz (by omega)
  obtain rfl:i=l.length:=by omega
  rw[List.take_length]at e3
  simp(disch:=omega)only[b1N,c46,↓R46,e3,e6,e7,e8,b1,↓l9,m9,zA,zB,zC,zD,zE,zF,zG,zH,zI,reduceCtorEq,zJ,zK,zL,zM]
  exact hQ
theorem E3.old{α:Type}{h h' :Heap}{t:TypeId}{E:Enc α}{v:Value}{l:List α}{b:Nat}(V:E3 h t E v l b)(o:Old h h'):E3 h' t E v l b:=V.keep o.next fun hb=>o.obj b hb
theorem E3.src{α:Type}{h:Heap}{t:TypeId}{E:Enc α}{v:Value}{l:List α}{b:Nat}(V:E3 h t E v l b)(hl:0<l.length):D1 h E.sz v=some (E.all l,l.length):=by
 obtain⟨cap,rest,rfl,hb,ho,h4,h5⟩:=V.at hl
 have hm:l.length*E.sz<=(E.all l++rest).length:=by rw[uzG,E.all_len];omega
 unfold D1
 simp only[if_true,ho,a1z,vsz,hm,vwz]
 rw[List.take_append_of_le_length (by rw[E.all_len];exact uzP _),vnz (by rw[E.all_len];exact uzP _)]
 rfl
theorem E3.src0{α:Type}{h:Heap}{t:TypeId}{E:Enc α}{v:Value}{l:List α}{b:Nat}(V:E3 h t E v l b):D1 h E.sz v=some (E.all l,l.length):=by
 by_cases c:0<l.length
 ·exact V.src c
 ·obtain rfl:l=[]:=List.length_eq_zero_iff.1 (by omega)
  rcases V with⟨rfl,_⟩| ⟨cap,rest,rfl,h2,h3,h4,h5⟩
  ·rfl
  ·unfold D1
   simp only[vkz,Nat.zero_mul,if_true,h3,a1z,vsz,vJz,vwz,List.take_zero]
   rfl
theorem E3.blk{α:Type}{h:Heap}{t:TypeId}{E:Enc α}{v:Value}{l:List α}{b z o n cap:Nat}(V:E3 h t E v l b)(hv:v=.slice (some ⟨z,o,none⟩) n cap):z=b:=by
 rcases V with⟨rfl,_⟩| ⟨cap,rest,rfl,_⟩
 ·simp at hv
 ·simp at hv;omega
theorem E3.bys{h:Heap}{v:Value}{l:List Int}{b:Nat}(V:E3 h 5 B8 v l b):Bys h v l:=by
 rcases V with⟨rfl,rfl⟩| ⟨cap,rest,rfl,h2,h3,h4,h5⟩
 ·exact .inl ⟨rfl,rfl⟩
 ·have e:=e2N l
  refine .inr ⟨b,0,cap,rfl,h5,h2,by rw[h3];rfl,?_⟩
  rw[h3,N8,if_pos (by rw[uzG,e];omega),vwz,List.take_append_of_le_length (by rw[e];exact uzP _),vnz (by rw[e];exact uzP _)]
theorem E3.new8{h:Heap}{v:Value}{l:List Int}{b:Nat}(V:E3 h 5 B8 v l b)(ob:Obj):E3 (h.new ob) 5 B8 v l b:=by
 rcases V.ne h.next (uzP _)with hv|hne
 ·subst hv
  rcases V with⟨_,hl⟩| ⟨_,_,hv,_⟩
  ·rw[hl];exact E3.nil _ _ _ _
  ·simp at hv
 ·exact V.keep (vLz _) fun hb=>f4 _ _ (Ne.symm hne)
theorem a1P{h:Heap}{v:Value}{l:List Int}(s:Bys h v l):C7 (.toStr v) h=some (.string (bs l),h):=by
 rcases s with⟨rfl,rfl⟩| ⟨b,o,cap,rfl,_,_,_,h5⟩
 ·rfl
 ·simp only[C7,if_true,h5,Option.bind_some,a4c]
  rfl
end Go.Proofs.YtlakhgibjfmjjaaGreat.Can
namespace Go.Proofs.YtlakhgibjfmjjaaGreat.Can.Keys
open Go
attribute [local congr] u5 u4 l5 l8 r8 s9 u6 w9 u7
variable {Q : Value → Heap → Prop}
structure KS where
 p:Nat
 bb:Nat
 bs:Nat
 bn:Nat
 n:Nat
 by_:List UInt8
 sz:List Int
 nx:List Int
 fr:Int
 us:Int
structure KS.At(s:KS)(h:Heap):Prop where
 hp:h.obj s.p=.cells [.slice (some ⟨s.bb,0,none⟩) (s.n*64) (s.n*64),.slice (some ⟨s.bs,0,none⟩) s.n s.n,.slice (some ⟨s.bn,0,none⟩) s.n s.n,.int .i32 s.fr,.int .i64 s.us] 191 .fix
 hb:h.obj s.bb=.cells (B6 s.by_) 5 .grow
 hs:h.obj s.bs=.cells (ints .i8 s.sz) 206 .grow
 hn:h.obj s.bn=.cells (ints .i32 s.nx) 21 .grow
 lb:s.by_.length=s.n*64
 ls:s.sz.length=s.n
 ln:s.nx.length=s.n
 d1:s.p≠s.bb
 d2:s.p≠s.bs
 d3:s.p≠s.bn
 d4:s.bb≠s.bs
 d5:s.bb≠s.bn
 d6:s.bs≠s.bn
 nn:s.n<=65536
theorem byteVals_len(l:List UInt8):(B6 l).length=l.length:=by simp[B6]
theorem bytes_len(k:ByteArray):k.data.toList.length=k.size:=by simp
def setB:List UInt8->Nat->List UInt8->List UInt8
 |c,_,[]=>c
 |c,o,v::vs=>setB (c.set o v) (o+1) vs
theorem setB_len:∀(c:List UInt8) (o:Nat) (l:List UInt8),(setB c o l).length=c.length
 |_,_,[]=>rfl
 |c,o,v::vs=>by simp only[setB];rw[setB_len];simp
theorem setAt_bytes:∀(c:List UInt8) (o:Nat) (l:List UInt8),setAt (B6 c) o (B6 l)=B6 (setB c o l)
 |_,_,[]=>rfl
 |c,o,v::vs=>by
  have:B6 (v::vs)=.int .u8 v.toNat::B6 vs:=rfl
  rw[this]
  simp only[setAt,setB]
  rw[<-setAt_bytes (c.set o v) (o+1) vs]
  simp[B6,List.map_set]
structure Kept(h h' :Heap)(A:List Nat):Prop where
 next:h'.next=h.next
 obj:∀b,b∉A->h'.obj b=h.obj b
def KS.own(s:KS):List Nat:=[s.p,s.bb,s.bs,s.bn]
def KS.put(s:KS)(i:Nat)(v:Int)(key:ByteArray):KS:=
 { s with by_:=setB s.by_ (i*64) key.data.toList,sz:=s.sz.set i key.size,fr:=v,us:=s.us+1 }
theorem put_ok{h:Heap}{s:KS}(hs:s.At h)(key:ByteArray)(i:Nat)(v:Int)
  (hf:s.fr=i) (hfn:i<s.n) (hk:key.size<=64) (hv:s.nx[i]? =some v) (hu:0<=s.us) (hun:s.us<s.n)
  (hQ:∀h',(s.put i v key).At h' ->Kept h h' s.own->Q (.int .i64 i) h'):
  u9 cp 168 [.pointer (some ⟨s.p,0,none⟩),.string key] h Q:=by
 rw[a8 cp e6h]
 obtain⟨p,bb,bs,bn,n,by_,sz,nx,fr,us⟩:=s
 obtain⟨hp,hb,hs,hn,lb,ls,ln,d1,d2,d3,d4,d5,d6,nn⟩:=hs
 simp only at*
 subst hf
 have a1:decide ((i:Int)<0)=false:=by simp
 have a2:decide ((key.size:Int)>64)=false:=by simp;omega
 have g1:=C5 .i32 nx hv
 have w1:IntKind.i64.wrap (i*64)=((i*64:Nat):Int):=by rw[P9]<;>omega
 have w2:min key.size (n*64-i*64)=key.size:=by omega
 have lb' :(B6 by_).length=n*64:=by simp[B6,lb]
 have e1:key.extract 0 key.size=key:=by simp
 simp(disch:=omega)only[e1i,↓e9Y,hp,hb,hs,hn,a1,a2,g1,w1,w2,D1,e1,lb',byteVals_len,bytes_len,setAt_bytes,H7,↓l9,m9,zA,zB,zC,zD,zE,zF,zG,zH,zI,reduceCtorEq,zJ,zK,zL,zM]
 have d1' :=d1.symm;have d2' :=d2.symm;have d3' :=d3.symm;have d4' :=d4.symm;have d5' :=d5.symm;have d6' :=d6.symm
 refine hQ _ ⟨?_,?_,?_,?_,?_,?_,?_,d1,d2,d3,d4,d5,d6,nn⟩ ⟨rfl,fun b hb=>?_⟩
 ·simp[Heap.upd,KS.put]
 ·simp[Heap.upd,KS.put,d1',d4]
 ·simp[Heap.upd,KS.put,d2']
 ·simp[Heap.upd,KS.put,d3',d5',d6',hn]
 ·simp[KS.put,setB_len,lb]
 ·simp[KS.put,ls]
 ·simp[KS.put,ln]
 ·simp only[KS.own,vxz,List.not_mem_nil,or_false,not_or]at hb
  simp[Heap.upd,hb]
theorem len_ok{h:Heap}{s:KS}(hs:s.At h)(Q:Value->Heap->Prop):u9 cp 100 [.pointer (some ⟨s.p,0,none⟩)] h Q↔Q (.int .i64 s.n) h:=by
 refine v9 ?_ Q
 rw[a8 cp e5m]
 have hp:=hs.hp
 simp(disch:=omega)only[e0X,↓e9N,hp,↓l9,m9,zA,zB,zC,zD,zE,zF,zG,zH,zI,reduceCtorEq,zJ,zK,zL,zM]
theorem used_ok{h:Heap}{s:KS}(hs:s.At h)(Q:Value->Heap->Prop):u9 cp 70 [.pointer (some ⟨s.p,0,none⟩)] h Q↔Q (.int .i64 s.us) h:=by
 refine v9 ?_ Q
 rw[a8 cp f0U]
 have hp:=hs.hp
 simp(disch:=omega)only[c70,↓R70,hp,↓l9,m9,zA,zB,zC,zD,zE,zF,zG,zH,zI,reduceCtorEq,zJ,zK,zL,zM]
def KS.has(s:KS)(i:Int):Bool:=decide (0<=i) && decide (i<s.n) && decide (0<=s.sz.getD i.toNat (-1))
theorem has_ok{h:Heap}{s:KS}(hs:s.At h)(i:Int)(Q:Value->Heap->Prop):u9 cp 177 [.pointer (some ⟨s.p,0,none⟩),.int .i64 i] h Q↔Q (.bool (s.has i)) h:=by
 refine v9 ?_ Q
 rw[a8 cp e6p]
 have hp:=hs.hp
 have hl:=len_ok hs
 by_cases h1:0<=i
 ·have a1:decide (i>=0)=true:=by simp[h1]
  by_cases h2:i<s.n
  ·obtain⟨k,rfl⟩:=Int.eq_ofNat_of_zero_le h1
   have hk:k<s.sz.length:=by have:=hs.ls;omega
   have a2:decide ((k:Int)<s.n)=true:=by simp;omega
   have g1:=C5 .i8 s.sz (uzF hk)
   have hz:=hs.hs
   have e1:s.has k=decide (s.sz[k]>=0):=by
    unfold KS.has
    simp only[h1,h2,decide_true,Bool.true_and,vAz,vcz,uzF hk,vFz,ge_iff_le]
   simp(disch:=omega)only[c8h,↓e2X,a1,a2,hl,hp,hz,g1,↓l9,m9,zA,zB,zC,zD,zE,zF,zG,zH,zI,reduceCtorEq,zJ,zK,zL,zM]
   rw[e1]
  ·have a2:decide (i<s.n)=false:=by simp;omega
   have e1:s.has i=false:=by unfold KS.has;simp[h2]
   simp(disch:=omega)only[c8h,↓e2X,a1,a2,hl,e1,↓l9,m9,zA,zB,zC,zD,zE,zF,zG,zH,zI,reduceCtorEq,zJ,zK,zL,zM]
 ·have a1:decide (i>=0)=false:=by simp;omega
  have e1:s.has i=false:=by unfold KS.has;simp[h1]
  simp(disch:=omega)only[c8h,↓e2X,a1,e1,↓l9,m9,zA,zB,zC,zD,zE,zF,zG,zH,zI,reduceCtorEq,zJ,zK,zL,zM]
theorem has_inv{s:KS}{i:Int}(h:s.has i=true):∃k z:Nat,i=k/\k<s.n/\s.sz[k]? =some (z:Int):=by
 unfold KS.has at h
 simp only[vjz,decide_eq_true_eq]at h
 obtain⟨⟨h1,h2⟩,h3⟩:=h
 obtain⟨k,rfl⟩:=Int.eq_ofNat_of_zero_le h1
 refine⟨k,(s.sz.getD k (-1)).toNat,rfl,by omega,?_⟩
 simp only[vAz,vcz]at h3 ⊢
 cases hq:s.sz[k]? with
 |none=>rw[hq]at h3;simp at h3
 |some x=>rw[hq]at h3;simp only[vFz]at h3 ⊢;congr 1;omega
theorem byteVals_drop(l:List UInt8)(n:Nat):(B6 l).drop n=B6 (l.drop n):=by simp[B6]
theorem byteVals_take(l:List UInt8)(n:Nat):(B6 l).take n=B6 (l.take n):=by simp[B6]
theorem bytesOf_vals:∀(l:List UInt8),bytesOf (B6 l)=some l
 | []=>rfl
 |b::l=>by
  have:B6 (b::l)=.int .u8 b.toNat::B6 l:=rfl
  rw[this]
  simp only[bytesOf,bytesOf_vals l,vlz]
  simp
def KS.key(s:KS)(k z:Nat):ByteArray:=⟨((s.by_.drop (k*64)).take z).toArray⟩
theorem key_no{h:Heap}{s:KS}(hs:s.At h){i:Int}(hi:s.has i=false)(Q:Value->Heap->Prop):u9 cp 166 [.pointer (some ⟨s.p,0,none⟩),.int .i64 i] h Q↔Q (.tuple #[.string ⟨#[]⟩,.bool false]) h:=by
 refine v9 ?_ Q
 rw[a8 cp e2w]
 have hh:=has_ok hs i
 simp(disch:=omega)only[d1s,↓e4U,hh,hi,↓l9,m9,zA,zB,zC,zD,zE,zF,zG,zH,zI,reduceCtorEq,zJ,zK,zL,zM]
theorem key_ok{h:Heap}{s:KS}(hs:s.At h){k z:Nat}(hk:k<s.n)(hz:s.sz[k]? =some (z:Int))(hz64:z<=64)(Q:Value->Heap->Prop):
  u9 cp 166 [.pointer (some ⟨s.p,0,none⟩),.int .i64 k] h Q↔Q (.tuple #[.string (s.key k z),.bool true]) h:=by
 refine v9 ?_ Q
 rw[a8 cp e2w]
 have hh:=has_ok hs k
 have hi:s.has k=true:=by unfold KS.has;simp[hk,vcz,hz]
 have hp:=hs.hp
 have hzz:=hs.hs
 have hb:=hs.hb
 have lb:=hs.lb
 have nn:=hs.nn
 have g1:=C5 .i8 s.sz hz
 have w1:IntKind.i64.wrap (k*64)=((k*64:Nat):Int):=by rw[P9]<;>omega
 have w2:IntKind.i64.wrap (((k*64:Nat):Int)+z)=((k*64+z:Nat):Int):=by rw[P9]<;>omega
 have e1:k*64+z-k*64=z:=by omega
 simp(disch:=omega)only[d1s,↓e4U,hh,hi,hp,hzz,hb,g1,w1,w2,e1,byteVals_len,byteVals_drop,byteVals_take,bytesOf_vals,↓l9,m9,zA,zB,zC,zD,zE,zF,zG,zH,zI,reduceCtorEq,zJ,zK,zL,zM]
 first|trivial|exact⟨rfl,trivial⟩
theorem is_ok{h:Heap}{s:KS}(hs:s.At h){k z:Nat}(hk:k<s.n)(hz:s.sz[k]? =some (z:Int))(hz64:z<=64)(key:ByteArray)(Q:Value->Heap->Prop):
  u9 cp 176 [.pointer (some ⟨s.p,0,none⟩),.int .i64 k,.string key] h Q↔Q (.bool ((s.key k z).toList==key.toList)) h:=by
 refine v9 ?_ Q
 rw[a8 cp e6o]
 have hh:=has_ok hs k
 have hi:s.has k=true:=by unfold KS.has;simp[hk,vcz,hz]
 have hp:=hs.hp
 have hzz:=hs.hs
 have hb:=hs.hb
 have lb:=hs.lb
 have nn:=hs.nn
 have g1:=C5 .i8 s.sz hz
 have w1:IntKind.i64.wrap (k*64)=((k*64:Nat):Int):=by rw[P9]<;>omega
 have w2:IntKind.i64.wrap (((k*64:Nat):Int)+z)=((k*64+z:Nat):Int):=by rw[P9]<;>omega
 have e1:k*64+z-k*64=z:=by omega
 simp(disch:=omega)only[e1l,↓f0b,hh,hi,hp,hzz,hb,g1,w1,w2,e1,byteVals_len,byteVals_drop,byteVals_take,bytesOf_vals,a5J,↓l9,m9,zA,zB,zC,zD,zE,zF,zG,zH,zI,reduceCtorEq,zJ,zK,zL,zM]
 first|trivial|exact⟨rfl,trivial⟩
def KS.free(s:KS)(k:Nat):KS:={ s with sz:=s.sz.set k (-1),nx:=s.nx.set k s.fr,fr:=k,us:=s.us-1 }
theorem free_ok{h:Heap}{s:KS}(hs:s.At h){k z:Nat}(hk:k<s.n)(hz:s.sz[k]? =some (z:Int))(hu:0<s.us)(hu2:s.us<=s.n)
  (hQ:∀h',(s.free k).At h' ->Kept h h' s.own->Q (.tuple #[]) h'):
  u9 cp 178 [.pointer (some ⟨s.p,0,none⟩),.int .i64 k] h Q:=by
 rw[a8 cp e6q]
 have hh:=has_ok hs k
 have hi:s.has k=true:=by unfold KS.has;simp[hk,vcz,hz]
 obtain⟨p,bb,bs,bn,n,by_,sz,nx,fr,us⟩:=s
 obtain⟨hp,hb,hs,hn,lb,ls,ln,d1,d2,d3,d4,d5,d6,nn⟩:=hs
 simp only at*
 have w1:IntKind.i32.wrap k=k:=by rw[a8D]<;>omega
 simp(disch:=omega)only[e1m,↓f0c,hh,hi,hp,hb,hs,hn,w1,H7,↓l9,m9,zA,zB,zC,zD,zE,zF,zG,zH,zI,reduceCtorEq,zJ,zK,zL,zM]
 have d1' :=d1.symm;have d2' :=d2.symm;have d3' :=d3.symm;have d4' :=d4.symm;have d5' :=d5.symm;have d6' :=d6.symm
 refine hQ _ ⟨?_,?_,?_,?_,?_,?_,?_,d1,d2,d3,d4,d5,d6,nn⟩ ⟨rfl,fun b hb=>?_⟩
 ·simp[Heap.upd,KS.free]
 ·simp[Heap.upd,KS.free,d1',d4,d5,hb]
 ·simp[Heap.upd,KS.free,d2',d6]
 ·simp[Heap.upd,KS.free,d3']
 ·simp[KS.free,lb]
 ·simp[KS.free,ls]
 ·simp[KS.free,ln]
 ·simp only[KS.own,vxz,List.not_mem_nil,or_false,not_or]at hb
  simp[Heap.upd,hb]
def nxs(n:Nat):List Int:=(List.range n).map fun i=>if i+1=n then-1 else(i:Int)+1
def KS.stage(b n d:Nat):KS:=⟨b+3,b,b+1,b+2,n,vaz (n*64) 0,vaz d 0++vaz (n-d) (-1),vaz d 0++(nxs n).drop d,if d=n then-1 else d,0⟩
theorem nxs_len(n:Nat):(nxs n).length=n:=by simp[nxs]
theorem nxs_drop{n d:Nat}(h:d<n):(nxs n).drop d=(if d+1=n then-1 else(d:Int)+1)::(nxs n).drop (d+1):=by
 have hd:d<(nxs n).length:=by rw[nxs_len];exact h
 rw[List.drop_eq_getElem_cons hd]
 simp[nxs]
theorem set_rep{α:Type}(d:Nat)(x y:α)(l:List α):(vaz (d+1) x++l).set d y=vaz d x++y::l:=by
 rw[List.replicate_succ',vvz,List.set_append_right _ _ (by simp)]
 simp
theorem reps_byte:∀(n:Nat),G0 n [.int .u8 0]=B6 (vaz n 0)
 |0=>rfl
 |n+1=>by simp only[G0,reps_byte n];rfl
theorem M5(k:IntKind):∀(n:Nat),G0 n [.int k 0]=ints k (vaz n 0)
 |0=>rfl
 |n+1=>by simp only[G0,M5 k n];rfl
theorem b6Q(h:Heap)(n:Nat)(hn:n<=65536)
  (hQ:∀h',(KS.stage h.next n 0).At h' ->h'.next=h.next+4->(∀b,b<h.next->h'.obj b=h.obj b)->Q (.pointer (some ⟨h.next+3,0,none⟩)) h'):
  u9 cp 92 [.int .i64 n] h Q:=by
 rw[a8 cp f1p]
 have a1:decide ((n:Int)<0)=false:=by simp
 have a2:decide ((n:Int)>65536)=false:=by simp;omega
 have w1:IntKind.i64.wrap (n*64)=((n*64:Nat):Int):=by rw[P9]<;>omega
 simp(disch:=omega)only[c92,↓R92,a1,a2,w1,and_true,true_and,reps_byte,M5 .i8,M5 .i32,y6,↓l9,m9,zA,zB,zC,zD,zE,zF,zG,zH,zI,reduceCtorEq,zJ,zK,zL,zM]
 refine A6 cp b1U _ (fun d e hh=>e 3=.pointer (some ⟨h.next+3,0,none⟩)/\e 4=.int .i64 ((d:Int)-1)/\d<=n/\(KS.stage h.next n d).At hh/\hh.next=h.next+4/\∀b,b<h.next->hh.obj b=h.obj b) ?_ n _ _ ?_
 ·rintro d e hh ⟨e3,e4,hd,hAt,hnx,hold⟩
  cases d with
  |zero=>
   have b1:decide (((0:Nat):Int)-1>=0)=false:=by decide
   simp(disch:=omega)only[b1U,c92,↓R92,e3,e4,b1,↓l9,m9,zA,zB,zC,zD,zE,zF,zG,zH,zI,reduceCtorEq,zJ,zK,zL,zM]
   exact hQ hh hAt hnx hold
  |succ d=>
   have b1:decide (((d+1:Nat):Int)-1>=0)=true:=by simp
   have b2:((d+1:Nat):Int)-1=(d:Int):=by omega
   have w2:IntKind.i32.wrap (d:Int)=d:=by rw[a8D]<;>omega
   obtain⟨hp,hb,hs,hn',lb,ls,ln,d1,d2,d3,d4,d5,d6,nn⟩:=hAt
   rw[b2]at e4 b1
   simp only[KS.stage]at hp hb hs hn' lb ls ln d1 d2 d3 d4 d5 d6
   simp(disch:=omega)only[b1U,c92,↓R92,e3,e4,b1,hp,hb,hs,hn',ls,ln,w2,H7,set_rep,↓l9,m9,zA,zB,zC,zD,zE,zF,zG,zH,zI,reduceCtorEq,zJ,zK,zL,zM]
   have hdn:d≠n:=by omega
   have r1: -1::vaz (n-(d+1)) (-1:Int)=vaz (n-d) (-1):=by
    rw[show n-d=(n-(d+1))+1 by omega,List.replicate_succ]
   have r2:(if d+1=n then(-1:Int)else((d+1:Nat):Int))::(nxs n).drop (d+1)=(nxs n).drop d:=by
    rw[nxs_drop (n:=n) (d:=d) (by omega)];rfl
   rw[r1,r2]
   refine⟨d,by omega,rfl,by omega,⟨?_,?_,?_,?_,?_,?_,?_,d1,d2,d3,d4,d5,d6,nn⟩,hnx,fun b hb=>?_⟩
   ·simp[Heap.upd,KS.stage,hdn]
   ·simp[Heap.upd,KS.stage,hb]
   ·simp[Heap.upd,KS.stage]
   ·simp[Heap.upd,KS.stage]
   ·simp[KS.stage]
   ·simp[KS.stage];omega
   ·simp[KS.stage,nxs_len];omega
   ·have h1:b≠h.next+1:=by omega
    have h2:b≠h.next+2:=by omega
    have h3:b≠h.next+3:=by omega
    simp[Heap.upd,h1,h2,h3,hold b hb]
 ·refine⟨rfl,rfl,uzP _,⟨?_,?_,?_,?_,?_,?_,?_,?_,?_,?_,?_,?_,?_,hn⟩,rfl,fun b hb=>?_⟩
  ·simp[Heap.new,KS.stage]
  ·simp only[Heap.new,KS.stage]
   rw[if_neg (by omega),if_neg (by omega),if_neg (by omega),if_pos trivial]
  ·simp[Heap.new,KS.stage]
  ·simp[Heap.new,KS.stage,List.drop_eq_nil_of_le (Nat.le_of_eq (nxs_len n))]
  ·simp[KS.stage]
  ·simp[KS.stage]
  ·simp[KS.stage,nxs_len]
  ·simp[KS.stage]
  ·simp[KS.stage]
  ·simp[KS.stage]
  ·simp[KS.stage]
  ·simp[KS.stage]
  ·simp[KS.stage]
  ·have h0:b≠h.next:=by omega
   have h1:b≠h.next+1:=by omega
   have h2:b≠h.next+1+1:=by omega
   have h3:b≠h.next+1+1+1:=by omega
   simp[Heap.new,h0,h1,h2,h3]
theorem setB_get:∀(l:List UInt8) (c:List UInt8) (o j:Nat),(setB c o l)[j]? =if o<=j/\j<o+l.length/\j<c.length then l[j-o]? else c[j]?
 | [],c,o,j=>by
  rw[if_neg (by simp only[vkz];omega)];rfl
 |v::vs,c,o,j=>by
  simp only[setB]
  rw[setB_get vs (c.set o v) (o+1) j]
  simp only[viz,uzM,List.getElem?_set]
  by_cases h1:o+1<=j/\j<o+1+vs.length/\j<c.length
  ·rw[if_pos h1,if_pos (by omega),show j-o=(j-(o+1))+1 by omega,vBz]
  ·rw[if_neg h1]
   by_cases h2:o=j
   ·subst h2
    by_cases h3:o<c.length
    ·rw[if_pos (show o<=o/\o<o+(vs.length+1)/\o<c.length by omega),vKz]
     simp[h3]
    ·rw[if_neg (show ¬(o<=o/\o<o+(vs.length+1)/\o<c.length) by omega)]
     simp[h3]
   ·rw[if_neg (show ¬(o<=j/\j<o+(vs.length+1)/\j<c.length) by omega)]
    simp[h2]
def Link(nx:List Int):List Nat->Prop
 | []=>True
 | [i]=>nx[i]? =some (-1)
 |i::j::r=>nx[i]? =some (j:Int)/\Link nx (j::r)
def first:List Nat->Int
 | []=> -1
 |i::_=>i
def kset(f:Nat->Option ByteArray)(i:Nat)(v:Option ByteArray):Nat->Option ByteArray:=fun k=>if k=i then v else f k
structure KS.Good(s:KS)(keys:Nat->Option ByteArray)(fl:List Nat):Prop where
 fr:s.fr=first fl
 link:Link s.nx fl
 nodup:fl.Nodup
 lt:∀i∈fl,i<s.n
 free:∀i,i<s.n->(i∈fl↔keys i=none)
 gone:∀i,i<s.n->keys i=none->s.sz[i]? =some (-1)
 held:∀i k,i<s.n->keys i=some k->s.sz[i]? =some (k.size:Int)/\k.size<=64/\s.key i k.size=k
 us:s.us=(s.n:Int)-fl.length
 le:fl.length<=s.n
theorem Link.tail{nx:List Int}{i:Nat}{r:List Nat}(h:Link nx (i::r)):nx[i]? =some (first r)/\Link nx r:=by
 cases r with
 |nil=>exact⟨h,trivial⟩
 |cons j r=>exact h
theorem Link.set{nx:List Int}{k:Nat}{v:Int}:∀{l:List Nat},k∉l->Link nx l->Link (nx.set k v) l
 | [],_,_=>trivial
 | [i],hk,h=>by
  simp only[List.mem_singleton]at hk
  show(nx.set k v)[i]? =_
  rw[uzI hk];exact h
 |i::j::r,hk,h=>by
  simp only[vxz,not_or]at hk
  refine⟨?_,Link.set (by simp only[vxz,not_or];exact hk.2) h.2⟩
  rw[uzI hk.1];exact h.1
theorem Link.cons{nx:List Int}{i:Nat}{r:List Nat}(h:nx[i]? =some (first r))(hr:Link nx r):Link nx (i::r):=by
 cases r with
 |nil=>exact h
 |cons j r=>exact⟨h,hr⟩
theorem good_put{s:KS}{keys:Nat->Option ByteArray}{i:Nat}{fl:List Nat}(g:s.Good keys (i::fl))(lb:s.by_.length=s.n*64)(ls:s.sz.length=s.n){key:ByteArray}(hk:key.size<=64):(s.put i (first fl) key).Good (kset keys i (some key)) fl:=by
 have hi:=g.lt i vyz
 have hni:i∉fl:=(List.nodup_cons.1 g.nodup).1
 have hle:=g.le
 have hus:=g.us
 simp only[uzM]at hle hus
 refine⟨rfl,g.link.tail.2,(List.nodup_cons.1 g.nodup).2,fun k hk=>g.lt k (List.mem_cons_of_mem _ hk),fun k hkn=>?_,fun k hkn hkk=>?_,fun k key' hkn hkk=>?_,?_,show fl.length<=s.n by omega⟩
 ·unfold kset
  by_cases hki:k=i
  ·subst hki;simp[hni]
  ·rw[if_neg hki,<-g.free k hkn];simp[hki]
 ·unfold kset at hkk
  split at hkk
  ·simp at hkk
  ·rename_i hki
   show(s.sz.set i _)[k]? =_
   rw[uzI (fun h=>hki h.symm)];exact g.gone k hkn hkk
 ·unfold kset at hkk
  split at hkk
  ·rename_i hki
   obtain rfl:=uzA hkk
   subst hki
   refine⟨?_,hk,?_⟩
   ·show(s.sz.set k _)[k]? =_
    rw[uzH (by rw[ls];exact hkn)]
   ·show(⟨(((setB s.by_ (k*64) key.data.toList).drop (k*64)).take key.size).toArray⟩:ByteArray)=key
    have:((setB s.by_ (k*64) key.data.toList).drop (k*64)).take key.size=key.data.toList:=by
     apply List.ext_getElem?
     intro j
     rw[voz,vEz,setB_get]
     have hks:key.data.toList.length=key.size:=by simp
     by_cases hj:j<key.size
     ·rw[if_pos hj,if_pos (by change k<s.n at hkn;omega),Nat.add_sub_cancel_left]
     ·rw[if_neg hj,vmz (by omega)]
    rw[this]
  ·rename_i hki
   obtain⟨h1,h2,h3⟩:=g.held k key' hkn hkk
   refine⟨?_,h2,?_⟩
   ·show(s.sz.set i _)[k]? =_
    rw[uzI (fun h=>hki h.symm)];exact h1
   ·have:(s.put i (first fl) key).key k key'.size=s.key k key'.size:=by
     unfold KS.key
     congr 2
     apply List.ext_getElem?
     intro j
     have hks:key.data.toList.length=key.size:=by simp
     rw[voz,voz,vEz,vEz]
     split
     ·show(setB s.by_ (i*64) key.data.toList)[k*64+j]? =_
      rw[setB_get,if_neg (by rw[hks];intro hc;rcases Nat.lt_or_gt_of_ne hki with h|h<;>omega)]
     ·rfl
    rw[this];exact h3
 ·show s.us+1=_
  rw[hus];simp only[KS.put];omega
theorem nodup_le:∀(n:Nat) (l:List Nat),l.Nodup->(∀x∈l,x<n)->l.length<=n
 |0,[],_,_=>uzP _
 |0,x::l,_,h=>by have:=h x vyz;omega
 |n+1,l,hd,h=>by
  have h1:=nodup_le n (l.erase n) (hd.erase n) fun x hx=>by
   have h2:=(hd.mem_erase_iff).1 hx
   have h3:=h x h2.2
   have h4:=h2.1
   omega
  have h2:=List.length_erase (l:=l) (a:=n)
  split at h2<;>omega
theorem good_free{s:KS}{keys:Nat->Option ByteArray}{k:Nat}{fl:List Nat}(g:s.Good keys fl)(ls:s.sz.length=s.n)(ln:s.nx.length=s.n)(hk:k<s.n){key:ByteArray}(hkey:keys k=some key):(s.free k).Good (kset keys k none) (k::fl):=by
 have hni:k∉fl:=fun h=>by rw[(g.free k hk).1 h]at hkey;simp at hkey
 have hle:=g.le
 have hus:=g.us
 have hlt:fl.length<s.n:=by
  rcases vMz fl.length s.n with h|h
  ·exact h
  ·exfalso
   have h3:=nodup_le s.n (k::fl) (List.nodup_cons.2 ⟨hni,g.nodup⟩) fun x hx=>by
    rcases List.mem_cons.1 hx with rfl|hx
    ·exact hk
    ·exact g.lt x hx
   simp only[uzM]at h3
   omega
 refine⟨rfl,?_,List.nodup_cons.2 ⟨hni,g.nodup⟩,fun i hi=>?_,fun i hin=>?_,fun i hin hii=>?_,fun i key' hin hii=>?_,?_,?_⟩
 ·refine Link.cons ?_ (Link.set hni g.link)
  show(s.nx.set k s.fr)[k]? =_
  rw[uzH (by rw[ln];exact hk),g.fr]
 ·rcases List.mem_cons.1 hi with rfl|hi
  ·exact hk
  ·exact g.lt i hi
 ·unfold kset
  by_cases hki:i=k
  ·subst hki;simp
  ·rw[if_neg hki,<-g.free i hin];simp[hki]
 ·unfold kset at hii
  show(s.sz.set k (-1))[i]? =_
  split at hii
  ·rename_i h;subst h;rw[uzH (by rw[ls];exact hk)]
  ·rename_i h;rw[uzI (fun h' =>h h'.symm)];exact g.gone i hin hii
 ·unfold kset at hii
  split at hii
  ·simp at hii
  ·rename_i h
   obtain⟨h1,h2,h3⟩:=g.held i key' hin hii
   refine⟨?_,h2,h3⟩
   show(s.sz.set k (-1))[i]? =_
   rw[uzI (fun h' =>h h'.symm)];exact h1
 ·show s.us-1=_
  rw[hus];simp only[KS.free,uzM];omega
 ·simp only[KS.free,uzM];omega
theorem link_nxs(n:Nat):∀(m d:Nat),d+m=n->Link (nxs n) (List.range' d m)
 |0,d,h=>trivial
 |m+1,d,h=>by
  rw[List.range'_succ]
  refine Link.cons ?_ (link_nxs n m (d+1) (by omega))
  have hd:(nxs n)[d]? =some (if d+1=n then-1 else(d:Int)+1):=by simp[nxs,show d<n by omega]
  rw[hd]
  cases m with
  |zero=>rw[if_pos (by omega)];rfl
  |succ m=>rw[if_neg (by omega),List.range'_succ];rfl
theorem good_new(b n:Nat):(KS.stage b n 0).Good (fun _=>none) (List.range n):=by
 refine⟨?_,?_,List.nodup_range,fun i hi=>List.mem_range.1 hi,fun i hi=>?_,fun i hi _=>?_,fun i k hi hk=>by simp at hk,?_,?_⟩
 ·simp only[KS.stage]
  cases n with
  |zero=>rfl
  |succ n=>rw[if_neg (by omega),List.range_succ_eq_map];rfl
 ·have:=link_nxs n n 0 (by omega)
  rw[List.range_eq_range']
  simpa [KS.stage]using this
 ·simp[KS.stage]at hi ⊢;exact hi
 ·have hi' :i<n:=hi
  simp[KS.stage,hi']
 ·simp[KS.stage]
 ·simp[KS.stage]
def Store(h:Heap)(p:Nat)(A:List Nat)(n:Nat)(keys:Nat->Option ByteArray)(fl:List Nat):Prop:=
 ∃s:KS,s.p=p/\s.own=A/\s.n=n/\s.At h/\s.Good keys fl
section
variable {h:Heap} {p:Nat} {A:List Nat} {n:Nat} {keys:Nat->Option ByteArray} {fl:List Nat}
theorem st_new(h:Heap)(n:Nat)(hn:n<=65536)
  (hQ:∀h',Store h' (h.next+3) [h.next+3,h.next,h.next+1,h.next+2] n (fun _=>none) (List.range n)->h'.next=h.next+4->(∀b,b<h.next->h'.obj b=h.obj b)->Q (.pointer (some ⟨h.next+3,0,none⟩)) h'):
  u9 cp 92 [.int .i64 n] h Q:=
 b6Q h n hn fun h' hs hnx ho=>hQ h' ⟨_,rfl,rfl,rfl,hs,good_new h.next n⟩ hnx ho
theorem st_put{i:Nat}(S:Store h p A n keys (i::fl)){key:ByteArray}(hk:key.size<=64)
  (hQ:∀h',Store h' p A n (kset keys i (some key)) fl->Kept h h' A->Q (.int .i64 i) h'):u9 cp 168 [.pointer (some ⟨p,0,none⟩),.string key] h Q:=by
 obtain⟨s,rfl,rfl,rfl,hs,g⟩:=S
 have hi:=g.lt i vyz
 have hle:=g.le
 have hus:=g.us
 simp only[uzM]at hle hus
 exact put_ok hs key i (first fl) g.fr hi hk g.link.tail.1 (by omega) (by omega) fun h' hs' k=>hQ h' ⟨s.put i (first fl) key,rfl,rfl,rfl,hs',good_put g hs.lb hs.ls hk⟩ k
theorem has_keys{s:KS}(g:s.Good keys fl){k:Nat}(hk:k<s.n):s.has k=(keys k).isSome:=by
 unfold KS.has
 simp only[vAz,vcz]
 cases hq:keys k with
 |none=>rw[g.gone k hk hq];simp
 |some key=>rw[(g.held k key hk hq).1];simp;omega
def NoKey(n:Nat)(keys:Nat->Option ByteArray)(i:Int):Prop:=∀k:Nat,i=k->k<n->keys k=none
theorem has_no{s:KS}(g:s.Good keys fl){i:Int}(hi:NoKey s.n keys i):s.has i=false:=by
 cases hq:s.has i with
 |false=>rfl
 |true=>
  obtain⟨k,z,rfl,hk,hz⟩:=has_inv hq
  have:=hi k rfl hk
  rw[has_keys g hk,this]at hq
  simp at hq
theorem st_free(S:Store h p A n keys fl){k:Nat}(hk:k<n){key:ByteArray}(hkey:keys k=some key)
  (hQ:∀h',Store h' p A n (kset keys k none) (k::fl)->Kept h h' A->Q (.tuple #[]) h'):u9 cp 178 [.pointer (some ⟨p,0,none⟩),.int .i64 k] h Q:=by
 obtain⟨s,rfl,rfl,rfl,hs,g⟩:=S
 have g' :=good_free g hs.ls hs.ln hk hkey
 have h1:=g'.le
 have h2:=g.us
 simp only[uzM]at h1
 change fl.length+1<=s.n at h1
 exact free_ok hs hk (g.held k key hk hkey).1 (by omega) (by omega) fun h' hs' kp=>hQ h' ⟨s.free k,rfl,rfl,rfl,hs',g'⟩ kp
theorem st_key(S:Store h p A n keys fl){k:Nat}(hk:k<n){key:ByteArray}(hkey:keys k=some key)(Q:Value->Heap->Prop):u9 cp 166 [.pointer (some ⟨p,0,none⟩),.int .i64 k] h Q↔Q (.tuple #[.string key,.bool true]) h:=by
 obtain⟨s,rfl,rfl,rfl,hs,g⟩:=S
 obtain⟨h1,h2,h3⟩:=g.held k key hk hkey
 rw[key_ok hs hk h1 h2,h3]
theorem st_key_no(S:Store h p A n keys fl){i:Int}(hi:NoKey n keys i)(Q:Value->Heap->Prop):u9 cp 166 [.pointer (some ⟨p,0,none⟩),.int .i64 i] h Q↔Q (.tuple #[.string ⟨#[]⟩,.bool false]) h:=by
 obtain⟨s,rfl,rfl,rfl,hs,g⟩:=S
 exact key_no hs (has_no g hi) Q
theorem st_is(S:Store h p A n keys fl){k:Nat}(hk:k<n){key:ByteArray}(hkey:keys k=some key)(x:ByteArray)(Q:Value->Heap->Prop):u9 cp 176 [.pointer (some ⟨p,0,none⟩),.int .i64 k,.string x] h Q↔Q (.bool (key.toList==x.toList)) h:=by
 obtain⟨s,rfl,rfl,rfl,hs,g⟩:=S
 obtain⟨h1,h2,h3⟩:=g.held k key hk hkey
 rw[is_ok hs hk h1 h2,h3]
theorem st_len(S:Store h p A n keys fl)(Q:Value->Heap->Prop):u9 cp 100 [.pointer (some ⟨p,0,none⟩)] h Q↔Q (.int .i64 n) h:=by
 obtain⟨s,rfl,rfl,rfl,hs,g⟩:=S
 exact len_ok hs Q
theorem st_used(S:Store h p A n keys fl)(Q:Value->Heap->Prop):u9 cp 70 [.pointer (some ⟨p,0,none⟩)] h Q↔Q (.int .i64 ((n:Int)-fl.length)) h:=by
 obtain⟨s,rfl,rfl,rfl,hs,g⟩:=S
 rw[used_ok hs,g.us]
end
end Go.Proofs.YtlakhgibjfmjjaaGreat.Can.Keys
namespace Go.Proofs.YtlakhgibjfmjjaaGreat.Digit
theorem test_iff{v1 v0 u d q rhat y:Nat}(hy:y=v1*4294967296+v0)(hr:q*v1+rhat=u):
  u*4294967296+d<q*y↔rhat*4294967296+d<q*v0:=by
 subst hy hr
 rw[Nat.mul_add,vDz,<-Nat.mul_assoc]
 omega
theorem less{N y q:Nat}(h:N<q*y):N / y<=q-1:=by
 have h0:q≠0:=by intro e;subst e;omega
 have h1:N / y<q:=by
  rcases Nat.eq_zero_or_pos y with e|e
  ·subst e;omega
  ·exact(Nat.div_lt_iff_lt_mul e).mpr h
 omega
theorem same{N y q:Nat}(hy:0<y)(h:N / y<=q)(h2:q*y<=N):q=N / y:=by
 have h3:q<=N / y:=(Nat.le_div_iff_mul_le hy).mpr h2
 omega
theorem guess{v1 v0 u d y:Nat}(hy:y=v1*4294967296+v0)(hv1:0<v1):(u*4294967296+d) / y<=u / v1\/4294967296<=d:=by
 by_cases hd:d<4294967296
 ·left
  rw[<-Nat.lt_add_one_iff]
  have hy0:0<y:=by omega
  rw[Nat.div_lt_iff_lt_mul hy0]
  have h1:u<(u / v1+1)*v1:=by
   have:=Nat.div_add_mod u v1
   have:=Nat.mod_lt u hv1
   rw[vDz,Nat.mul_comm];omega
  subst hy
  have h2:(u+1)*4294967296<=(u / v1+1)*v1*4294967296:=vzz _ h1
  rw[Nat.mul_add,<-Nat.mul_assoc]
  omega
 ·right;omega
theorem guess_max{v1 v0 u y:Nat}(hy:y=v1*4294967296+v0)(hv0:v0<4294967296)(hv1:2147483648<=v1)(hu:u<y):u / v1<=4294967297:=by
 rw[<-Nat.lt_add_one_iff,Nat.div_lt_iff_lt_mul (by omega)]
 omega
theorem two{u d1 d0 y:Nat}(hy:0<y):
  let q1:=(u*4294967296+d1) / y;let r1:=(u*4294967296+d1) % y
  let q0:=(r1*4294967296+d0) / y;let r0:=(r1*4294967296+d0) % y
  (u*18446744073709551616+d1*4294967296+d0) / y=q1*4294967296+q0/\(u*18446744073709551616+d1*4294967296+d0) % y=r0:=by
 intro q1 r1 q0 r0
 have e1:y*q1+r1=u*4294967296+d1:=Nat.div_add_mod _ _
 have e0:y*q0+r0=r1*4294967296+d0:=Nat.div_add_mod _ _
 have hr:r0<y:=Nat.mod_lt _ hy
 have e:u*18446744073709551616+d1*4294967296+d0=r0+y*(q1*4294967296+q0):=by
  rw[Nat.mul_add,<-Nat.mul_assoc]
  omega
 rw[e]
 constructor
 ·rw[Nat.add_mul_div_left _ _ hy,Nat.div_eq_of_lt hr,vsz]
 ·rw[Nat.add_mul_mod_self_left,Nat.mod_eq_of_lt hr]
theorem shifted(n y:Nat)(s:Nat):n*2 ^ s / (y*2 ^ s)=n / y/\n*2 ^ s % (y*2 ^ s) / 2 ^ s=n % y:=by
 have hp:0<2 ^ s:=Nat.two_pow_pos s
 constructor
 ·exact Nat.mul_div_mul_right _ _ hp
 ·rw[Nat.mul_mod_mul_right,Nat.mul_div_cancel _ hp]
end Go.Proofs.YtlakhgibjfmjjaaGreat.Digit
namespace Go.Proofs.YtlakhgibjfmjjaaGreat.Can
open Go
attribute [local congr] u5 u4 l5 l8 r8 s9 u6 w9 u7
variable {Q : Value → Heap → Prop}
def b6L(x:Nat):Nat:=if x=0 then 0 else Nat.log2 x+1
theorem d9s:∀x:Nat,x<256->d0s.data[x]? =some (UInt8.ofNat (b6L x))/\b6L x<=8/\x<2 ^ b6L x/\(x≠0->2 ^ b6L x<=2*x):=by decide+kernel
theorem d9r(x:Nat)(hx:x<18446744073709551616):∃n:Nat,n<=64/\x<2 ^ n/\(x≠0->2 ^ n<=2*x)/\∀(h:Heap) (Q:Value->Heap->Prop),u9 cp 190 [.int .u64 x] h Q↔Q (.int .i64 n) h:=by
 have step:∀(y k n:Nat),y<2 ^ n->(y≠0->2 ^ n<=2*y)->∀z,y=z / 2 ^ k->y≠0->z<2 ^ (k+n)/\2 ^ (k+n)<=2*z:=fun y k n h1 h2 z hz hy=>by
  have h3:=h2 hy
  subst hz
  have hp:=Nat.two_pow_pos k
  rw[Nat.pow_add]
  constructor
  ·have:=(Nat.div_lt_iff_lt_mul hp).1 h1
   rw[Nat.mul_comm];exact this
  ·have h4:=Nat.mul_le_mul_left (2 ^ k) h3
   have h5:2 ^ k*(z / 2 ^ k)<=z:=Nat.mul_div_le _ _
   rw[Nat.mul_left_comm]at h4
   omega
 have last:∀(y:Nat),y<256->∃t,t<=8/\y<2 ^ t/\(y≠0->2 ^ t<=2*y)/\∀h,C7 (.indexStr (.string d0s) (.int .u8 y)) h=some (.int .u8 (t:Nat),h):=fun y hy=>by
  obtain⟨h1,h2,h3,h4⟩:=d9s y hy
  refine⟨b6L y,h2,h3,h4,fun h=>?_⟩
  show(if(0:Int)<=(y:Int)then(d0s.data[((y:Nat):Int).toNat]?).map (fun b=>(Value.int .u8 b.toNat,h))else none)=_
  generalize d0s.data=d at h1
  rw[if_pos (by omega),vAz,h1]
  have h5:(UInt8.ofNat (b6L y)).toNat=b6L y:=by simp;omega
  rw[vlz,h5]
 have sh:∀(y k:Nat),k<=64->((y:Nat):Int).fdiv (2 ^ (min k IntKind.u64.bits))=((y / 2 ^ k:Nat):Int):=fun y k hk=>by
  rw[a2i .u64 _ k hk,Int.natCast_ediv,Int.natCast_pow];rfl
 have c8:∀y:Nat,y<256->IntKind.u8.wrap (y:Int)=y:=fun y hy=>by rw[wu8];omega
 by_cases c0:4294967296<=x
 ·have a0:decide (((x:Nat):Int)>=4294967296)=true:=dTz (by omega)
  have e0:=sh x 32 (by decide)
  obtain⟨y0,hy0⟩:∃y,y=x / 2 ^ 32:=⟨_,rfl⟩
  rw[<-hy0]at e0
  by_cases c1:65536<=y0
  ·have a1:decide (((y0:Nat):Int)>=65536)=true:=dTz (by omega)
   have e1:=sh y0 16 (by decide)
   obtain⟨y1,hy1⟩:∃y,y=y0 / 2 ^ 16:=⟨_,rfl⟩
   rw[<-hy1]at e1
   by_cases c2:256<=y1
   ·have a2:decide (((y1:Nat):Int)>=256)=true:=dTz (by omega)
    have e2:=sh y1 8 (by decide)
    obtain⟨y2,hy2⟩:∃y,y=y1 / 2 ^ 8:=⟨_,rfl⟩
    rw[<-hy2]at e2
    obtain⟨t,t8,u1,u2,f⟩:=last y2 (by omega)
    have k8:=c8 y2 (by omega)
    have b1:=u1
    have b2:=u2
    obtain⟨b1,b2'⟩:=step y2 8 _ b1 b2 y1 hy2 (by omega)
    have b2:y1≠0->_:=fun _=>b2'
    obtain⟨b1,b2'⟩:=step y1 16 _ b1 b2 y0 hy1 (by omega)
    have b2:y0≠0->_:=fun _=>b2'
    obtain⟨b1,b2'⟩:=step y0 32 _ b1 b2 x hy0 (by omega)
    have b2:x≠0->_:=fun _=>b2'
    refine⟨32+(16+(8+t)),by omega,b1,b2,fun h Q=>v9 ?_ Q⟩
    rw[a8 cp a4D]
    simp(disch:=omega)only[a7t,↓b2Q,↓f,a0,e0,a1,e1,a2,e2,k8,↓l9,m9,zA,zB,zC,zD,zE,zF,zG,zH,zI,reduceCtorEq,zJ,zK,zL,zM]
    all_goals first| (congr 1;done)| (congr 1;omega)
   ·have a2:decide (((y1:Nat):Int)>=256)=false:=dFz (by omega)
    obtain⟨t,t8,u1,u2,f⟩:=last y1 (by omega)
    have k8:=c8 y1 (by omega)
    have b1:=u1
    have b2:=u2
    obtain⟨b1,b2'⟩:=step y1 16 _ b1 b2 y0 hy1 (by omega)
    have b2:y0≠0->_:=fun _=>b2'
    obtain⟨b1,b2'⟩:=step y0 32 _ b1 b2 x hy0 (by omega)
    have b2:x≠0->_:=fun _=>b2'
    refine⟨32+(16+t),by omega,b1,b2,fun h Q=>v9 ?_ Q⟩
    rw[a8 cp a4D]
    simp(disch:=omega)only[a7t,↓b2Q,↓f,a0,e0,a1,e1,a2,k8,↓l9,m9,zA,zB,zC,zD,zE,zF,zG,zH,zI,reduceCtorEq,zJ,zK,zL,zM]
    all_goals first| (congr 1;done)| (congr 1;omega)
  ·have a1:decide (((y0:Nat):Int)>=65536)=false:=dFz (by omega)
   by_cases c2:256<=y0
   ·have a2:decide (((y0:Nat):Int)>=256)=true:=dTz (by omega)
    have e2:=sh y0 8 (by decide)
    obtain⟨y2,hy2⟩:∃y,y=y0 / 2 ^ 8:=⟨_,rfl⟩
    rw[<-hy2]at e2
    obtain⟨t,t8,u1,u2,f⟩:=last y2 (by omega)
    have k8:=c8 y2 (by omega)
    have b1:=u1
    have b2:=u2
    obtain⟨b1,b2'⟩:=step y2 8 _ b1 b2 y0 hy2 (by omega)
    have b2:y0≠0->_:=fun _=>b2'
    obtain⟨b1,b2'⟩:=step y0 32 _ b1 b2 x hy0 (by omega)
    have b2:x≠0->_:=fun _=>b2'
    refine⟨32+(8+t),by omega,b1,b2,fun h Q=>v9 ?_ Q⟩
    rw[a8 cp a4D]
    simp(disch:=omega)only[a7t,↓b2Q,↓f,a0,e0,a1,a2,e2,k8,↓l9,m9,zA,zB,zC,zD,zE,zF,zG,zH,zI,reduceCtorEq,zJ,zK,zL,zM]
    all_goals first| (congr 1;done)| (congr 1;omega)
   ·have a2:decide (((y0:Nat):Int)>=256)=false:=dFz (by omega)
    obtain⟨t,t8,u1,u2,f⟩:=last y0 (by omega)
    have k8:=c8 y0 (by omega)
    have b1:=u1
    have b2:=u2
    obtain⟨b1,b2'⟩:=step y0 32 _ b1 b2 x hy0 (by omega)
    have b2:x≠0->_:=fun _=>b2'
    refine⟨32+t,by omega,b1,b2,fun h Q=>v9 ?_ Q⟩
    rw[a8 cp a4D]
    simp(disch:=omega)only[a7t,↓b2Q,↓f,a0,e0,a1,a2,k8,↓l9,m9,zA,zB,zC,zD,zE,zF,zG,zH,zI,reduceCtorEq,zJ,zK,zL,zM]
    all_goals first| (congr 1;done)| (congr 1;omega)
 ·have a0:decide (((x:Nat):Int)>=4294967296)=false:=dFz (by omega)
  by_cases c1:65536<=x
  ·have a1:decide (((x:Nat):Int)>=65536)=true:=dTz (by omega)
   have e1:=sh x 16 (by decide)
   obtain⟨y1,hy1⟩:∃y,y=x / 2 ^ 16:=⟨_,rfl⟩
   rw[<-hy1]at e1
   by_cases c2:256<=y1
   ·have a2:decide (((y1:Nat):Int)>=256)=true:=dTz (by omega)
    have e2:=sh y1 8 (by decide)
    obtain⟨y2,hy2⟩:∃y,y=y1 / 2 ^ 8:=⟨_,rfl⟩
    rw[<-hy2]at e2
    obtain⟨t,t8,u1,u2,f⟩:=last y2 (by omega)
    have k8:=c8 y2 (by omega)
    have b1:=u1
    have b2:=u2
    obtain⟨b1,b2'⟩:=step y2 8 _ b1 b2 y1 hy2 (by omega)
    have b2:y1≠0->_:=fun _=>b2'
    obtain⟨b1,b2'⟩:=step y1 16 _ b1 b2 x hy1 (by omega)
    have b2:x≠0->_:=fun _=>b2'
    refine⟨16+(8+t),by omega,b1,b2,fun h Q=>v9 ?_ Q⟩
    rw[a8 cp a4D]
    simp(disch:=omega)only[a7t,↓b2Q,↓f,a0,a1,e1,a2,e2,k8,↓l9,m9,zA,zB,zC,zD,zE,zF,zG,zH,zI,reduceCtorEq,zJ,zK,zL,zM]
    all_goals first| (congr 1;done)| (congr 1;omega)
   ·have a2:decide (((y1:Nat):Int)>=256)=false:=dFz (by omega)
    obtain⟨t,t8,u1,u2,f⟩:=last y1 (by omega)
    have k8:=c8 y1 (by omega)
    have b1:=u1
    have b2:=u2
    obtain⟨b1,b2'⟩:=step y1 16 _ b1 b2 x hy1 (by omega)
    have b2:x≠0->_:=fun _=>b2'
    refine⟨16+t,by omega,b1,b2,fun h Q=>v9 ?_ Q⟩
    rw[a8 cp a4D]
    simp(disch:=omega)only[a7t,↓b2Q,↓f,a0,a1,e1,a2,k8,↓l9,m9,zA,zB,zC,zD,zE,zF,zG,zH,zI,reduceCtorEq,zJ,zK,zL,zM]
    all_goals first| (congr 1;done)| (congr 1;omega)
  ·have a1:decide (((x:Nat):Int)>=65536)=false:=dFz (by omega)
   by_cases c2:256<=x
   ·have a2:decide (((x:Nat):Int)>=256)=true:=dTz (by omega)
    have e2:=sh x 8 (by decide)
    obtain⟨y2,hy2⟩:∃y,y=x / 2 ^ 8:=⟨_,rfl⟩
    rw[<-hy2]at e2
    obtain⟨t,t8,u1,u2,f⟩:=last y2 (by omega)
    have k8:=c8 y2 (by omega)
    have b1:=u1
    have b2:=u2
    obtain⟨b1,b2'⟩:=step y2 8 _ b1 b2 x hy2 (by omega)
    have b2:x≠0->_:=fun _=>b2'
    refine⟨8+t,by omega,b1,b2,fun h Q=>v9 ?_ Q⟩
    rw[a8 cp a4D]
    simp(disch:=omega)only[a7t,↓b2Q,↓f,a0,a1,a2,e2,k8,↓l9,m9,zA,zB,zC,zD,zE,zF,zG,zH,zI,reduceCtorEq,zJ,zK,zL,zM]
    all_goals first| (congr 1;done)| (congr 1;omega)
   ·have a2:decide (((x:Nat):Int)>=256)=false:=dFz (by omega)
    obtain⟨t,t8,u1,u2,f⟩:=last x (by omega)
    have k8:=c8 x (by omega)
    have b1:=u1
    have b2:=u2
    refine⟨t,by omega,b1,b2,fun h Q=>v9 ?_ Q⟩
    rw[a8 cp a4D]
    simp(disch:=omega)only[a7t,↓b2Q,↓f,a0,a1,a2,k8,↓l9,m9,zA,zB,zC,zD,zE,zF,zG,zH,zI,reduceCtorEq,zJ,zK,zL,zM]
    all_goals first| (congr 1;done)| (congr 1;omega)
theorem e8f(x:Nat)(hx:x<18446744073709551616)(h0:x≠0):∃s:Nat,s<=63/\9223372036854775808<=x*2 ^ s/\x*2 ^ s<18446744073709551616/\∀(h:Heap) (Q:Value->Heap->Prop),u9 cp 189 [.int .u64 x] h Q↔Q (.int .i64 s) h:=by
 obtain⟨n,hn,b,a,f⟩:=d9r x hx
 have a:=a h0
 have hl:1<=n:=by
  rcases Nat.eq_zero_or_pos n with e|e
  ·rw[e]at b;omega
  ·exact e
 have e:2 ^ n*2 ^ (64-n)=2 ^ 64:=by rw[<-Nat.pow_add];congr 1;omega
 refine⟨64-n,by omega,?_,?_,fun h Q=>v9 ?_ Q⟩
 ·have:=vzz (2 ^ (64-n)) a
  rw[e,Nat.mul_assoc]at this
  omega
 ·have:=Nat.mul_lt_mul_of_pos_right b (Nat.two_pow_pos (64-n))
  rw[e]at this
  omega
 ·rw[a8 cp e6B]
  simp(disch:=omega)only[e1t,↓f0j,f,↓l9,m9,zA,zB,zC,zD,zE,zF,zG,zH,zI,reduceCtorEq,zJ,zK,zL,zM]
  congr 1;omega
theorem a2U{u d y:Nat}(hu:u<y)(hd:d<4294967296):(u*4294967296+d) / y<4294967296:=by
 rw[Nat.div_lt_iff_lt_mul (by omega)]
 have:=Nat.mul_le_mul_left 4294967296 (show u+1<=y from hu)
 omega
theorem c7k(u d y q:Nat)(hy0:0<y)(hy:y<18446744073709551616)(hq:q=(u*4294967296+d) / y):
  IntKind.u64.wrap (IntKind.u64.wrap (IntKind.u64.wrap ((u:Int)*4294967296)+(d:Int))-IntKind.u64.wrap ((q:Int)*(y:Int)))=(((u*4294967296+d) % y:Nat):Int):=by
 have h1:=Nat.div_add_mod (u*4294967296+d) y
 have h2:=Nat.mod_lt (u*4294967296+d) hy0
 rw[<-hq]at h1
 rw[<-Int.natCast_mul,Nat.mul_comm q y]
 obtain⟨B,hB⟩:∃B,B=y*q:=⟨_,rfl⟩
 obtain⟨r,hr⟩:∃r,r=(u*4294967296+d) % y:=⟨_,rfl⟩
 rw[<-hB]at h1 ⊢
 rw[<-hr]at h1 h2 ⊢
 simp only[a1Z]
 omega
theorem e4m(h:Heap)(y v1 v0 u d:Nat)(hy:y=v1*4294967296+v0)(hv1:2147483648<=v1)(hv1' :v1<4294967296)(hv0:v0<4294967296)(hd:d<4294967296)(hu:u<y){Q:B5}(keep:List Nat)(hk1:keep.elem 15=false)(hk2:keep.elem 16=false)(hk3:keep.all (fun t=>t<19)=true)
  (n q rhat:Nat) (h1:4294967296<=rhat+n*v1) (h2:q*v1+rhat=u) (h3:(u*4294967296+d) / y<=q) (h4:q<=4294967297) (h5:rhat<4294967296) (e:a7)
  (e9:e 9=.int .u64 v1) (e10:e 10=.int .u64 v0) (ed:e 13=.int .u64 d) (eq:e 15=.int .u64 q) (er:e 16=.int .u64 rhat)
  (hQ:∀e',N2 keep e e' ->e' 15=.int .u64 (((u*4294967296+d) / y:Nat):Int)->Q (.exit 0) e' h):I1 cp (.loop a0y) e h Q:=by
 have hy0:0<y:=by omega
 obtain⟨Q0,hQ0⟩:∃Q0,Q0=(u*4294967296+d) / y:=⟨_,rfl⟩
 rw[<-hQ0]at h3 hQ
 have kp:∀t,19<=t->keep.elem t=false:=fun t ht=>by
  cases hh:keep.elem t with
  |false=>rfl
  |true=>
   have hm:t∈keep:=List.elem_iff.1 hh
   have:=List.all_eq_true.1 hk3 t hm
   simp at this;omega
 refine A6 cp _ Q (fun n e' h' =>h' =h/\N2 keep e e' /\e' 9=.int .u64 v1/\e' 10=.int .u64 v0/\e' 13=.int .u64 d/\∃q rhat:Nat,e' 15=.int .u64 q/\e' 16=.int .u64 rhat/\4294967296<=rhat+n*v1/\q*v1+rhat=u/\Q0<=q/\q<=4294967297/\rhat<4294967296) ?_ n e h
  ⟨rfl,N2.refl _ _,e9,e10,ed,q,rhat,eq,er,h1,h2,h3,h4,h5⟩
 clear h1 h2 h3 h4 h5 eq er e9 e10 ed
 rintro n e' h' ⟨rfl,ag,e9,e10,ed,q,rhat,eq,er,h1,h2,h3,h4,h5⟩
 have hti:= @Digit.test_iff v1 v0 u d q rhat y hy h2
 by_cases c:4294967296<=q\/u*4294967296+d<q*y
 ·
  obtain⟨n,rfl⟩:∃m,n=m+1:=⟨n-1,by
   rcases Nat.eq_zero_or_pos n with h0|h0
   ·subst h0;omega
   ·omega⟩
  have hle:Q0<=q-1:=by
   rcases c with c|c
   ·have:Q0<4294967296:=by rw[hQ0];exact a2U hu hd
    omega
   ·rw[hQ0];exact Digit.less c
  have hq0:1<=q:=by
   rcases c with c|c
   ·omega
   ·rcases Nat.eq_zero_or_pos q with e|e
    ·subst e;omega
    ·exact e
  have h2' :(q-1)*v1+(rhat+v1)=u:=by
   obtain⟨p,rfl⟩:∃p,q=p+1:=⟨q-1,by omega⟩
   rw[vDz]at h2;rw[Nat.add_sub_cancel];omega
  have k1:(q:Int)-1=((q-1:Nat):Int):=by omega
  have k2:(rhat:Int)+(v1:Int)=((rhat+v1:Nat):Int):=by omega
  have h1' :4294967296<=(rhat+v1)+n*v1:=by rw[vDz]at h1;omega
  have last:4294967296<=rhat+v1->q-1=Q0:=fun c2=>by
   have hti2:= @Digit.test_iff v1 v0 u d (q-1) (rhat+v1) y hy h2'
   have hp:(q-1)*v0<=4294967296*4294967295:=Nat.mul_le_mul (by omega) (by omega)
   rw[hQ0];refine Digit.same hy0 (by rw[<-hQ0];exact hle) (vGz fun h=>?_)
   have:=hti2.mp h
   omega
  by_cases cq:4294967296<=q
  ·have b1:decide ((q:Int)>=4294967296)=true:=dTz (by omega)
   by_cases c2:4294967296<=rhat+v1
   ·have b2:decide (((rhat+v1:Nat):Int)>=4294967296)=true:=dTz (by omega)
    simp(disch:=omega)only[a0y,a1e,↓a2H,e9,e10,ed,eq,er,b1,b2,k1,k2,↓l9,m9,zA,zB,zC,zD,zE,zF,zG,zH,zI,reduceCtorEq,zJ,zK,zL,zM]
    refine hQ _ ?_ (by rw[<-last c2];rfl)
    repeat' (first|exact ag| (refine N2.upd ?_ (by first|exact hk1|exact hk2|exact kp _ (by decide)) _))
   ·have b2:decide (((rhat+v1:Nat):Int)>=4294967296)=false:=dFz (by omega)
    simp(disch:=omega)only[a0y,a1e,↓a2H,e9,e10,ed,eq,er,b1,b2,k1,k2,↓l9,m9,zA,zB,zC,zD,zE,zF,zG,zH,zI,reduceCtorEq,zJ,zK,zL,zM]
    refine⟨n,by omega,?_,q-1,rhat+v1,rfl,rfl,h1',h2',hle,by omega,by omega⟩
    repeat' (first|exact ag| (refine N2.upd ?_ (by first|exact hk1|exact hk2|exact kp _ (by decide)) _))
  ·have hp:q*v0<=4294967295*4294967295:=Nat.mul_le_mul (by omega) (by omega)
   have b1:decide ((q:Int)>=4294967296)=false:=dFz (by omega)
   have w1:IntKind.u64.wrap ((q:Int)*(v0:Int))=((q*v0:Nat):Int):=by rw[<-Int.natCast_mul,U4]<;>omega
   have b3:decide (((q*v0:Nat):Int)>4294967296*(rhat:Int)+(d:Int))=true:=dTz (by have:=hti.1 (c.resolve_left cq);omega)
   by_cases c2:4294967296<=rhat+v1
   ·have b2:decide (((rhat+v1:Nat):Int)>=4294967296)=true:=dTz (by omega)
    simp(disch:=omega)only[a0y,a1e,↓a2H,e9,e10,ed,eq,er,b1,b2,b3,w1,k1,k2,↓l9,m9,zA,zB,zC,zD,zE,zF,zG,zH,zI,reduceCtorEq,zJ,zK,zL,zM]
    refine hQ _ ?_ (by rw[<-last c2];rfl)
    repeat' (first|exact ag| (refine N2.upd ?_ (by first|exact hk1|exact hk2|exact kp _ (by decide)) _))
   ·have b2:decide (((rhat+v1:Nat):Int)>=4294967296)=false:=dFz (by omega)
    simp(disch:=omega)only[a0y,a1e,↓a2H,e9,e10,ed,eq,er,b1,b2,b3,w1,k1,k2,↓l9,m9,zA,zB,zC,zD,zE,zF,zG,zH,zI,reduceCtorEq,zJ,zK,zL,zM]
    refine⟨n,by omega,?_,q-1,rhat+v1,rfl,rfl,h1',h2',hle,by omega,by omega⟩
    repeat' (first|exact ag| (refine N2.upd ?_ (by first|exact hk1|exact hk2|exact kp _ (by decide)) _))
 ·
  have cq:q<4294967296:=by omega
  have hsame:q=Q0:=by
   rw[hQ0];refine Digit.same hy0 (by rw[<-hQ0];exact h3) (vGz fun h=>c (Or.inr h))
  have hp:q*v0<=4294967295*4294967295:=Nat.mul_le_mul (by omega) (by omega)
  have b1:decide ((q:Int)>=4294967296)=false:=dFz (by omega)
  have w1:IntKind.u64.wrap ((q:Int)*(v0:Int))=((q*v0:Nat):Int):=by rw[<-Int.natCast_mul,U4]<;>omega
  have b3:decide (((q*v0:Nat):Int)>4294967296*(rhat:Int)+(d:Int))=false:=dFz (by
   have:¬rhat*4294967296+d<q*v0:=fun hh=>c (.inr (hti.2 hh))
   omega)
  simp(disch:=omega)only[a0y,a1e,↓a2H,e9,e10,ed,eq,er,b1,b3,w1,↓l9,m9,zA,zB,zC,zD,zE,zF,zG,zH,zI,reduceCtorEq,zJ,zK,zL,zM]
  refine hQ _ ?_ (by rw[<-hsame];exact eq)
  repeat' (first|exact ag| (refine N2.upd ?_ (by first|exact hk1|exact hk2|exact kp _ (by decide)) _))
theorem e4n(h:Heap)(y v1 v0 u d:Nat)(hy:y=v1*4294967296+v0)(hv1:2147483648<=v1)(hv1' :v1<4294967296)(hv0:v0<4294967296)(hd:d<4294967296)(hu:u<y){Q:B5}(keep:List Nat)(hk1:keep.elem 18=false)(hk2:keep.elem 16=false)(hk3:keep.all (fun t=>t<19)=true)
  (n q rhat:Nat) (h1:4294967296<=rhat+n*v1) (h2:q*v1+rhat=u) (h3:(u*4294967296+d) / y<=q) (h4:q<=4294967297) (h5:rhat<4294967296) (e:a7)
  (e9:e 9=.int .u64 v1) (e10:e 10=.int .u64 v0) (ed:e 14=.int .u64 d) (eq:e 18=.int .u64 q) (er:e 16=.int .u64 rhat)
  (hQ:∀e',N2 keep e e' ->e' 18=.int .u64 (((u*4294967296+d) / y:Nat):Int)->Q (.exit 2) e' h):I1 cp (.loop a0z) e h Q:=by
 have hy0:0<y:=by omega
 obtain⟨Q0,hQ0⟩:∃Q0,Q0=(u*4294967296+d) / y:=⟨_,rfl⟩
 rw[<-hQ0]at h3 hQ
 have kp:∀t,19<=t->keep.elem t=false:=fun t ht=>by
  cases hh:keep.elem t with
  |false=>rfl
  |true=>
   have hm:t∈keep:=List.elem_iff.1 hh
   have:=List.all_eq_true.1 hk3 t hm
   simp at this;omega
 refine A6 cp _ Q (fun n e' h' =>h' =h/\N2 keep e e' /\e' 9=.int .u64 v1/\e' 10=.int .u64 v0/\e' 14=.int .u64 d/\∃q rhat:Nat,e' 18=.int .u64 q/\e' 16=.int .u64 rhat/\4294967296<=rhat+n*v1/\q*v1+rhat=u/\Q0<=q/\q<=4294967297/\rhat<4294967296) ?_ n e h
  ⟨rfl,N2.refl _ _,e9,e10,ed,q,rhat,eq,er,h1,h2,h3,h4,h5⟩
 clear h1 h2 h3 h4 h5 eq er e9 e10 ed
 rintro n e' h' ⟨rfl,ag,e9,e10,ed,q,rhat,eq,er,h1,h2,h3,h4,h5⟩
 have hti:= @Digit.test_iff v1 v0 u d q rhat y hy h2
 by_cases c:4294967296<=q\/u*4294967296+d<q*y
 ·
  obtain⟨n,rfl⟩:∃m,n=m+1:=⟨n-1,by
   rcases Nat.eq_zero_or_pos n with h0|h0
   ·subst h0;omega
   ·omega⟩
  have hle:Q0<=q-1:=by
   rcases c with c|c
   ·have:Q0<4294967296:=by rw[hQ0];exact a2U hu hd
    omega
   ·rw[hQ0];exact Digit.less c
  have hq0:1<=q:=by
   rcases c with c|c
   ·omega
   ·rcases Nat.eq_zero_or_pos q with e|e
    ·subst e;omega
    ·exact e
  have h2' :(q-1)*v1+(rhat+v1)=u:=by
   obtain⟨p,rfl⟩:∃p,q=p+1:=⟨q-1,by omega⟩
   rw[vDz]at h2;rw[Nat.add_sub_cancel];omega
  have k1:(q:Int)-1=((q-1:Nat):Int):=by omega
  have k2:(rhat:Int)+(v1:Int)=((rhat+v1:Nat):Int):=by omega
  have h1' :4294967296<=(rhat+v1)+n*v1:=by rw[vDz]at h1;omega
  have last:4294967296<=rhat+v1->q-1=Q0:=fun c2=>by
   have hti2:= @Digit.test_iff v1 v0 u d (q-1) (rhat+v1) y hy h2'
   have hp:(q-1)*v0<=4294967296*4294967295:=Nat.mul_le_mul (by omega) (by omega)
   rw[hQ0];refine Digit.same hy0 (by rw[<-hQ0];exact hle) (vGz fun h=>?_)
   have:=hti2.mp h
   omega
  by_cases cq:4294967296<=q
  ·have b1:decide ((q:Int)>=4294967296)=true:=dTz (by omega)
   by_cases c2:4294967296<=rhat+v1
   ·have b2:decide (((rhat+v1:Nat):Int)>=4294967296)=true:=dTz (by omega)
    simp(disch:=omega)only[a0z,a1e,↓a2H,e9,e10,ed,eq,er,b1,b2,k1,k2,↓l9,m9,zA,zB,zC,zD,zE,zF,zG,zH,zI,reduceCtorEq,zJ,zK,zL,zM]
    refine hQ _ ?_ (by rw[<-last c2];rfl)
    repeat' (first|exact ag| (refine N2.upd ?_ (by first|exact hk1|exact hk2|exact kp _ (by decide)) _))
   ·have b2:decide (((rhat+v1:Nat):Int)>=4294967296)=false:=dFz (by omega)
    simp(disch:=omega)only[a0z,a1e,↓a2H,e9,e10,ed,eq,er,b1,b2,k1,k2,↓l9,m9,zA,zB,zC,zD,zE,zF,zG,zH,zI,reduceCtorEq,zJ,zK,zL,zM]
    refine⟨n,by omega,?_,q-1,rhat+v1,rfl,rfl,h1',h2',hle,by omega,by omega⟩
    repeat' (first|exact ag| (refine N2.upd ?_ (by first|exact hk1|exact hk2|exact kp _ (by decide)) _))
  ·have hp:q*v0<=4294967295*4294967295:=Nat.mul_le_mul (by omega) (by omega)
   have b1:decide ((q:Int)>=4294967296)=false:=dFz (by omega)
   have w1:IntKind.u64.wrap ((q:Int)*(v0:Int))=((q*v0:Nat):Int):=by rw[<-Int.natCast_mul,U4]<;>omega
   have b3:decide (((q*v0:Nat):Int)>4294967296*(rhat:Int)+(d:Int))=true:=dTz (by have:=hti.1 (c.resolve_left cq);omega)
   by_cases c2:4294967296<=rhat+v1
   ·have b2:decide (((rhat+v1:Nat):Int)>=4294967296)=true:=dTz (by omega)
    simp(disch:=omega)only[a0z,a1e,↓a2H,e9,e10,ed,eq,er,b1,b2,b3,w1,k1,k2,↓l9,m9,zA,zB,zC,zD,zE,zF,zG,zH,zI,reduceCtorEq,zJ,zK,zL,zM]
    refine hQ _ ?_ (by rw[<-last c2];rfl)
    repeat' (first|exact ag| (refine N2.upd ?_ (by first|exact hk1|exact hk2|exact kp _ (by decide)) _))
   ·have b2:decide (((rhat+v1:Nat):Int)>=4294967296)=false:=dFz (by omega)
    simp(disch:=omega)only[a0z,a1e,↓a2H,e9,e10,ed,eq,er,b1,b2,b3,w1,k1,k2,↓l9,m9,zA,zB,zC,zD,zE,zF,zG,zH,zI,reduceCtorEq,zJ,zK,zL,zM]
    refine⟨n,by omega,?_,q-1,rhat+v1,rfl,rfl,h1',h2',hle,by omega,by omega⟩
    repeat' (first|exact ag| (refine N2.upd ?_ (by first|exact hk1|exact hk2|exact kp _ (by decide)) _))
 ·
  have cq:q<4294967296:=by omega
  have hsame:q=Q0:=by
   rw[hQ0];refine Digit.same hy0 (by rw[<-hQ0];exact h3) (vGz fun h=>c (Or.inr h))
  have hp:q*v0<=4294967295*4294967295:=Nat.mul_le_mul (by omega) (by omega)
  have b1:decide ((q:Int)>=4294967296)=false:=dFz (by omega)
  have w1:IntKind.u64.wrap ((q:Int)*(v0:Int))=((q*v0:Nat):Int):=by rw[<-Int.natCast_mul,U4]<;>omega
  have b3:decide (((q*v0:Nat):Int)>4294967296*(rhat:Int)+(d:Int))=false:=dFz (by
   have:¬rhat*4294967296+d<q*v0:=fun hh=>c (.inr (hti.2 hh))
   omega)
  simp(disch:=omega)only[a0z,a1e,↓a2H,e9,e10,ed,eq,er,b1,b3,w1,↓l9,m9,zA,zB,zC,zD,zE,zF,zG,zH,zI,reduceCtorEq,zJ,zK,zL,zM]
  refine hQ _ ?_ (by rw[<-hsame];exact eq)
  repeat' (first|exact ag| (refine N2.upd ?_ (by first|exact hk1|exact hk2|exact kp _ (by decide)) _))
theorem b6V(i:Nat)(x y:Int)(hx0:0<=x)(hx:x % 2 ^ i=0)(hx1:x<18446744073709551616)(hy0:0<=y)(hy:y<2 ^ i)(hy1:y<18446744073709551616):
  IntKind.u64.wrap ((BitVec.ofInt IntKind.u64.bits x |||BitVec.ofInt IntKind.u64.bits y).toNat:Int)=x+y:=
 bits_join .u64 64 (by decide) (b2M 64 (by decide)) i x y hx0 hx (by omega) hy0 hy (by omega)
theorem a7T(U v1:Nat)(hv:0<v1)(hU:U<18446744073709551616):IntKind.u64.wrap (Int.tdiv (U:Int) (v1:Int))=((U / v1:Nat):Int)/\IntKind.u64.wrap ((U:Int)-IntKind.u64.wrap (((U / v1:Nat):Int)*(v1:Int)))=((U % v1:Nat):Int):=by
 have hm:U / v1*v1+U % v1=U:=by rw[Nat.mul_comm];exact Nat.div_add_mod U v1
 have h1:U / v1<=U:=Nat.div_le_self _ _
 constructor
 ·rw[a5w _ _ (by omega),<-Int.natCast_ediv,U4 (Int.natCast_nonneg _) (by omega)]
 ·rw[<-Int.natCast_mul,U4 (n:=((U / v1*v1:Nat):Int)) (by omega) (by omega),U4 (by omega) (by omega)]
  omega
theorem d8W(h:Heap)(hi lo y:Nat)(hhi:hi<y)(hlo:lo<18446744073709551616)(hy:y<18446744073709551616)(Q:Value->Heap->Prop):
  u9 cp 184 [.int .u64 hi,.int .u64 lo,.int .u64 y] h Q↔Q (.tuple #[.int .u64 (((hi*18446744073709551616+lo) / y:Nat):Int),.int .u64 (((hi*18446744073709551616+lo) % y:Nat):Int)]) h:=by
 refine v9 ?_ Q
 rw[a8 cp e6w]
 have hy0:y≠0:=by omega
 have a1:((y:Int)==0)=false:=beq_eq_false_iff_ne.2 (by omega)
 have a2:decide ((y:Int)<=(hi:Int))=false:=dFz (by omega)
 by_cases h0:hi=0
 ·subst h0
  have z0:(((0:Nat):Int)==0)=true:=rfl
  have n0:((y:Int)=0)=False:=by simp;omega
  have e1:IntKind.u64.wrap (Int.tdiv (lo:Int) (y:Int))=((lo / y:Nat):Int):=(a7T lo y (by omega) hlo).1
  have e2:Int.tmod (lo:Int) (y:Int)=((lo % y:Nat):Int):=by rw[J8 _ _ (by omega),<-Int.natCast_emod]
  simp(disch:=omega)only[a1e,↓a2H,a1,a2,z0,n0,e1,e2,Nat.zero_mul,↓l9,m9,zA,zB,zC,zD,zE,zF,zG,zH,zI,reduceCtorEq,zJ,zK,zL,zM]
 have a3:((hi:Int)==0)=false:=beq_eq_false_iff_ne.2 (by omega)
 obtain⟨s,hs,hn1,hn2,flz⟩:=e8f y hy hy0
 have hp:0<2 ^ s:=Nat.two_pow_pos s
 have hps:2 ^ s*2 ^ (64-s)=18446744073709551616:=by rw[<-Nat.pow_add,show s+(64-s)=64 from by omega]
 have k64:(64-(s:Int)).toNat=64-s:=by omega
 have sh:∀(y k:Nat),k<=64->((y:Nat):Int).fdiv (2 ^ (min k IntKind.u64.bits))=((y / 2 ^ k:Nat):Int):=fun y k hk=>by
  rw[a2i .u64 _ k hk,Int.natCast_ediv,Int.natCast_pow];rfl
 have sl:∀(x:Nat),IntKind.u64.wrap ((x:Int)*2 ^ (min s IntKind.u64.bits))=((x*2 ^ s % 18446744073709551616:Nat):Int):=fun x=>by
  rw[b5r .u64 _ s (by show s<=64;omega),a1Z,Int.natCast_emod,Int.natCast_mul,Int.natCast_pow];rfl
 have ey:=sl y
 rw[Nat.mod_eq_of_lt hn2]at ey
 have eh:=sl hi
 have hhs' :hi*2 ^ s<y*2 ^ s:=Nat.mul_lt_mul_of_pos_right hhi hp
 rw[Nat.mod_eq_of_lt (by omega)]at eh
 have el:=sh lo (64-s) (by omega)
 have el2:=sl lo
 have hlq:lo / 2 ^ (64-s)<2 ^ s:=by
  rw[Nat.div_lt_iff_lt_mul (Nat.two_pow_pos _),hps];exact hlo
 have hhs:hi*2 ^ s+2 ^ s<=y*2 ^ s:=by
  have:=vzz (2 ^ s) (show hi+1<=y from hhi)
  rw[vDz,Nat.one_mul]at this;exact this
 have eor:IntKind.u64.wrap ((BitVec.ofInt IntKind.u64.bits ((hi*2 ^ s:Nat):Int) |||BitVec.ofInt IntKind.u64.bits ((lo / 2 ^ (64-s):Nat):Int)).toNat:Int)=((hi*2 ^ s+lo / 2 ^ (64-s):Nat):Int):=by
  have hm:((hi*2 ^ s:Nat):Int) % 2 ^ s=0:=by
   have:((hi*2 ^ s % 2 ^ s:Nat):Int)=0:=by rw[Nat.mul_mod_left];rfl
   rw[Int.natCast_emod,Int.natCast_pow]at this;exact this
  have hlq' :((lo / 2 ^ (64-s):Nat):Int)<2 ^ s:=by
   have:((lo / 2 ^ (64-s):Nat):Int)<((2 ^ s:Nat):Int):=by exact_mod_cast hlq
   rw[Int.natCast_pow]at this;exact this
  clear el el2 eh ey hps sl sh k64 flz
  generalize hi*2 ^ s=A at*
  generalize lo / 2 ^ (64-s)=B at*
  generalize y*2 ^ s=C at*
  generalize hD:(2:Nat) ^ s=D at*
  rw[b6V s _ _ (Int.natCast_nonneg _) hm (by omega) (Int.natCast_nonneg _) hlq' (by omega)];omega
 obtain⟨Y,hY⟩:∃Y,Y=y*2 ^ s:=⟨_,rfl⟩
 obtain⟨U,hU⟩:∃U,U=hi*2 ^ s+lo / 2 ^ (64-s):=⟨_,rfl⟩
 obtain⟨L,hL⟩:∃L,L=lo*2 ^ s % 18446744073709551616:=⟨_,rfl⟩
 have hsum:(hi*18446744073709551616+lo)*2 ^ s=U*18446744073709551616+L / 4294967296*4294967296+L % 4294967296:=by
  have e1:lo*2 ^ s / 18446744073709551616=lo / 2 ^ (64-s):=by
   rw[<-hps,Nat.mul_comm (2 ^ s),Nat.mul_div_mul_right _ _ hp]
  have e2:=Nat.div_add_mod (lo*2 ^ s) 18446744073709551616
  rw[e1,<-hL]at e2
  rw[hU,vDz,Nat.mul_assoc,Nat.mul_comm 18446744073709551616,<-Nat.mul_assoc,vDz]
  generalize hi*2 ^ s=A
  omega
 have hLlt:L<18446744073709551616:=by rw[hL];exact Nat.mod_lt _ (by decide)
 have hUY:U<Y:=by rw[hU,hY];omega
 have hd:=Digit.shifted (hi*18446744073709551616+lo) y s
 rw[<-hY]at hn1 hn2 hd ey
 rw[<-hU]at eor
 rw[<-hL]at el2
 obtain⟨v1,hv1⟩:∃v,v=Y / 4294967296:=⟨_,rfl⟩
 obtain⟨v0,hv0⟩:∃v,v=Y % 4294967296:=⟨_,rfl⟩
 obtain⟨d1,hd1⟩:∃v,v=L / 4294967296:=⟨_,rfl⟩
 obtain⟨d0,hd0⟩:∃v,v=L % 4294967296:=⟨_,rfl⟩
 have i1:=sh Y 32 (by decide)
 rw[show(2:Nat) ^ 32=4294967296 from rfl,<-hv1]at i1
 have i2:IntKind.u64.wrap ((BitVec.ofInt IntKind.u64.bits (Y:Int) &&& BitVec.ofInt IntKind.u64.bits 4294967295).toNat:Int)=(v0:Int):=by
  rw[a2M 32 (by decide) _ _ (by decide)]
  have:(2:Int) ^ 32=4294967296:=by decide
  rw[this];omega
 have i3:=sh L 32 (by decide)
 rw[show(2:Nat) ^ 32=4294967296 from rfl,<-hd1]at i3
 have i4:IntKind.u64.wrap ((BitVec.ofInt IntKind.u64.bits (L:Int) &&& BitVec.ofInt IntKind.u64.bits 4294967295).toNat:Int)=(d0:Int):=by
  rw[a2M 32 (by decide) _ _ (by decide)]
  have:(2:Int) ^ 32=4294967296:=by decide
  rw[this];omega
 have v1p:0<v1:=by omega
 have nv:((v1:Int)=0)=False:=by simp;omega
 obtain⟨q1,q2⟩:=a7T U v1 v1p (by omega)
 have q2' :(U:Int)-((U / v1:Nat):Int)*(v1:Int)=((U % v1:Nat):Int):=by
  have hm:U / v1*v1+U % v1=U:=by rw[Nat.mul_comm];exact Nat.div_add_mod U v1
  rw[<-Int.natCast_mul];omega
 have hyv:Y=v1*4294967296+v0:=by omega
 have hUm:U / v1*v1+U % v1=U:=by rw[Nat.mul_comm];exact Nat.div_add_mod U v1
 have hUl:U % v1<v1:=Nat.mod_lt _ v1p
 have gs:∀u d:Nat,d<4294967296->(u*4294967296+d) / Y<=u / v1:=fun u d hd=>by
  rcases Digit.guess (u:=u) (d:=d) hyv v1p with h|h
  ·exact h
  ·omega
 simp(disch:=omega)only[a1e,↓a2H,a1,a2,a3,flz,ey,eh,el,el2,eor,k64,i1,i2,i3,i4,nv,q1,q2,q2',↓l9,m9,zA,zB,zC,zD,zE,zF,zG,zH,zI,reduceCtorEq,zJ,zK,zL,zM]
 refine e4m h Y v1 v0 U d1 hyv (by omega) (by omega) (by omega) (by omega) hUY [2,8,9,11,13,10,14] (by decide) (by decide) (by decide) 2 (U / v1) (U % v1) (by omega) hUm (gs U d1 (by omega)) (Digit.guess_max hyv (by omega) (by omega) hUY) (by omega) _ rfl rfl rfl rfl rfl fun e ag e15=>?_
 have e2:e 2=.int .u64 Y:=ag 2 (by decide)
 have e8:e 8=.int .u64 s:=ag 8 (by decide)
 have e9:e 9=.int .u64 v1:=ag 9 (by decide)
 have e10:e 10=.int .u64 v0:=ag 10 (by decide)
 have e11:e 11=.int .u64 U:=ag 11 (by decide)
 have e13:e 13=.int .u64 d1:=ag 13 (by decide)
 have e14:e 14=.int .u64 d0:=ag 14 (by decide)
 have hr:=c7k U d1 Y _ (by omega) hn2 rfl
 have hQlt:=a2U (u:=U) (d:=d1) (y:=Y) hUY (by omega)
 obtain⟨Q1,hQ1⟩:∃z,(U*4294967296+d1) / Y=z:=⟨_,rfl⟩
 rw[hQ1]at hr e15 hQlt
 have hU2:(U*4294967296+d1) % Y<Y:=Nat.mod_lt _ (by omega)
 obtain⟨U2,hU2d⟩:∃z,(U*4294967296+d1) % Y=z:=⟨_,rfl⟩
 rw[hU2d]at hr hU2
 obtain⟨q3,q4⟩:=a7T U2 v1 v1p (by omega)
 have q4' :(U2:Int)-((U2 / v1:Nat):Int)*(v1:Int)=((U2 % v1:Nat):Int):=by
  have hm:U2 / v1*v1+U2 % v1=U2:=by rw[Nat.mul_comm];exact Nat.div_add_mod U2 v1
  rw[<-Int.natCast_mul];omega
 have hUm2:U2 / v1*v1+U2 % v1=U2:=by rw[Nat.mul_comm];exact Nat.div_add_mod U2 v1
 have hUl2:U2 % v1<v1:=Nat.mod_lt _ v1p
 simp(disch:=omega)only[a1e,↓a2H,e2,e9,e11,e13,e15,hr,nv,q3,q4,q4',↓l9,m9,zA,zB,zC,zD,zE,zF,zG,zH,zI,reduceCtorEq,zJ,zK,zL,zM]
 refine e4n h Y v1 v0 U2 d0 hyv (by omega) (by omega) (by omega) (by omega) hU2 [2,8,14,15,17] (by decide) (by decide) (by decide) 2 (U2 / v1) (U2 % v1) (by omega) hUm2 (gs U2 d0 (by omega)) (Digit.guess_max hyv (by omega) (by omega) hU2) (by omega) _ e9 e10 e14 rfl rfl fun f ag2 f18=>?_
 have f2:f 2=.int .u64 Y:=(ag2 2 (by decide)).trans e2
 have f8:f 8=.int .u64 s:=(ag2 8 (by decide)).trans e8
 have f14:f 14=.int .u64 d0:=(ag2 14 (by decide)).trans e14
 have f15:f 15=.int .u64 Q1:=(ag2 15 (by decide)).trans e15
 have f17:f 17=.int .u64 U2:=ag2 17 (by decide)
 have hr2:=c7k U2 d0 Y _ (by omega) hn2 rfl
 have hQlt2:=a2U (u:=U2) (d:=d0) (y:=Y) hU2 (by omega)
 have hr3:=sh ((U2*4294967296+d0) % Y) s (by omega)
 obtain⟨t1,t2⟩:=Digit.two (u:=U) (d1:=d1) (d0:=d0) (y:=Y) (by omega)
 simp only[hQ1,hU2d]at t1 t2
 have hUs:U*18446744073709551616+d1*4294967296+d0=(hi*18446744073709551616+lo)*2 ^ s:=by rw[hsum,hd1,hd0]
 rw[hUs,hd.1]at t1
 rw[hUs]at t2
 rw[<-t2,hd.2]at hr3
 rw[<-t2]at hr2
 obtain⟨Q2,hQ2⟩:∃z,(U2*4294967296+d0) / Y=z:=⟨_,rfl⟩
 rw[hQ2]at hr2 f18 hQlt2 t1
 simp(disch:=omega)only[a1e,↓a2H,f2,f8,f14,f15,f17,f18,hr2,hr3,↓l9,m9,zA,zB,zC,zD,zE,zF,zG,zH,zI,reduceCtorEq,zJ,zK,zL,zM]
 rw[t1]
 congr 3
theorem b6D(h:Heap)(x:Nat)(hx:x<18446744073709551616)(Q:Value->Heap->Prop):u9 cp 90 [.int .u64 x] h Q↔Q (.int .u64 ((x % 2305843009213693951:Nat):Int)) h:=by
 refine v9 ?_ Q
 rw[a8 cp f1n]
 have m1:=fun x:Int=>a2M 61 (by decide) x 2305843009213693951 (by decide)
 have s1:=fun x:Int=>a2i .u64 x 61 (by decide)
 have p61:(2:Int) ^ 61=2305843009213693952:=by decide
 by_cases c:2305843009213693951<=x / 2305843009213693952+x % 2305843009213693952
 ·have a1:decide ((x:Int) / 2305843009213693952+(x:Int) % 2305843009213693952>=2305843009213693951)=true:=dTz (by omega)
  simp(disch:=omega)only[c90,↓R90,m1,s1,p61,a1,↓l9,m9,zA,zB,zC,zD,zE,zF,zG,zH,zI,reduceCtorEq,zJ,zK,zL,zM]
  congr 1;omega
 ·have a1:decide ((x:Int) / 2305843009213693952+(x:Int) % 2305843009213693952>=2305843009213693951)=false:=dFz (by omega)
  simp(disch:=omega)only[c90,↓R90,m1,s1,p61,a1,↓l9,m9,zA,zB,zC,zD,zE,zF,zG,zH,zI,reduceCtorEq,zJ,zK,zL,zM]
  congr 1;omega
theorem b2e(h:Heap)(a b:Nat)(hx:a+b<18446744073709551616)(Q:Value->Heap->Prop):u9 cp 186 [.int .u64 a,.int .u64 b] h Q↔Q (.int .u64 (((a+b) % 2305843009213693951:Nat):Int)) h:=by
 refine v9 ?_ Q
 rw[a8 cp e6y]
 have e:((a:Int)+(b:Int))=((a+b:Nat):Int):=by omega
 have f:=fun h=>b6D h (a+b) hx
 simp(disch:=omega)only[e1r,↓f0h,e,f,↓l9,m9,zA,zB,zC,zD,zE,zF,zG,zH,zI,reduceCtorEq,zJ,zK,zL,zM]
theorem e4r(n:Nat):(n / 2305843009213693952 % 2305843009213693951+n % 2305843009213693952 % 2305843009213693951) % 2305843009213693951=n % 2305843009213693951:=by
 omega
theorem c7d(h:Heap)(a b:Nat)(ha:a<2305843009213693952)(hb:b<2305843009213693952)(Q:Value->Heap->Prop):u9 cp 187 [.int .u64 a,.int .u64 b] h Q↔Q (.int .u64 ((a*b % 2305843009213693951:Nat):Int)) h:=by
 refine v9 ?_ Q
 rw[a8 cp e6z]
 obtain⟨n,hn⟩:∃n,n=a*b:=⟨_,rfl⟩
 have hnl:n<=2305843009213693951*2305843009213693951:=by rw[hn];exact Nat.mul_le_mul (by omega) (by omega)
 have f1:∀(h:Heap) (Q:Value->Heap->Prop),u9 cp 85 [.int .u64 a,.int .u64 b] h Q↔Q (.tuple #[.int .u64 ((n / 18446744073709551616:Nat):Int),.int .u64 ((n % 18446744073709551616:Nat):Int)]) h:=fun h Q=>by
  have e:((a:Int)*(b:Int))=(n:Int):=by rw[hn,Int.natCast_mul]
  rw[a8g h a b (by unfold U64;omega) (by unfold U64;omega),e];rfl
 have m1:=fun x:Int=>a2M 61 (by decide) x 2305843009213693951 (by decide)
 have s1:=fun x:Int=>a2i .u64 x 61 (by decide)
 have s3:=fun x:Int=>b5r .u64 x 3 (by decide)
 have p61:(2:Int) ^ 61=2305843009213693952:=by decide
 have p3:(2:Int) ^ 3=8:=by decide
 have eor:IntKind.u64.wrap ((BitVec.ofInt IntKind.u64.bits (((n / 18446744073709551616:Nat):Int)*8) |||BitVec.ofInt IntKind.u64.bits (((n % 18446744073709551616:Nat):Int) / 2305843009213693952)).toNat:Int)=((n / 2305843009213693952:Nat):Int):=by
  rw[b6V 3 _ _ (by omega) (by rw[p3];omega) (by omega) (by omega) (by rw[p3];omega) (by omega)];omega
 have t1:Int.tmod (((n % 18446744073709551616:Nat):Int) % 2305843009213693952) 2305843009213693951=((n % 2305843009213693952 % 2305843009213693951:Nat):Int):=by
  rw[J8 _ _ (by omega)];omega
 have f2:=fun h=>b6D h (n / 2305843009213693952) (by omega)
 have f3:=fun h=>b2e h (n / 2305843009213693952 % 2305843009213693951) (n % 2305843009213693952 % 2305843009213693951) (by omega)
 simp(disch:=omega)only[e1s,↓f0i,f1,m1,s1,s3,p61,p3,eor,t1,f2,f3,↓l9,m9,zA,zB,zC,zD,zE,zF,zG,zH,zI,reduceCtorEq,zJ,zK,zL,zM]
 rw[e4r,hn]
theorem b0N(h:Heap)(a b c:Nat)(ha:a<18446744073709551616)(hb:b<18446744073709551616)(hc:c<18446744073709551616)(hf:a*b / 18446744073709551616<c)(Q:Value->Heap->Prop):
  u9 cp 181 [.int .u64 a,.int .u64 b,.int .u64 c] h Q↔Q (.tuple #[.int .u64 ((a*b / c:Nat):Int),.int .u64 ((a*b % c:Nat):Int),.bool true]) h:=by
 refine v9 ?_ Q
 rw[a8 cp e6t]
 have f1:∀(h:Heap) (Q:Value->Heap->Prop),u9 cp 85 [.int .u64 a,.int .u64 b] h Q↔Q (.tuple #[.int .u64 ((a*b / 18446744073709551616:Nat):Int),.int .u64 ((a*b % 18446744073709551616:Nat):Int)]) h:=fun h Q=>by
  rw[a8g h a b (by unfold U64;omega) (by unfold U64;omega)];rfl
 have a1:((c:Int)==0)=false:=beq_eq_false_iff_ne.2 (by omega)
 have a2:decide (((a*b / 18446744073709551616:Nat):Int)>=(c:Int))=false:=dFz (by omega)
 have f2:=fun h=>d8W h (a*b / 18446744073709551616) (a*b % 18446744073709551616) c hf (Nat.mod_lt _ (by decide)) hc
 have e:a*b / 18446744073709551616*18446744073709551616+a*b % 18446744073709551616=a*b:=by rw[Nat.mul_comm (a*b / _)];exact Nat.div_add_mod _ _
 rw[e]at f2
 simp(disch:=omega)only[e1o,↓f0e,f1,f2,a1,a2,↓l9,m9,zA,zB,zC,zD,zE,zF,zG,zH,zI,reduceCtorEq,zJ,zK,zL,zM]
theorem e1E(h:Heap)(a b c:Nat)(ha:a<18446744073709551616)(hb:b<18446744073709551616)(hc:c<18446744073709551616)(hf:a*b / 18446744073709551616<c)(Q:Value->Heap->Prop):
  u9 cp 185 [.int .u64 a,.int .u64 b,.int .u64 c] h Q↔Q (.tuple #[.int .u64 ((a*b / c:Nat):Int),.bool true]) h:=by
 refine v9 ?_ Q
 rw[a8 cp e6x]
 have f:=fun h=>b0N h a b c ha hb hc hf
 simp(disch:=omega)only[e1q,↓f0g,f,↓l9,m9,zA,zB,zC,zD,zE,zF,zG,zH,zI,reduceCtorEq,zJ,zK,zL,zM]
theorem d9J(h:Heap)(x n:Nat)(hx:x<2305843009213693951)(hn:1<=n)(hm:n<9223372036854775808)(Q:Value->Heap->Prop):
  u9 cp 182 [.int .u64 x,.int .i64 n] h Q↔Q (.int .i64 ((x*n / 2305843009213693951:Nat):Int)) h:=by
 refine v9 ?_ Q
 rw[a8 cp e6u]
 have hp:x*n<=2305843009213693950*9223372036854775807:=Nat.mul_le_mul (by omega) (by omega)
 have hpn:x*n<=2305843009213693951*n:=vzz n (by omega)
 have hq:x*n / 2305843009213693951<=n:=Nat.div_le_of_le_mul hpn
 have a1:decide ((n:Int)<1)=false:=dFz (by omega)
 have f:∀(h:Heap) (Q:Value->Heap->Prop),u9 cp 185 [.int .u64 x,.int .u64 n,.int .u64 2305843009213693951] h Q↔Q (.tuple #[.int .u64 ((x*n / 2305843009213693951:Nat):Int),.bool true]) h:=
  fun h=>e1E h x n 2305843009213693951 (by omega) (by omega) (by omega) (by omega)
 simp(disch:=omega)only[e1p,↓f0f,f,a1,↓l9,m9,zA,zB,zC,zD,zE,zF,zG,zH,zI,reduceCtorEq,zJ,zK,zL,zM]
def Z0(s:ByteArray):Nat->Nat
 |0=>0
 |i+1=>Z0 s i*256+(s.data[i]?.getD 0).toNat
theorem a8B(s:ByteArray):∀i,Z0 s i<256 ^ i
 |0=>by simp[Z0]
 |i+1=>by
  have h1:=a8B s i
  have h2:=UInt8.toNat_lt (s.data[i]?.getD 0)
  simp only[Z0,Nat.pow_succ]
  omega
theorem c9Q(s:ByteArray){i:Nat}(h:i<=7):Z0 s i<72057594037927936:=
 uzN (a8B s i) (Nat.pow_le_pow_right (by decide) h)
theorem c9P(s:ByteArray){i:Nat}(h:i<=6):Z0 s i<281474976710656:=
 uzN (a8B s i) (Nat.pow_le_pow_right (by decide) h)
def b5Y(s:ByteArray)(k:Nat):ByteArray:=s.extract (7*k) (min (7*k+7) s.size)
def blk(s:ByteArray)(k:Nat):Nat:=Z0 (b5Y s k) (b5Y s k).size
theorem a9g(s:ByteArray)(k:Nat):(b5Y s k).size<=7:=by
 unfold b5Y
 rw[ByteArray.size_extract];omega
theorem e3b(s:ByteArray)(k:Nat):blk s k<72057594037927936:=c9Q _ (a9g s k)
def a2c(s:ByteArray)(X:Nat):Nat->Nat
 |0=>s.size+1
 |k+1=>(a2c s X k*X % 2305843009213693951+blk s k) % 2305843009213693951
theorem b4O(s:ByteArray)(hs:s.size<=140737488355328)(X:Nat):∀k,a2c s X k<2305843009213693951
 |0=>by simp only[a2c];omega
 |k+1=>Nat.mod_lt _ (by decide)
abbrev M7:=Int×Int×Int
abbrev a0i:Enc M7:=Enc.pair (Enc.int .u64) (Enc.pair (Enc.int .u64) (Enc.int .u64))
structure M7.OK(r:M7):Prop where
 x:0<=r.1/\r.1<=2305843009213693951
 a:0<=r.2.1/\r.2.1<=2305843009213693951
 b:0<=r.2.2/\r.2.2<=2305843009213693951
def hOf(r:M7)(s:ByteArray):Nat:=(a2c s r.1.toNat ((s.size+6) / 7)*r.2.1.toNat % 2305843009213693951+r.2.2.toNat) % 2305843009213693951
theorem d9k(r:M7)(s:ByteArray):hOf r s<2305843009213693951:=Nat.mod_lt _ (by decide)
def bkt(r:M7)(s:ByteArray)(n:Nat):Nat:=hOf r s*n / 2305843009213693951
theorem b5X(r:M7)(s:ByteArray){n:Nat}(hn:1<=n):bkt r s n<n:=by
 unfold bkt
 rw[Nat.div_lt_iff_lt_mul (by decide),Nat.mul_comm n]
 exact Nat.mul_lt_mul_of_pos_right (d9k r s) hn
theorem c9R(h:Heap)(s:ByteArray)(n:Nat)(hn:s.size=n)(h7:n<=7){Q:B5}(e:a7)(e0:e 0=.string s)(e3:e 3=.int .u64 ((0:Nat):Int))(e6:e 6=.int .i64 n)(e7:e 7=.int .i64 ((0:Nat):Int))
  (hQ:∀e',e' 3=.int .u64 (Z0 s n:Nat)->Q (.exit 0) e' h):I1 cp (.loop a5n) e h Q:=by
 refine A6 cp _ Q (fun d e' h' =>h' =h/\∃i:Nat,i<=n/\d=n-i/\e' 0=.string s/\e' 3=.int .u64 (Z0 s i:Nat)/\e' 6=.int .i64 n/\e' 7=.int .i64 i) ?_ n e h ⟨rfl,0,vJz _,rfl,e0,e3,e6,e7⟩
 clear e0 e3 e6 e7
 rintro d e' h' ⟨rfl,i,hi,rfl,e0,e3,e6,e7⟩
 by_cases c:i<n
 ·have b1:decide ((i:Int)<(n:Int))=true:=dTz (by omega)
  have s8:=fun x:Int=>b5r .u64 x 8 (by decide)
  have p8:(2:Int) ^ 8=256:=by decide
  obtain⟨b,hb⟩:∃b,s.data[i]? =some b:=⟨_,Array.getElem?_eq_getElem (show i<s.data.size by rw[<-hn]at c;exact c)⟩
  have hlt:=c9P s (show i<=6 by omega)
  have hw:Z0 s (i+1)=Z0 s i*256+b.toNat:=by simp only[Z0,hb,vFz]
  have hb8:b.toNat<256:=UInt8.toNat_lt b
  have eor:IntKind.u64.wrap ((BitVec.ofInt IntKind.u64.bits ((Z0 s i:Int)*256) |||BitVec.ofInt IntKind.u64.bits ((b.toNat:Nat):Int)).toNat:Int)=((Z0 s (i+1):Nat):Int):=by
   rw[b6V 8 _ _ (by omega) (by rw[p8];omega) (by omega) (by omega) (by rw[p8];omega) (by omega),hw];omega
  have nx:(i:Int)+1=((i+1:Nat):Int):=by omega
  simp(disch:=omega)only[a5n,b6m,↓e0N,e0,e3,e6,e7,b1,hb,s8,p8,eor,nx,↓l9,m9,zA,zB,zC,zD,zE,zF,zG,zH,zI,reduceCtorEq,zJ,zK,zL,zM]
  refine⟨n-(i+1),by omega,i+1,by omega,rfl,?_⟩
  repeat' first|assumption|rfl|apply And.intro
 ·have b1:decide ((i:Int)<(n:Int))=false:=dFz (by omega)
  have:i=n:=by omega
  subst this
  simp(disch:=omega)only[a5n,b6m,↓e0N,e0,e3,e6,e7,b1,↓l9,m9,zA,zB,zC,zD,zE,zF,zG,zH,zI,reduceCtorEq,zJ,zK,zL,zM]
  exact hQ _ e3
theorem e2o(h:Heap)(s:ByteArray)(h7:s.size<=7)(Q:Value->Heap->Prop):u9 cp 188 [.string s] h Q↔Q (.int .u64 (Z0 s s.size:Nat)) h:=by
 refine v9 ?_ Q
 rw[a8 cp e6A]
 simp(disch:=omega)only[b6m,↓e0N,↓l9,m9,zA,zB,zC,zD,zE,zF,zG,zH,zI,reduceCtorEq,zJ,zK,zL,zM]
 refine c9R h s s.size rfl h7 _ rfl rfl rfl rfl fun e' e3=>?_
 simp(disch:=omega)only[b6m,↓e0N,e3,↓l9,m9,zA,zB,zC,zD,zE,zF,zG,zH,zI,reduceCtorEq,zJ,zK,zL,zM]
theorem d9l(h:Heap)(r:M7)(hr:r.OK)(s:ByteArray)(hs:s.size<=140737488355328)(b:Nat)(t:TypeId)(hob:h.obj b=.cells (a0i.enc r) t .fix){Q:B5}(e:a7)(e1:e 1=.string s)(e2:e 2=.pointer (some ⟨b,0,none⟩))(e5:e 5=.int .u64 ((s.size+1:Nat):Int))(e6:e 6=.int .i64 ((0:Nat):Int))
  (hQ:∀e',e' 2=.pointer (some ⟨b,0,none⟩)->e' 5=.int .u64 (a2c s r.1.toNat ((s.size+6) / 7):Nat)->Q (.exit 0) e' h):I1 cp (.loop a5m) e h Q:=by
 obtain⟨N,hN⟩:∃N,N=(s.size+6) / 7:=⟨_,rfl⟩
 refine A6 cp _ Q (fun d e' h' =>h' =h/\∃k:Nat,k<=N/\d=N-k/\e' 1=.string s/\e' 2=.pointer (some ⟨b,0,none⟩)/\e' 5=.int .u64 (a2c s r.1.toNat k:Nat)/\e' 6=.int .i64 ((7*k:Nat):Int)) ?_ N e h ⟨rfl,0,vJz _,rfl,e1,e2,e5,e6⟩
 clear e1 e2 e5 e6
 rintro d e' h' ⟨rfl,k,hk,rfl,e1,e2,e5,e6⟩
 obtain⟨X,A,B⟩:=r
 obtain⟨hx,ha,hb⟩:=hr
 simp only at hx ha hb e5 hQ ⊢
 obtain⟨X,rfl⟩:∃x:Nat,X=x:=⟨X.toNat,by omega⟩
 simp only[vAz]at e5 hQ ⊢
 have hob:h'.obj b=.cells [.int .u64 X,.int .u64 A,.int .u64 B] t .fix:=hob
 by_cases c:7*k<s.size
 ·have b1:decide (((7*k:Nat):Int)<((s.size:Nat):Int))=true:=dTz (by omega)
  have f1:=fun h=>c7d h (a2c s X k) X (by have:=b4O s hs X k;omega) (by omega)
  have hlt:a2c s X k*X % 2305843009213693951<2305843009213693951:=Nat.mod_lt _ (by decide)
  have f2:∀(h:Heap) (Q:Value->Heap->Prop),u9 cp 188 [.string (b5Y s k)] h Q↔Q (.int .u64 (blk s k:Nat)) h:=fun h=>e2o h (b5Y s k) (a9g s k)
  have f3:=fun h=>b2e h (a2c s X k*X % 2305843009213693951) (blk s k) (by have:=e3b s k;omega)
  have nx:((7*k:Nat):Int)+7=((7*(k+1):Nat):Int):=by omega
  have mn:(if((s.size:Nat):Int)<((7*(k+1):Nat):Int)then((s.size:Nat):Int)else((7*(k+1):Nat):Int))=((min (7*k+7) s.size:Nat):Int):=by split<;>omega
  have sl:∀h,C7 (.sliceStr (.string s) (some (.int .i64 ((7*k:Nat):Int))) (some (.int .i64 ((min (7*k+7) s.size:Nat):Int)))) h=some (.string (b5Y s k),h):=fun h=>by
   have k1:min (7*k+7) s.size<=s.size:=Nat.min_le_right _ _
   have k2:7*k<=min (7*k+7) s.size:=by omega
   simp(disch:=omega)only[↓l9,m9,zA,zB,zC,zD,zE,zF,zG,zH,zI,reduceCtorEq,zJ,zK,zL,zM]
   rfl
  have mm:∀h,C7 (.minmax false [.int .i64 ((7*(k+1):Nat):Int),.int .i64 ((s.size:Nat):Int)]) h=some (.int .i64 ((min (7*k+7) s.size:Nat):Int),h):=fun h=>by
   show(some (Value.int .i64 (if((s.size:Nat):Int)<((7*(k+1):Nat):Int)then((s.size:Nat):Int)else((7*(k+1):Nat):Int)))).map (fun v=>(v,h))=_
   rw[mn];rfl
  simp(disch:=omega)only[a5m,b6k,↓e0M,e1,e2,e5,e6,b1,hob,f1,f2,f3,nx,↓sl,↓mm,↓l9,m9,zA,zB,zC,zD,zE,zF,zG,zH,zI,reduceCtorEq,zJ,zK,zL,zM]
  refine⟨N-(k+1),by omega,k+1,by omega,rfl,?_⟩
  repeat' first|assumption|rfl|apply And.intro
 ·have b1:decide (((7*k:Nat):Int)<((s.size:Nat):Int))=false:=dFz (by omega)
  have:k=N:=by omega
  subst this
  simp(disch:=omega)only[a5m,b6k,↓e0M,e1,e2,e5,e6,b1,↓l9,m9,zA,zB,zC,zD,zE,zF,zG,zH,zI,reduceCtorEq,zJ,zK,zL,zM]
  exact hQ _ e2 (by rw[<-hN];exact e5)
theorem e4u(h:Heap)(r:M7)(hr:r.OK)(s:ByteArray)(hs:s.size<=140737488355328)(Q:Value->Heap->Prop):
  u9 cp 183 [.agg (a0i.enc r).toArray,.string s] h Q↔Q (.int .u64 (hOf r s:Nat)) (h.new (.cells (a0i.enc r) 182 .fix)):=by
 refine v9 ?_ Q
 rw[a8 cp e6v]
 have nx:((s.size:Nat):Int)+1=((s.size+1:Nat):Int):=by omega
 obtain⟨X,A,B⟩:=r
 have hr0:=hr
 obtain⟨hx,ha,hb⟩:=hr
 simp only at hx ha hb
 obtain⟨A,rfl⟩:∃x:Nat,A=x:=⟨A.toNat,by omega⟩
 obtain⟨B,rfl⟩:∃x:Nat,B=x:=⟨B.toNat,by omega⟩
 have en:a0i.enc (X,(A:Int),(B:Int))=[.int .u64 X,.int .u64 A,.int .u64 B]:=rfl
 simp(disch:=omega)only[b6k,↓e0M,nx,en,↓l9,m9,zA,zB,zC,zD,zE,zF,zG,zH,zI,reduceCtorEq,zJ,zK,zL,zM]
 refine d9l (h.new (.cells (a0i.enc (X,(A:Int),(B:Int))) 182 .fix)) (X,A,B) hr0 s hs h.next 182 (f9 _ _) _ rfl rfl rfl rfl fun e' e2 e5=>?_
 simp only at e5
 obtain⟨H,hH⟩:∃H,H=a2c s X.toNat ((s.size+6) / 7):=⟨_,rfl⟩
 have hHl:H<2305843009213693951:=by rw[hH];exact b4O s hs _ _
 rw[<-hH]at e5
 have f1:=fun h=>c7d h H A (by omega) (by omega)
 have hlt:H*A % 2305843009213693951<2305843009213693951:=Nat.mod_lt _ (by decide)
 have f2:=fun h=>b2e h (H*A % 2305843009213693951) B (by omega)
 have ho:hOf (X,(A:Int),(B:Int)) s=(H*A % 2305843009213693951+B) % 2305843009213693951:=by rw[hH];rfl
 rw[ho]
 simp(disch:=omega)only[b6k,↓e0M,e2,e5,f1,f2,en,↓l9,m9,zA,zB,zC,zD,zE,zF,zG,zH,zI,reduceCtorEq,zJ,zK,zL,zM]
theorem d0t(h:Heap)(r:M7)(hr:r.OK)(s:ByteArray)(hs:s.size<=140737488355328)(n:Nat)(hn:1<=n)(hm:n<9223372036854775808)(Q:Value->Heap->Prop):
  u9 cp 180 [.agg (a0i.enc r).toArray,.string s,.int .i64 n] h Q↔Q (.int .i64 (bkt r s n:Nat)) ((h.new (.cells (a0i.enc r) 182 .fix)).new (.cells (a0i.enc r) 182 .fix)):=by
 refine v9 ?_ Q
 rw[a8 cp e6s]
 have f1:=fun h=>e4u h r hr s hs
 have f2:∀(h:Heap) (Q:Value->Heap->Prop),u9 cp 182 [.int .u64 (hOf r s:Nat),.int .i64 n] h Q↔Q (.int .i64 (bkt r s n:Nat)) h:=fun h=>d9J h (hOf r s) n (d9k r s) hn hm
 obtain⟨X,A,B⟩:=r
 have en:a0i.enc (X,A,B)=[.int .u64 X,.int .u64 A,.int .u64 B]:=rfl
 rw[en]at f1 ⊢
 simp(disch:=omega)only[e1n,↓f0d,f1,f2,↓l9,m9,zA,zB,zC,zD,zE,zF,zG,zH,zI,reduceCtorEq,zJ,zK,zL,zM]
def dr(l:List Int)(i:Nat):Nat:=(l[i]?.getD 0).toNat
def c7S(l:List Int):Prop:=∀x∈l,U64 x
theorem e6G{l:List Int}(hl:c7S l)(i:Nat):dr l i<18446744073709551616:=by
 unfold dr
 cases h:l[i]? with
 |none=>simp
 |some x=>have:=hl x (uzK h);unfold U64 at this;rw[vFz];omega
def W9(l:List Int)(i:Nat):M7:=(((dr l (3*i) % 2305843009213693950+1:Nat):Int),((dr l (3*i+1) % 2305843009213693950+1:Nat):Int),((dr l (3*i+2) % 2305843009213693951:Nat):Int))
theorem b2v(l:List Int)(i:Nat):(W9 l i).OK:=by
 have h1:=Nat.mod_lt (dr l (3*i)) (show 0<2305843009213693950 by decide)
 have h2:=Nat.mod_lt (dr l (3*i+1)) (show 0<2305843009213693950 by decide)
 have h3:=Nat.mod_lt (dr l (3*i+2)) (show 0<2305843009213693951 by decide)
 constructor<;>simp only[W9]<;>omega
def O2(l:List Int)(n:Nat):List M7:=(List.range n).map (W9 l)
theorem a1N(l:List Int)(n:Nat):(O2 l n).length=n:=by simp[O2]
theorem b7h(l:List Int)(n:Nat):O2 l (n+1)=O2 l n++[W9 l n]:=by simp[O2,List.range_succ]
theorem e0c(l:List Int)(n:Nat):∀r∈O2 l n,r.OK:=fun r hr=>by
 obtain⟨i,_,rfl⟩:=List.mem_map.1 hr
 exact b2v l i
theorem e1F(h:Heap)(l:List Int)(v:Value)(s:Lst h (Enc.int .u64) v l)(i:Nat)(Q:Value->Heap->Prop):(u9 cp 91 [v,.int .i64 i] h Q↔Q (.int .u64 (l[i]?.getD 0)) h):=by
 refine v9 ?_ Q
 rw[a8 cp f1o]
 obtain⟨a,cap,rfl,hr⟩:=s
 by_cases c:i<l.length
 ·have a1:decide ((i:Int)>=(l.length:Int))=false:=dFz (by omega)
  have hx:l[i]? =some l[i]:=uzF c
  obtain⟨b,o,rfl,hb,hg⟩:=hr i _ hx
  rw[hx]
  generalize l[i]=x at*
  have hg:(h.obj b).get (o+i)=some (.int .u64 x):=a1m (by simpa [Enc.int]using hg)
  simp(disch:=omega)only[c91,↓R91,a1,hg,↓l9,m9,zA,zB,zC,zD,zE,zF,zG,zH,zI,reduceCtorEq,zJ,zK,zL,zM]
 ·have a1:decide ((i:Int)>=(l.length:Int))=true:=dTz (by omega)
  rw[vmz (by omega)]
  simp(disch:=omega)only[c91,↓R91,a1,↓l9,m9,zA,zB,zC,zD,zE,zF,zG,zH,zI,reduceCtorEq,zJ,zK,zL,zM]
theorem b4C(h:Heap)(l:List Int)(hl:c7S l)(v:Value)(s:Lst h (Enc.int .u64) v l)(i:Nat)(Q:Value->Heap->Prop):(u9 cp 91 [v,.int .i64 i] h Q↔Q (.int .u64 ((dr l i:Nat):Int)) h):=by
 have e:((dr l i:Nat):Int)=l[i]?.getD 0:=by
  unfold dr
  cases h:l[i]? with
  |none=>rfl
  |some x=>have:=hl x (uzK h);unfold U64 at this;rw[vFz];omega
 rw[e];exact e1F h l v s i Q
theorem e0B(h:Heap)(l:List Int)(hl:c7S l)(v:Value)(s:Lst h (Enc.int .u64) v l)(i:Nat)(Q:Value->Heap->Prop):(u9 cp 89 [v,.int .i64 i] h Q↔Q (.int .u64 ((dr l i % 2305843009213693950+1:Nat):Int)) h):=by
 refine v9 ?_ Q
 rw[a8 cp f1m]
 have f:=fun Q=>b4C h l hl v s i Q
 have t1:Int.tmod ((dr l i:Nat):Int) 2305843009213693950=((dr l i % 2305843009213693950:Nat):Int):=by rw[J8 _ _ (by omega)];rfl
 have t2:((dr l i % 2305843009213693950:Nat):Int)+1=((dr l i % 2305843009213693950+1:Nat):Int):=by omega
 simp(disch:=omega)only[c89,↓R89,f,t1,t2,↓l9,m9,zA,zB,zC,zD,zE,zF,zG,zH,zI,reduceCtorEq,zJ,zK,zL,zM]
theorem e2d(h:Heap)(l:List Int)(hl:c7S l)(v:Value)(s:Lst h (Enc.int .u64) v l)(n:Int)(hn:n<=8)
  (hQ:∀h' rv rb,Old h h' ->E3 h' 182 a0i rv (O2 l n.toNat) rb->h.next<=rb->Q rv h'):u9 cp 78 [v,.int .i64 n] h Q:=by
 rw[a8 cp f1b]
 obtain⟨m,hm⟩:∃m,m=n.toNat:=⟨_,rfl⟩
 have mm:∀h,C7 (.minmax false [.int .i64 (m:Nat),.int .i64 9]) h=some (.int .i64 (m:Nat),h):=fun h=>by
  show(some (Value.int .i64 (if(9:Int)<((m:Nat):Int)then 9 else((m:Nat):Int)))).map (fun v=>(v,h))=_
  rw[if_neg (by omega)];rfl
 have mx:∀h,C7 (.minmax true [.int .i64 n,.int .i64 0]) h=some (.int .i64 (m:Nat),h):=fun h=>by
  show(some (Value.int .i64 (if(0:Int)>n then 0 else n))).map (fun v=>(v,h))=_
  rw[show(if(0:Int)>n then 0 else n)=((m:Nat):Int) by split<;>omega];rfl
 simp(disch:=omega)only[c78,↓R78,↓mx,↓mm,↓l9,m9,zA,zB,zC,zD,zE,zF,zG,zH,zI,reduceCtorEq,zJ,zK,zL,zM]
 refine A6 cp b1S _ (fun d e hh=>∃(j b:Nat) (rv:Value),j+d=m/\Old h hh/\E3 hh 182 a0i rv (O2 l j) b/\h.next<=b/\e 0=v/\e 5=rv/\e 9=.int .i64 m/\e 10=.int .i64 j) ?_ m _ _
  ⟨0,h.next,.slice none 0 0,by omega,Old.refl _,E3.nil _ _ _ _,uzP _,rfl,rfl,rfl,rfl⟩
 rintro d e hh ⟨j,b,rv,hj,o,V,hb,e0,e5,e9,e10⟩
 have s' :=s.old o
 by_cases c:j<m
 ·have b1:decide ((j:Int)<(m:Int))=true:=dTz (by omega)
  have k0:3*(j:Int)=((3*j:Nat):Int):=by omega
  have k1:((3*j:Nat):Int)+1=((3*j+1:Nat):Int):=by omega
  have k2:((3*j:Nat):Int)+2=((3*j+2:Nat):Int):=by omega
  have f0:=fun i Q=>e0B hh l hl v s' i Q
  have f1:=fun i Q=>b4C hh l hl v s' i Q
  have f2:=fun h=>b6D h (dr l (3*j+2)) (e6G hl _)
  have nx:(j:Int)+1=((j+1:Nat):Int):=by omega
  simp(disch:=omega)only[b1S,c78,↓R78,e0,e5,e9,e10,b1,k0,k1,k2,f0,f1,f2,G0,vtz,↓l9,m9,zA,zB,zC,zD,zE,zF,zG,zH,zI,reduceCtorEq,zJ,zK,zL,zM]
  have V2:E3 (hh.new (.cells (a0i.enc (W9 l j)) 182 .grow)) 182 a0i rv (O2 l j) b:=V.keep (vLz _) fun hb=>f4 _ _ (by omega)
  refine V2.app (m:=[W9 l j]) rfl (O9 a0i hh (W9 l j) 182 1) (by rw[vdz,a1N];omega) (by rw[vdz,a1N];omega) fun v' h' b' V3 hn' hb' ho' =>?_
  have hn'' :hh.next+1<=h'.next:=hn'
  simp(disch:=first|omega| (simp only[j0,r9,ne_eq];omega))only[c78,↓R78,e0,e5,e9,e10,nx,↓l9,m9,zA,zB,zC,zD,zE,zF,zG,zH,zI,reduceCtorEq,zJ,zK,zL,zM]
  have on:=o.next
  refine⟨d-1,by omega,j+1,b',v',by omega,⟨by omega,fun x hx=>?_⟩,?_,?_,?_⟩
  ·rw[ho' x (by show x<hh.next+1;omega) (.inr (by omega)),f4 _ _ (by omega),o.obj x hx]
  ·rw[b7h];exact V3
  ·rcases hb' with rfl|hb'
   ·exact hb
   ·exact uzR (by omega:h.next<=hh.next+1) hb'
  ·repeat' first|assumption|rfl|apply And.intro
 ·have b1:decide ((j:Int)<(m:Int))=false:=dFz (by omega)
  obtain rfl:j=m:=by omega
  simp(disch:=omega)only[b1S,c78,↓R78,e0,e5,e9,e10,b1,↓l9,m9,zA,zB,zC,zD,zE,zF,zG,zH,zI,reduceCtorEq,zJ,zK,zL,zM]
  exact hQ hh rv b o (by rw[<-hm];exact V) hb
theorem mm_min(x y:Int)(h:Heap):C7 (.minmax false [.int .i64 x,.int .i64 y]) h=some (.int .i64 (min x y),h):=by
 show(some (Value.int .i64 (if y<x then y else x))).map (fun v=>(v,h))=_
 rw[a7V];rfl
theorem mm_max(x y:Int)(h:Heap):C7 (.minmax true [.int .i64 x,.int .i64 y]) h=some (.int .i64 (max x y),h):=by
 show(some (Value.int .i64 (if y>x then y else x))).map (fun v=>(v,h))=_
 rw[a2u];rfl
theorem M5(n:Nat)(k:IntKind):G0 n [.int k 0]=ints k (vaz n 0):=by
 induction n with
 |zero=>rfl
 |succ n ih=>rw[List.replicate_succ];show[Value.int k 0]++G0 n [.int k 0]=_;rw[ih];rfl
theorem D8(c:List Value)(o:Nat)(v:Value):setAt c o [v]=c.set o v:=rfl
structure OldX(X:Nat)(h h' :Heap):Prop where
 next:h.next<=h'.next
 obj:∀b,b<h.next->b≠X->h'.obj b=h.obj b
theorem Old.x{h h' :Heap}(o:Old h h')(X:Nat):OldX X h h' :=⟨o.next,fun b hb _=>o.obj b hb⟩
theorem OldX.refl(X:Nat)(h:Heap):OldX X h h:=⟨uzP _,fun _ _ _=>rfl⟩
theorem OldX.trans{X:Nat}{a b c:Heap}(h:OldX X a b)(k:OldX X b c):OldX X a c:=⟨uzR h.next k.next,fun x hx hn=>by rw[k.obj x (uzN hx h.next) hn,h.obj x hx hn]⟩
theorem OldX.fresh{X:Nat}{a b:Heap}(h:OldX X a b)(hX:a.next<=X):Old a b:=⟨h.next,fun x hx=>h.obj x hx (by omega)⟩
def X8(c:List Int)(i:Nat):Int:=c[i]?.getD 0
def ix(rows:List M7)(w:Nat)(key:ByteArray)(r:Nat):Nat:=r*w+bkt (rows[r]?.getD (0,0,0)) key w
def N1(c:List Int)(f:Nat->Nat):Nat->Int
 |0=>X8 c (f 0)
 |k+1=>min (N1 c f k) (X8 c (f (k+1)))
def a0v(c:List Int)(f:Nat->Nat)(want:Int):Nat->List Int
 |0=>c
 |k+1=>(a0v c f want k).set (f k) (max (X8 (a0v c f want k) (f k)) want)
theorem b2S(c:List Int)(f:Nat->Nat)(want:Int):∀k,(a0v c f want k).length=c.length
 |0=>rfl
 |k+1=>by simp only[a0v,viz,b2S c f want k]
theorem b4T{r R w b:Nat}(hr:r<R)(hb:b<w):r*w+b<R*w:=by
 have h1:(r+1)*w<=R*w:=vzz w hr
 rw[vDz,Nat.one_mul]at h1;omega
structure SlotAt(h:Heap)(p nb:Nat)(rv:Value)(rb:Nat)(rows:List M7)(w:Nat)(c:List Int):Prop where
 op:h.obj p=.cells [rv,.int .i64 w,.slice (some ⟨nb,0,none⟩) (rows.length*w) (rows.length*w)] 211 .fix
 lp:p<h.next
 on:h.obj nb=.cells (ints .i64 c) 2 .grow
 ln:nb<h.next
 pn:p≠nb
 v:E3 h 182 a0i rv rows rb
 rn:rb≠nb
 hr:1<=rows.length/\rows.length<=8
 hw:1<=w/\w<=4096
 len:c.length=rows.length*w
 ok:∀r∈rows,r.OK
 c64:∀x∈c,D5 x
section
variable {h h' :Heap} {p nb rb w:Nat} {rv:Value} {rows:List M7} {c:List Int}
theorem SlotAt.oldx(S:SlotAt h p nb rv rb rows w c){X:Nat}(o:OldX X h h')(hp:p≠X)(hn:nb≠X)(hb:rb≠X):SlotAt h' p nb rv rb rows w c where
 op:=(o.obj p S.lp hp).trans S.op
 lp:=uzN S.lp o.next
 on:=(o.obj nb S.ln hn).trans S.on
 ln:=uzN S.ln o.next
 pn:=S.pn
 v:=S.v.keep o.next fun hl=>o.obj rb hl hb
 rn:=S.rn
 hr:=S.hr
 hw:=S.hw
 len:=S.len
 ok:=S.ok
 c64:=S.c64
theorem SlotAt.old(S:SlotAt h p nb rv rb rows w c)(o:Old h h'):SlotAt h' p nb rv rb rows w c where
 op:=(o.obj p S.lp).trans S.op
 lp:=uzN S.lp o.next
 on:=(o.obj nb S.ln).trans S.on
 ln:=uzN S.ln o.next
 pn:=S.pn
 v:=S.v.keep o.next fun hl=>o.obj rb hl
 rn:=S.rn
 hr:=S.hr
 hw:=S.hw
 len:=S.len
 ok:=S.ok
 c64:=S.c64
theorem SlotAt.put(S:SlotAt h p nb rv rb rows w c){d:List Int}(hd:d.length=c.length)(d64:∀x∈d,D5 x):SlotAt (h.upd nb (.cells (ints .i64 d) 2 .grow)) p nb rv rb rows w d where
 op:=(a6 _ _ S.pn).trans S.op
 lp:=S.lp
 on:=a9 _ _ _
 ln:=S.ln
 pn:=S.pn
 v:=S.v.keep (uzP _) fun hl=>a6 _ _ S.rn
 rn:=S.rn
 hr:=S.hr
 hw:=S.hw
 len:=hd.trans S.len
 ok:=S.ok
 c64:=d64
theorem SlotAt.ix_lt(S:SlotAt h p nb rv rb rows w c)(key:ByteArray){r:Nat}(hr:r<rows.length):ix rows w key r<rows.length*w:=b4T hr (b5X _ key S.hw.1)
theorem SlotAt.rw_le(S:SlotAt h p nb rv rb rows w c):rows.length*w<=32768:=Nat.mul_le_mul S.hr.2 S.hw.2
theorem SlotAt.get(S:SlotAt h p nb rv rb rows w c){i:Nat}(hi:i<rows.length*w):c[i]? =some (X8 c i)/\D5 (X8 c i):=by
 have h1:c[i]? =some (c[i]'(by rw[S.len];exact hi)):=uzF _
 unfold X8
 rw[h1]
 exact⟨rfl,S.c64 _ (uzK h1)⟩
end
theorem e2K{c:List Int}{i:Nat}{x:Int}(h:∀y∈c,D5 y)(hx:D5 x):∀y∈c.set i x,D5 y:=fun y hy=>by
 rcases vIz hy with hy|rfl
 ·exact h y hy
 ·exact hx
theorem b6Q(h:Heap)(rv:Value)(rb:Nat)(rows:List M7)(w:Nat)(V:E3 h 182 a0i rv rows rb)(ok:∀r∈rows,r.OK)(hr:1<=rows.length/\rows.length<=8)(hw:1<=w/\w<=4096)
  (hQ:∀h' p nb,Old h h' ->SlotAt h' p nb rv rb rows w (vaz (rows.length*w) 0)->h.next<=p->h.next<=nb->Q (.pointer (some ⟨p,0,none⟩)) h'):
  u9 cp 94 [rv,.int .i64 w] h Q:=by
 rw[a8 cp f1r]
 obtain⟨a,cap,e,hc⟩:=V.val
 have hmul:rows.length*w<=32768:=Nat.mul_le_mul hr.2 hw.2
 have a1:((rows.length:Int)==0)=false:=beq_eq_false_iff_ne.2 (by omega)
 have a2:decide ((w:Int)<1)=false:=dFz (by omega)
 have k1:(rows.length:Int)*(w:Int)=((rows.length*w:Nat):Int):=by rw[Int.natCast_mul]
 have k2:(((rows.length*w:Nat):Int)).toNat=rows.length*w:=vAz _
 have z0:¬((rows.length*w:Nat):Int)<0:=by omega
 subst e
 simp(disch:=omega)only[c94,↓R94,a1,a2,k1,k2,M5,↓l9,m9,zA,zB,zC,zD,zE,zF,zG,zH,zI,reduceCtorEq,zJ,zK,zL,zM]
 refine hQ _ (h.next+1) h.next (((Old.refl h).more _).more _) ⟨?_,?_,?_,?_,?_,?_,?_,hr,hw,by simp,ok,fun x hx=>by rw[(List.mem_replicate.1 hx).2];unfold D5;omega⟩ (by omega) (uzP _)
 ·exact N4 _ _ _
 ·exact vpz _
 ·rw[f4 _ _ (by simp only[j0];omega)];exact f9 _ _
 ·simp only[j0];omega
 ·omega
 ·exact V.keep (by simp only[j0];omega) fun hl=>by rw[f4 _ _ (by simp only[j0];omega),f4 _ _ (by omega)]
 ·rcases V.at (by omega)with⟨_,_,_,hl,_⟩;omega
theorem d0q{h:Heap}{p nb rb w:Nat}{rv:Value}{rows:List M7}{c:List Int}(S:SlotAt h p nb rv rb rows w c)(key:ByteArray)(hs:key.size<=140737488355328)(r:Nat)(hr:r<rows.length)
  (hQ:∀h',Old h h' ->Q (.pointer (some ⟨nb,ix rows w key r,none⟩)) h'):u9 cp 174 [.pointer (some ⟨p,0,none⟩),.int .i64 r,.string key] h Q:=by
 rw[a8 cp e6m]
 have hx:rows[r]? =some rows[r]:=uzF hr
 obtain⟨x,hxx⟩:∃x,x=rows[r]:=⟨_,rfl⟩
 rw[<-hxx]at hx
 obtain⟨cap,e,hrd⟩:=S.v.read hx
 have hrd:(h.obj rb).read (r*3) 3=some (a0i.enc x):=by rw[vsz]at hrd;exact hrd
 have xok:=S.ok x (uzK hx)
 have op:=S.op
 have lp:=S.lp
 have h8:=S.hr
 have hw:=S.hw
 have hlt:=S.ix_lt key hr
 have hle:=S.rw_le
 rw[e]at op
 have f:=fun h=>d0t h x xok key hs w hw.1 (by omega)
 have hix:ix rows w key r=r*w+bkt x key w:=by unfold ix;rw[hx];rfl
 have k1:(r:Int)*(w:Int)=((r*w:Nat):Int):=by rw[Int.natCast_mul]
 have k2:((r*w:Nat):Int)+(bkt x key w:Nat)=((ix rows w key r:Nat):Int):=by rw[hix];omega
 have k3:(((ix rows w key r:Nat):Int)).toNat=ix rows w key r:=vAz _
 simp(disch:=first|omega| (simp only[j0,r9,ne_eq];omega))only[e1j,↓e9Z,op,hrd,f,k1,k2,k3,↓l9,m9,zA,zB,zC,zD,zE,zF,zG,zH,zI,reduceCtorEq,zJ,zK,zL,zM]
 exact hQ _ (((Old.refl h).more _).more _)
theorem b4Q{h:Heap}{p nb rb w:Nat}{rv:Value}{rows:List M7}{c:List Int}(S:SlotAt h p nb rv rb rows w c)(key:ByteArray)(hs:key.size<=140737488355328)
  (hQ:∀h',Old h h' ->Q (.int .i64 (N1 c (ix rows w key) (rows.length-1))) h'):u9 cp 172 [.pointer (some ⟨p,0,none⟩),.string key] h Q:=by
 rw[a8 cp e2x]
 have h8:=S.hr
 simp(disch:=omega)only[b1J,↓c7L,E5,↓l9,m9,zA,zB,zC,zD,zE,zF,zG,zH,zI,reduceCtorEq,zJ,zK,zL,zM]
 refine d0q S key hs 0 (by omega) fun h1 o1=>?_
 have S1:=S.old o1
 obtain⟨hg,_⟩:=S1.get (S1.ix_lt key (show 0<rows.length by omega))
 have hg:=C5 .i64 _ hg
 have on:=S1.on
 simp(disch:=omega)only[b1J,↓c7L,on,hg,↓l9,m9,zA,zB,zC,zD,zE,zF,zG,zH,zI,reduceCtorEq,zJ,zK,zL,zM]
 refine A6 cp a5l _ (fun d e hh=>∃j:Nat,j+1+d=rows.length/\Old h hh/\e 0=.pointer (some ⟨p,0,none⟩)/\e 1=.string key/\e 5=.int .i64 (N1 c (ix rows w key) j)/\e 6=.int .i64 ((j+1:Nat):Int)) ?_ (rows.length-1) _ _
  ⟨0,by omega,o1,rfl,rfl,rfl,rfl⟩
 rintro d e hh ⟨j,hj,o,e0,e1,e5,e6⟩
 have S2:=S.old o
 have op:=S2.op
 obtain⟨a,cap,er,hc⟩:=S2.v.val
 rw[er]at op
 by_cases cj:j+1<rows.length
 ·have b1:decide (((j+1:Nat):Int)<(rows.length:Int))=true:=dTz (by omega)
  have nx:((j+1:Nat):Int)+1=((j+1+1:Nat):Int):=by omega
  simp(disch:=omega)only[a5l,b1J,↓c7L,e0,e1,e5,e6,op,b1,↓l9,m9,zA,zB,zC,zD,zE,zF,zG,zH,zI,reduceCtorEq,zJ,zK,zL,zM]
  refine d0q S2 key hs (j+1) cj fun h' o' =>?_
  have S' :=S2.old o'
  obtain⟨hg,_⟩:=S'.get (S'.ix_lt key cj)
  have hg:=C5 .i64 _ hg
  have on:=S'.on
  simp(disch:=omega)only[b1J,↓c7L,e0,e1,e5,e6,on,hg,↓mm_min,nx,↓l9,m9,zA,zB,zC,zD,zE,zF,zG,zH,zI,reduceCtorEq,zJ,zK,zL,zM]
  refine⟨d-1,by omega,j+1,by omega,o.trans o',?_⟩
  repeat' first|assumption|rfl|apply And.intro
 ·have b1:decide (((j+1:Nat):Int)<(rows.length:Int))=false:=dFz (by omega)
  obtain rfl:j=rows.length-1:=by omega
  simp(disch:=omega)only[a5l,b1J,↓c7L,e0,e1,e5,e6,op,b1,↓l9,m9,zA,zB,zC,zD,zE,zF,zG,zH,zI,reduceCtorEq,zJ,zK,zL,zM]
  exact hQ _ o
theorem d8w{h:Heap}{p nb rb w:Nat}{rv:Value}{rows:List M7}{c:List Int}(S:SlotAt h p nb rv rb rows w c)
  (hQ:∀h',OldX nb h h' ->SlotAt h' p nb rv rb rows w (vaz (rows.length*w) 0)->Q (.tuple #[]) h'):u9 cp 159 [.pointer (some ⟨p,0,none⟩)] h Q:=by
 rw[a8 cp e5Z]
 have op:=S.op
 have on:=S.on
 have len:=S.len
 have hw0:(ints .i64 (vaz (rows.length*w) 0)).length<=(ints .i64 c).length:=by simp[ints,len]
 have hset:setAt (ints .i64 c) 0 (ints .i64 (vaz (rows.length*w) 0))=ints .i64 (vaz (rows.length*w) 0):=by
  have:=a0F [] (ints .i64 (vaz (rows.length*w) 0)) (ints .i64 c) hw0
  rw[vrz,vrz,vkz,List.drop_eq_nil_of_le (by simp[ints,len]),vtz]at this
  exact this
 simp(disch:=omega)only[e1g,↓e9W,op,on,E5,M5,hset,List.length_replicate,len,uzP,↓l9,m9,zA,zB,zC,zD,zE,zF,zG,zH,zI,reduceCtorEq,zJ,zK,zL,zM]
 exact hQ _ ⟨uzP _,fun b _ hb=>a6 _ _ hb⟩ (S.put (by simp[len]) fun x hx=>by rw[(List.mem_replicate.1 hx).2];unfold D5;omega)
def a2J(c:List Int)(f:Nat->Nat)(R:Nat)(cost:Int):List Int:=if cost<1 then c else a0v c f (O4 (N1 c f (R-1)+cost)) R
theorem b1b{h:Heap}{p nb rb w:Nat}{rv:Value}{rows:List M7}{c:List Int}(S:SlotAt h p nb rv rb rows w c)(key:ByteArray):∀k,k<rows.length->D5 (N1 c (ix rows w key) k)
 |0,hk=>(S.get (S.ix_lt key hk)).2
 |k+1,hk=>by
  have h1:=b1b S key k (by omega)
  have h2:=(S.get (S.ix_lt key hk)).2
  simp only[N1];unfold D5 at*;omega
theorem add_ok'{h:Heap}{p nb rb w:Nat}{rv:Value}{rows:List M7}{c:List Int}(S:SlotAt h p nb rv rb rows w c)(key:ByteArray)(hs:key.size<=140737488355328)(cost:Int)(hc:D5 cost)
  (hQ:∀h',OldX nb h h' ->SlotAt h' p nb rv rb rows w (a2J c (ix rows w key) rows.length cost)->Q (.tuple #[]) h'):u9 cp 160 [.pointer (some ⟨p,0,none⟩),.string key,.int .i64 cost] h Q:=by
 rw[a8 cp e6a]
 have h8:=S.hr
 unfold a2J at hQ
 by_cases c1:cost<1
 ·have a1:=dTz c1
  rw[if_pos c1]at hQ
  simp(disch:=omega)only[b1H,↓c7J,E5,a1,↓l9,m9,zA,zB,zC,zD,zE,zF,zG,zH,zI,reduceCtorEq,zJ,zK,zL,zM]
  exact hQ _ (OldX.refl _ _) S
 have a1:=dFz c1
 rw[if_neg c1]at hQ
 simp(disch:=omega)only[b1H,↓c7J,E5,a1,↓l9,m9,zA,zB,zC,zD,zE,zF,zG,zH,zI,reduceCtorEq,zJ,zK,zL,zM]
 refine b4Q S key hs fun h1 o1=>?_
 have S1:=S.old o1
 have lin:=b1b S key (rows.length-1) (by omega)
 obtain⟨want,hwant⟩:∃x,x=O4 (N1 c (ix rows w key) (rows.length-1)+cost):=⟨_,rfl⟩
 have w64:D5 want:=by rw[hwant];exact a3d _
 have fs:=fun h=>P6 h _ cost lin hc
 have op:=S1.op
 obtain⟨a,cap,er,hcap⟩:=S1.v.val
 rw[er]at op
 rw[<-hwant]at hQ
 simp(disch:=omega)only[b1H,↓c7J,fs,<-hwant,op,↓l9,m9,zA,zB,zC,zD,zE,zF,zG,zH,zI,reduceCtorEq,zJ,zK,zL,zM]
 refine A6 cp a5k _ (fun d e hh=>∃j:Nat,j+d=rows.length/\OldX nb h hh/\SlotAt hh p nb rv rb rows w (a0v c (ix rows w key) want j)/\e 0=.pointer (some ⟨p,0,none⟩)/\e 1=.string key/\e 6=.int .i64 want/\e 24=.int .i64 rows.length/\e 25=.int .i64 j) ?_ rows.length _ _
  ⟨0,by omega,o1.x nb,S1,rfl,rfl,rfl,rfl,rfl⟩
 rintro d e hh ⟨j,hj,o,S2,e0,e1,e6,e24,e25⟩
 by_cases cj:j<rows.length
 ·have b1:decide ((j:Int)<(rows.length:Int))=true:=dTz (by omega)
  have nx:(j:Int)+1=((j+1:Nat):Int):=by omega
  simp(disch:=omega)only[a5k,b1H,↓c7J,e0,e1,e6,e24,e25,b1,↓l9,m9,zA,zB,zC,zD,zE,zF,zG,zH,zI,reduceCtorEq,zJ,zK,zL,zM]
  refine d0q S2 key hs j cj fun h' o' =>?_
  have S' :=S2.old o'
  have hi:=S'.ix_lt key cj
  obtain⟨hg,g64⟩:=S'.get hi
  have hg:=C5 .i64 _ hg
  have on:=S'.on
  have len:=S'.len
  have m64:D5 (max (X8 (a0v c (ix rows w key) want j) (ix rows w key j)) want):=by unfold D5 at*;omega
  have S3:=S'.put (d:=a0v c (ix rows w key) want (j+1)) (by simp only[a0v,viz]) (by simp only[a0v];exact e2K S'.c64 m64)
  simp only[a0v]at S3
  simp(disch:=omega)only[b1H,↓c7J,e0,e1,e6,e24,e25,on,hg,↓mm_max,nx,D8,H7,C6,len,↓l9,m9,zA,zB,zC,zD,zE,zF,zG,zH,zI,reduceCtorEq,zJ,zK,zL,zM]
  refine⟨d-1,by omega,j+1,by omega,(o.trans (o'.x nb)).trans ⟨uzP _,fun b _ hb=>a6 _ _ hb⟩,S3,?_⟩
  repeat' first|assumption|rfl|apply And.intro
 ·have b1:decide ((j:Int)<(rows.length:Int))=false:=dFz (by omega)
  obtain rfl:j=rows.length:=by omega
  simp(disch:=omega)only[a5k,b1H,↓c7J,e0,e1,e6,e24,e25,b1,↓l9,m9,zA,zB,zC,zD,zE,zF,zG,zH,zI,reduceCtorEq,zJ,zK,zL,zM]
  exact hQ _ o S2
theorem b1W(c:List Int)(i j:Nat)(x:Int):X8 (c.set i x) j=if i=j/\i<c.length then x else X8 c j:=by
 unfold X8
 rw[List.getElem?_set]
 by_cases h:i=j
 ·subst h
  by_cases h2:i<c.length
  ·rw[if_pos rfl,if_pos h2,if_pos ⟨rfl,h2⟩];rfl
  ·rw[if_pos rfl,if_neg h2,if_neg (fun h=>h2 h.2),vmz (by omega)]
 ·rw[if_neg h,if_neg (fun k=>h k.1)]
theorem b1z(c:List Int)(f:Nat->Nat)(want:Int):∀k j,X8 c j<=X8 (a0v c f want k) j
 |0,j=>uzQ _
 |k+1,j=>by
  have ih:=b1z c f want k j
  simp only[a0v]
  rw[b1W]
  split
  ·rename_i h;rw[h.1];omega
  ·exact ih
theorem a2K(c:List Int)(f:Nat->Nat)(want:Int):∀k j,X8 (a0v c f want k) j<=max (X8 c j) want
 |0,j=>by simp only[a0v];omega
 |k+1,j=>by
  have ih:=a2K c f want k j
  simp only[a0v]
  rw[b1W]
  split
  ·rename_i h;rw[h.1];omega
  ·exact ih
theorem b7z(c:List Int)(f:Nat->Nat)(want:Int):∀k r,r<k->f r<c.length->want<=X8 (a0v c f want k) (f r)
 |0,r,h,_=>by omega
 |k+1,r,h,hl=>by
  simp only[a0v]
  rw[b1W,b2S]
  by_cases e:r=k
  ·subst e;rw[if_pos ⟨rfl,hl⟩];omega
  ·have ih:=b7z c f want k r (by omega) hl
   split
   ·omega
   ·exact ih
theorem d0j(c:List Int)(f:Nat->Nat)(want:Int){k r:Nat}(h:r<k)(hl:f r<c.length):X8 (a0v c f want k) (f r)=max (X8 c (f r)) want:=by
 have h1:=b1z c f want k (f r)
 have h2:=a2K c f want k (f r)
 have h3:=b7z c f want k r h hl
 omega
theorem a0o(c:List Int)(f:Nat->Nat):∀k,∃r,r<=k/\N1 c f k=X8 c (f r)
 |0=>⟨0,uzP _,rfl⟩
 |k+1=>by
  obtain⟨r,h1,h2⟩:=a0o c f k
  simp only[N1]
  by_cases e:N1 c f k<=X8 c (f (k+1))
  ·exact⟨r,by omega,by omega⟩
  ·exact⟨k+1,uzP _,by omega⟩
theorem e0P(c:List Int)(f:Nat->Nat)(R:Nat)(cost:Int)(j:Nat):X8 c j<=X8 (a2J c f R cost) j:=by
 unfold a2J
 split
 ·exact uzQ _
 ·exact b1z _ _ _ _ _
def Uni(c:List Int)(f:Nat->Nat)(R:Nat)(s:Int):Prop:=∀r,r<R->X8 c (f r)=s
theorem Uni.least{c:List Int}{f:Nat->Nat}{R:Nat}{s:Int}(u:Uni c f R s)(hR:1<=R):N1 c f (R-1)=s:=by
 obtain⟨r,h1,h2⟩:=a0o c f (R-1)
 rw[h2];exact u r (by omega)
theorem Uni.add{c:List Int}{f:Nat->Nat}{R:Nat}{s:Int}(u:Uni c f R s)(hR:1<=R)(hs:0<=s/\s<=9223372036854775807)(hf:∀r,r<R->f r<c.length)(cost:Int):Uni (a2J c f R cost) f R (if cost<1 then s else O4 (s+cost)):=fun r hr=>by
 unfold a2J
 by_cases h:cost<1
 ·rw[if_pos h,if_pos h];exact u r hr
 ·rw[if_neg h,if_neg h,d0j _ _ _ hr (hf r hr),u.least hR,u r hr]
  unfold O4
  split
  ·omega
  ·split<;>omega
theorem Lst.nil{α:Type}(h:Heap)(E:Enc α):Lst h E (.slice none 0 0) []:=⟨none,0,rfl,fun i x hx=>by simp at hx⟩
theorem c8V(h:Heap)(key:ByteArray)(Q:Value->Heap->Prop):u9 cp 172 [.pointer none,.string key] h Q↔Q (.int .i64 0) h:=by
 refine v9 ?_ Q
 rw[a8 cp e2x]
 simp(disch:=omega)only[b1J,↓c7L,E5,↓l9,m9,zA,zB,zC,zD,zE,zF,zG,zH,zI,reduceCtorEq,zJ,zK,zL,zM]
def a1g(n c:Nat):Nat:=if n % c=0 then n / c else n / c+1
theorem e9K(h:Heap)(a b c:Nat)(ha:a<18446744073709551616)(hb:b<18446744073709551616)(hc:c<18446744073709551616)(hf:a*b / 18446744073709551616<c)(hq:a*b / c<18446744073709551615)(Q:Value->Heap->Prop):
  u9 cp 179 [.int .u64 a,.int .u64 b,.int .u64 c] h Q↔Q (.tuple #[.int .u64 (a1g (a*b) c:Nat),.bool true]) h:=by
 refine v9 ?_ Q
 rw[a8 cp e6r]
 have f:=fun h=>b0N h a b c ha hb hc hf
 obtain⟨n,hn⟩:∃n,n=a*b:=⟨_,rfl⟩
 rw[<-hn]at f hq ⊢
 have a2:(((n / c:Nat):Int)==18446744073709551615)=false:=beq_eq_false_iff_ne.2 (by omega)
 by_cases h0:n % c=0
 ·have a1:decide (((n % c:Nat):Int)>0)=false:=dFz (by omega)
  have e:a1g n c=n / c:=by unfold a1g;rw[if_pos h0]
  rw[e]
  simp(disch:=omega)only[d1z,↓e4X,f,a1,a2,↓l9,m9,zA,zB,zC,zD,zE,zF,zG,zH,zI,reduceCtorEq,zJ,zK,zL,zM]
 ·have a1:decide (((n % c:Nat):Int)>0)=true:=dTz (by omega)
  have e:((a1g n c:Nat):Int)=((n / c:Nat):Int)+1:=by unfold a1g;rw[if_neg h0];omega
  rw[e]
  simp(disch:=omega)only[d1z,↓e4X,f,a1,a2,↓l9,m9,zA,zB,zC,zD,zE,zF,zG,zH,zI,reduceCtorEq,zJ,zK,zL,zM]
structure RP where
 x:Nat
 sb:Nat
 tb:Nat
 ps:Nat->Nat
 nbs:Nat->Nat
 rv:Value
 rb:Nat
 rows:List M7
 N:Nat
 w:Nat
 W:Int
 L:Int
 part:Bool
abbrev d9Y(r:RP)(now:Int):List Value:=[.slice (some ⟨r.sb,0,none⟩) r.N r.N,.slice (some ⟨r.tb,0,none⟩) r.N r.N,.int .i64 r.W,.int .i64 r.rows.length,.int .i64 r.L,.bool r.part,.int .i64 now]
structure RingAt(h:Heap)(r:RP)(now:Int)(st:List Int)(cs:Nat->List Int):Prop where
 ox:h.obj r.x=.cells (d9Y r now) 201 .fix
 lx:r.x<h.next
 os:h.obj r.sb=.cells ((List.range r.N).map fun i=>Value.pointer (some ⟨r.ps i,0,none⟩)) 202 .grow
 ls:r.sb<h.next
 ot:h.obj r.tb=.cells (ints .i64 st) 2 .grow
 lt:r.tb<h.next
 len:st.length=r.N
 s64:∀s∈st,D5 s
 hN:2<=r.N/\r.N<=65
 hW:1<=r.W/\r.W<=1099511627776
 hL:D5 r.L
 sl:∀i,i<r.N->SlotAt h (r.ps i) (r.nbs i) r.rv r.rb r.rows r.w (cs i)
 nn:∀i j,i<r.N->j<r.N->i≠j->r.nbs i≠r.nbs j
 pn:∀i j,i<r.N->j<r.N->r.ps i≠r.nbs j
 xn:∀i,i<r.N->r.x≠r.nbs i/\r.sb≠r.nbs i/\r.tb≠r.nbs i
 px:∀i,i<r.N->r.ps i≠r.x/\r.ps i≠r.tb
 xx:r.x≠r.sb/\r.x≠r.tb/\r.sb≠r.tb
 rx:r.rb≠r.x/\r.rb≠r.tb
section
variable {h h' :Heap} {r:RP} {now:Int} {st:List Int} {cs:Nat->List Int}
theorem RingAt.old(R:RingAt h r now st cs)(o:Old h h'):RingAt h' r now st cs where
 ox:=(o.obj _ R.lx).trans R.ox
 lx:=uzN R.lx o.next
 os:=(o.obj _ R.ls).trans R.os
 ls:=uzN R.ls o.next
 ot:=(o.obj _ R.lt).trans R.ot
 lt:=uzN R.lt o.next
 len:=R.len
 s64:=R.s64
 hN:=R.hN
 hW:=R.hW
 hL:=R.hL
 sl:=fun i hi=>(R.sl i hi).old o
 nn:=R.nn
 pn:=R.pn
 xn:=R.xn
 px:=R.px
 xx:=R.xx
 rx:=R.rx
theorem a3M(R:RingAt h r now st cs)(t:Int)(ht:0<=t/\t<=9223372036854775807)(Q:Value->Heap->Prop):u9 cp 158 [.pointer (some ⟨r.x,0,none⟩),.int .i64 t] h Q↔Q (.int .i64 (t / r.W)) h:=by
 refine v9 ?_ Q
 rw[a8 cp e5Y]
 have ox:=R.ox
 have hW:=R.hW
 have n0:(r.W=0)=False:=by simp;omega
 have t1:Int.tdiv t r.W=t / r.W:=a5w t r.W ht.1
 have q0:0<=t / r.W:=Int.ediv_nonneg ht.1 (by omega)
 have q1:t / r.W<=t:=Int.ediv_le_self r.W ht.1
 simp(disch:=omega)only[e1f,↓e9V,ox,E5,n0,t1,↓l9,m9,zA,zB,zC,zD,zE,zF,zG,zH,zI,reduceCtorEq,zJ,zK,zL,zM]
def pl(r:RP)(n:Int):Nat:=(n % r.N).toNat
def a9e(r:RP)(st:List Int)(n:Int):Prop:=0<=n/\X8 st (pl r n)=n+1
instance (r:RP) (st:List Int) (n:Int):Decidable (a9e r st n):=by unfold a9e;infer_instance
theorem d9I(R:RingAt h r now st cs)(n:Int):pl r n<r.N:=by
 have:=R.hN
 have h1:=Int.emod_lt_of_pos n (show(0:Int)<r.N by omega)
 have h2:=Int.emod_nonneg n (show(r.N:Int)≠0 by omega)
 unfold pl;omega
theorem d9H(R:RingAt h r now st cs)(n:Int):n % (r.N:Int)=((pl r n:Nat):Int):=by
 have:=R.hN
 have h2:=Int.emod_nonneg n (show(r.N:Int)≠0 by omega)
 unfold pl;omega
theorem RingAt.stamp(R:RingAt h r now st cs){i:Nat}(hi:i<r.N):st[i]? =some (X8 st i)/\D5 (X8 st i):=by
 have h1:st[i]? =some (st[i]'(by rw[R.len];exact hi)):=uzF _
 unfold X8
 rw[h1]
 exact⟨rfl,R.s64 _ (uzK h1)⟩
theorem RingAt.ptr(R:RingAt h r now st cs){i:Nat}(hi:i<r.N):((List.range r.N).map fun i=>Value.pointer (some ⟨r.ps i,0,none⟩))[i]? =some (.pointer (some ⟨r.ps i,0,none⟩)):=by
 rw[uzJ,List.getElem?_range hi];rfl
theorem e8h(R:RingAt h r now st cs)(n:Int)(hn: -1000<=n/\n<=9223372036854774000)(Q:Value->Heap->Prop):
  u9 cp 171 [.pointer (some ⟨r.x,0,none⟩),.int .i64 n] h Q↔Q (if a9e r st n then .pointer (some ⟨r.ps (pl r n),0,none⟩)else .pointer none) h:=by
 refine v9 ?_ Q
 rw[a8 cp e6k]
 have ox:=R.ox
 have os:=R.os
 have ot:=R.ot
 have hN:=R.hN
 by_cases c:n<0
 ·have a1:=dTz c
  rw[if_neg (fun h=>by have:=h.1;omega)]
  simp(disch:=omega)only[c8g,↓e2W,a1,↓l9,m9,zA,zB,zC,zD,zE,zF,zG,zH,zI,reduceCtorEq,zJ,zK,zL,zM]
 have a1:=dFz c
 have n0:((r.N:Int)=0)=False:=by simp;omega
 have t1:Int.tmod n (r.N:Int)=((pl r n:Nat):Int):=by rw[J8 _ _ (by omega)];exact d9H R n
 have hp:=d9I R n
 obtain⟨hs,_⟩:=R.stamp hp
 have hs:=C5 .i64 _ hs
 have hq:=R.ptr hp
 by_cases c2:X8 st (pl r n)=n+1
 ·have a2:(X8 st (pl r n) !=n+1)=false:=by rw[c2];exact bne_self_eq_false _
  rw[if_pos ⟨by omega,c2⟩]
  simp(disch:=omega)only[c8g,↓e2W,a1,ox,os,ot,n0,t1,hs,hq,a2,↓l9,m9,zA,zB,zC,zD,zE,zF,zG,zH,zI,reduceCtorEq,zJ,zK,zL,zM]
 ·have a2:(X8 st (pl r n) !=n+1)=true:=by rw[bne_iff_ne];exact c2
  rw[if_neg (fun h=>c2 h.2)]
  simp(disch:=omega)only[c8g,↓e2W,a1,ox,os,ot,n0,t1,hs,hq,a2,↓l9,m9,zA,zB,zC,zD,zE,zF,zG,zH,zI,reduceCtorEq,zJ,zK,zL,zM]
theorem RingAt.setNow(R:RingAt h r now st cs)(t:Int):RingAt (h.upd r.x (.cells (d9Y r t) 201 .fix)) r t st cs:=by
 have o:OldX r.x h (h.upd r.x (.cells (d9Y r t) 201 .fix)):=⟨uzP _,fun b _ hb=>a6 _ _ hb⟩
 exact { R with
  ox:=a9 _ _ _
  os:=(o.obj _ R.ls (Ne.symm R.xx.1)).trans R.os
  ot:=(o.obj _ R.lt (Ne.symm R.xx.2.1)).trans R.ot
  lx:=R.lx,ls:=R.ls,lt:=R.lt
  sl:=fun i hi=>(R.sl i hi).oldx o (R.px i hi).1 (Ne.symm (R.xn i hi).1) R.rx.1 }
theorem e2L(R:RingAt h r now st cs)(t:Int)(hQ:∀h',OldX r.x h h' ->RingAt h' r (max now t) st cs->Q (.tuple #[]) h'):
  u9 cp 129 [.pointer (some ⟨r.x,0,none⟩),.int .i64 t] h Q:=by
 rw[a8 cp e5y]
 have ox:=R.ox
 simp(disch:=omega)only[e0Y,↓e9O,ox,E5,↓mm_max,↓l9,m9,zA,zB,zC,zD,zE,zF,zG,zH,zI,reduceCtorEq,zJ,zK,zL,zM]
 exact hQ _ ⟨uzP _,fun b _ hb=>a6 _ _ hb⟩ (R.setNow _)
def a2z(cs:Nat->List Int)(i:Nat)(c:List Int):Nat->List Int:=fun j=>if j=i then c else cs j
structure OldR(r:RP)(h h' :Heap):Prop where
 next:h.next<=h'.next
 obj:∀b,b<h.next->b≠r.x->b≠r.tb->(∀i,i<r.N->b≠r.nbs i)->h'.obj b=h.obj b
theorem OldR.trans{a b c:Heap}(h:OldR r a b)(k:OldR r b c):OldR r a c:=⟨uzR h.next k.next,fun x hx h1 h2 h3=>by rw[k.obj x (uzN hx h.next) h1 h2 h3,h.obj x hx h1 h2 h3]⟩
theorem OldX.ringT{a b:Heap}(o:OldX r.tb a b):OldR r a b:=⟨o.next,fun x hx _ h2 _=>o.obj x hx h2⟩
theorem OldX.ringN{a b:Heap}{i:Nat}(hi:i<r.N)(o:OldX (r.nbs i) a b):OldR r a b:=⟨o.next,fun x hx _ _ h3=>o.obj x hx (h3 i hi)⟩
theorem RingAt.setSlot(R:RingAt h r now st cs){i:Nat}(hi:i<r.N)(o:OldX (r.nbs i) h h'){c:List Int}(S:SlotAt h' (r.ps i) (r.nbs i) r.rv r.rb r.rows r.w c):RingAt h' r now st (a2z cs i c) where
 ox:=(o.obj _ R.lx (R.xn i hi).1).trans R.ox
 lx:=uzN R.lx o.next
 os:=(o.obj _ R.ls (R.xn i hi).2.1).trans R.os
 ls:=uzN R.ls o.next
 ot:=(o.obj _ R.lt (R.xn i hi).2.2).trans R.ot
 lt:=uzN R.lt o.next
 len:=R.len
 s64:=R.s64
 hN:=R.hN
 hW:=R.hW
 hL:=R.hL
 sl:=fun j hj=>by
  unfold a2z
  by_cases e:j=i
  ·subst e;rw[if_pos rfl];exact S
  ·rw[if_neg e];exact(R.sl j hj).oldx o (R.pn j i hj hi) (R.nn j i hj hi e) (R.sl i hi).rn
 nn:=R.nn
 pn:=R.pn
 xn:=R.xn
 px:=R.px
 xx:=R.xx
 rx:=R.rx
theorem RingAt.setStamp(R:RingAt h r now st cs)(i:Nat)(v:Int)(hv:D5 v):RingAt (h.upd r.tb (.cells (ints .i64 (st.set i v)) 2 .grow)) r now (st.set i v) cs:=by
 have o:OldX r.tb h (h.upd r.tb (.cells (ints .i64 (st.set i v)) 2 .grow)):=⟨uzP _,fun b _ hb=>a6 _ _ hb⟩
 exact { R with
  ox:=(o.obj _ R.lx R.xx.2.1).trans R.ox
  os:=(o.obj _ R.ls R.xx.2.2).trans R.os
  ot:=a9 _ _ _
  lx:=R.lx,ls:=R.ls,lt:=R.lt
  len:=by rw[viz];exact R.len
  s64:=e2K R.s64 hv
  sl:=fun j hj=>(R.sl j hj).oldx o (R.px j hj).2 (Ne.symm (R.xn j hj).2.2) R.rx.2 }
def Z3(r:RP)(st:List Int)(cs:Nat->List Int)(n:Int):List Int:=if X8 st (pl r n)=n+1 then cs (pl r n)else vaz (r.rows.length*r.w) 0
theorem c7u(R:RingAt h r now st cs)(hnow:0<=now/\now<=9223372036854770000)(key:ByteArray)(hs:key.size<=140737488355328)(cost:Int)(hc:D5 cost)
  (hQ:∀h',OldR r h h' ->RingAt h' r now (st.set (pl r (now / r.W)) (now / r.W+1)) (a2z cs (pl r (now / r.W)) (a2J (Z3 r st cs (now / r.W)) (ix r.rows r.w key) r.rows.length cost))->Q (.tuple #[]) h'):
  u9 cp 136 [.pointer (some ⟨r.x,0,none⟩),.string key,.int .i64 cost] h Q:=by
 rw[a8 cp e5E]
 have ox:=R.ox
 have os:=R.os
 have ot:=R.ot
 have hN:=R.hN
 have hW:=R.hW
 have fn:=fun Q=>a3M R now (by omega) Q
 obtain⟨n,hn⟩:∃n,n=now / r.W:=⟨_,rfl⟩
 have q0:0<=n:=by rw[hn];exact Int.ediv_nonneg hnow.1 (by omega)
 have q1:n<=now:=by rw[hn];exact Int.ediv_le_self r.W hnow.1
 rw[<-hn]at fn hQ
 have n0:((r.N:Int)=0)=False:=by simp;omega
 have t1:Int.tmod n (r.N:Int)=((pl r n:Nat):Int):=by rw[J8 _ _ q0];exact d9H R n
 have hp:=d9I R n
 obtain⟨hst,_⟩:=R.stamp hp
 have hsl:=List.getElem?_eq_some_iff.1 hst
 have hst:=C5 .i64 _ hst
 have hq:=R.ptr hp
 have len:=R.len
 unfold Z3 at hQ
 by_cases c:X8 st (pl r n)=n+1
 ·have a2:(X8 st (pl r n) !=n+1)=false:=by rw[c];exact bne_self_eq_false _
  rw[if_pos c]at hQ
  have hset:st.set (pl r n) (n+1)=st:=by
   obtain⟨hl,hv⟩:=hsl
   rw[c]at hv
   rw[<-hv];exact List.set_getElem_self hl
  rw[hset]at hQ
  simp(disch:=omega)only[b3z,↓d0a,ox,os,ot,E5,fn,n0,t1,hst,hq,a2,↓l9,m9,zA,zB,zC,zD,zE,zF,zG,zH,zI,reduceCtorEq,zJ,zK,zL,zM]
  refine add_ok' (R.sl _ hp) key hs cost hc fun h1 o1 S1=>?_
  simp(disch:=omega)only[b3z,↓d0a,↓l9,m9,zA,zB,zC,zD,zE,zF,zG,zH,zI,reduceCtorEq,zJ,zK,zL,zM]
  exact hQ _ (o1.ringN hp) (R.setSlot hp o1 S1)
 ·have a2:(X8 st (pl r n) !=n+1)=true:=by rw[bne_iff_ne];exact c
  rw[if_neg c]at hQ
  simp(disch:=omega)only[b3z,↓d0a,ox,os,ot,E5,fn,n0,t1,hst,hq,a2,↓l9,m9,zA,zB,zC,zD,zE,zF,zG,zH,zI,reduceCtorEq,zJ,zK,zL,zM]
  refine d8w (R.sl _ hp) fun h1 o1 S1=>?_
  have R1:=R.setSlot hp o1 S1
  have ox1:=R1.ox
  have os1:=R1.os
  have ot1:=R1.ot
  have R2:=R1.setStamp (pl r n) (n+1) (by unfold D5;omega)
  have xt:=R.xx.2.1
  have st' :=R.xx.2.2
  have nt:=(R.xn _ hp).2.2
  simp(disch:=omega)only[b3z,↓d0a,ox1,os1,ot1,hq,D8,H7,len,↓l9,m9,zA,zB,zC,zD,zE,zF,zG,zH,zI,reduceCtorEq,zJ,zK,zL,zM]
  refine add_ok' (R2.sl _ hp) key hs cost hc fun h2 o2 S2=>?_
  have R3:=R2.setSlot hp o2 S2
  have oT:OldX r.tb h1 (h1.upd r.tb (.cells (ints .i64 (st.set (pl r n) (n+1))) 2 .grow)):=⟨uzP _,fun b _ hb=>a6 _ _ hb⟩
  simp(disch:=omega)only[b3z,↓d0a,↓l9,m9,zA,zB,zC,zD,zE,zF,zG,zH,zI,reduceCtorEq,zJ,zK,zL,zM]
  refine hQ _ (((o1.ringN hp).trans oT.ringT).trans (o2.ringN hp)) ?_
  have e:∀c d,a2z (a2z cs (pl r n) c) (pl r n) d=a2z cs (pl r n) d:=fun c d=>by funext j;unfold a2z;split<;>rfl
  have e2:∀c,a2z cs (pl r n) c (pl r n)=c:=fun c=>by unfold a2z;rw[if_pos rfl]
  rw[e,e2]at R3
  exact R3
def b2c(r:RP)(m into:Nat):Nat:=if r.part then a1g (m*(r.W.toNat-into)) r.W.toNat else m
theorem c8F(R:RingAt h r now st cs)(m into:Nat)(hm:m<=9223372036854775807)(hi:(into:Int)<r.W)(Q:Value->Heap->Prop):
  u9 cp 173 [.pointer (some ⟨r.x,0,none⟩),.int .i64 m,.int .i64 into] h Q↔Q (.int .i64 (b2c r m into:Nat)) h:=by
 refine v9 ?_ Q
 rw[a8 cp e6l]
 have ox:=R.ox
 have hW:=R.hW
 unfold b2c
 cases hp:r.part with
 |false=>
  simp(disch:=omega)only[d1y,↓e4W,ox,hp,↓l9,m9,zA,zB,zC,zD,zE,zF,zG,zH,zI,reduceCtorEq,zJ,zK,zL,zM]
  first|done|trivial
 |true=>
  obtain⟨W,hWn⟩:∃W:Nat,r.W=W:=⟨r.W.toNat,by omega⟩
  have hmul:m*(W-into)<=m*W:=Nat.mul_le_mul_left m (Nat.sub_le _ _)
  have hmul2:m*W<=9223372036854775807*W:=vzz W hm
  have hq:m*(W-into) / W<=m:=Nat.div_le_of_le_mul (by rw[Nat.mul_comm W];exact hmul)
  have f:=fun h=>e9K h m (W-into) W (by omega) (by omega) (by omega) (by omega) (by omega)
  have cl:a1g (m*(W-into)) W<=m:=by
   unfold a1g
   split
   ·exact hq
   ·rename_i hne
    have h1:=Nat.div_add_mod (m*(W-into)) W
    have h2:W*(m*(W-into) / W)<W*m:=by rw[Nat.mul_comm W m];omega
    have:=Nat.lt_of_mul_lt_mul_left h2
    omega
  have sb:r.W-(into:Int)=((W-into:Nat):Int):=by omega
  have sb' :(W:Int)-(into:Int)=((W-into:Nat):Int):=by omega
  have k1:r.W.toNat=W:=by omega
  rw[if_pos rfl,k1]
  simp(disch:=omega)only[d1y,↓e4W,ox,hp,hWn,sb',f,↓l9,m9,zA,zB,zC,zD,zE,zF,zG,zH,zI,reduceCtorEq,zJ,zK,zL,zM]
theorem e1G(R:RingAt h r now st cs)(m into:Nat):b2c r m into<=m:=by
 have hW:=R.hW
 unfold b2c
 split
 ·obtain⟨W,hWn⟩:∃W:Nat,r.W.toNat=W:=⟨_,rfl⟩
  rw[hWn]
  have hmul:m*(W-into)<=m*W:=Nat.mul_le_mul_left m (Nat.sub_le _ _)
  have hq:m*(W-into) / W<=m:=Nat.div_le_of_le_mul (by rw[Nat.mul_comm W];exact hmul)
  unfold a1g
  split
  ·exact hq
  ·rename_i hne
   have h1:=Nat.div_add_mod (m*(W-into)) W
   have h2:W*(m*(W-into) / W)<W*m:=by rw[Nat.mul_comm W m];omega
   have:=Nat.lt_of_mul_lt_mul_left h2
   omega
 ·exact uzP _
def H0(r:RP)(st:List Int)(cs:Nat->List Int)(key:ByteArray)(n:Int):Int:=if a9e r st n then N1 (cs (pl r n)) (ix r.rows r.w key) (r.rows.length-1)else 0
def a2j(r:RP)(st:List Int)(cs:Nat->List Int)(key:ByteArray)(n:Int)(into:Nat)(k:Nat):Int:=
 if k=0 then((b2c r (H0 r st cs key (n-r.N+1+k)).toNat into:Nat):Int)else H0 r st cs key (n-r.N+1+k)
def J7(r:RP)(st:List Int)(cs:Nat->List Int)(key:ByteArray)(n:Int)(into:Nat):Nat->Int
 |0=>0
 |k+1=>O4 (J7 r st cs key n into k+a2j r st cs key n into k)
theorem b6T(R:RingAt h r now st cs)(n:Int)(key:ByteArray)(hs:key.size<=140737488355328)(hQ:∀h',Old h h' ->Q (.int .i64 (H0 r st cs key n)) h'):
  u9 cp 172 [if a9e r st n then .pointer (some ⟨r.ps (pl r n),0,none⟩)else .pointer none,.string key] h Q:=by
 unfold H0 at hQ
 by_cases c:a9e r st n
 ·rw[if_pos c]
  rw[if_pos c]at hQ
  exact b4Q (R.sl _ (d9I R n)) key hs hQ
 ·rw[if_neg c]
  rw[if_neg c]at hQ
  exact(c8V h key Q).2 (hQ h (Old.refl h))
theorem c7e(R:RingAt h r now st cs)(n:Int)(hn:0<=n/\n<=9223372036854770000)(into:Nat)(hi:(into:Int)<r.W)(key:ByteArray)(hs:key.size<=140737488355328)
  (pos:∀i,0<=H0 r st cs key i/\H0 r st cs key i<=9223372036854775807) {Q:Value->Heap->Prop}
  (hQ:∀h',Old h h' ->Q (.int .i64 (J7 r st cs key n into r.N)) h'):u9 cp 157 [.pointer (some ⟨r.x,0,none⟩),.string key,.int .i64 n,.int .i64 into] h Q:=by
 rw[a8 cp e5X]
 have ox:=R.ox
 have hN:=R.hN
 simp(disch:=omega)only[b3F,↓d0b,ox,↓l9,m9,zA,zB,zC,zD,zE,zF,zG,zH,zI,reduceCtorEq,zJ,zK,zL,zM]
 refine A6 cp a5j _ (fun d e hh=>∃k:Nat,k+d=r.N/\Old h hh/\e 0=.pointer (some ⟨r.x,0,none⟩)/\e 1=.string key/\e 2=.int .i64 n/\e 3=.int .i64 into/\e 9=.int .i64 (J7 r st cs key n into k)/\e 10=.int .i64 (n-r.N+1+k)) ?_ r.N _ _
  ⟨0,by omega,Old.refl _,rfl,rfl,rfl,rfl,rfl,by show Value.int .i64 _=_;congr 1;omega⟩
 rintro d e hh ⟨k,hk,o,e0,e1,e2,e3,e9,e10⟩
 have R1:=R.old o
 have ox:=R1.ox
 by_cases c:k<r.N
 ·have b1:decide (n-r.N+1+k<=n)=true:=dTz (by omega)
  have f:=fun Q=>e8h R1 (n-r.N+1+k) (by omega) Q
  simp(disch:=omega)only[a5j,b3F,↓d0b,e0,e1,e2,e3,e9,e10,b1,f,↓l9,m9,zA,zB,zC,zD,zE,zF,zG,zH,zI,reduceCtorEq,zJ,zK,zL,zM]
  refine b6T R1 _ key hs fun h2 o2=>?_
  have R2:=R1.old o2
  have ox:=R2.ox
  have p:=pos (n-r.N+1+k)
  have nx:n-r.N+1+k+1=n-r.N+1+((k+1:Nat):Int):=by omega
  have fin:D5 (J7 r st cs key n into k):=by cases k with
   |zero=>exact(by unfold J7 D5;omega)
   |succ k=>exact a3d _
  by_cases c0:k=0
  ·subst c0
   have b2:(n-r.N+1+((0:Nat):Int)==n-r.N+1)=true:=by rw[beq_iff_eq];omega
   obtain⟨M,hM⟩:∃M:Nat,H0 r st cs key (n-r.N+1+((0:Nat):Int))=M:=⟨(H0 r st cs key (n-r.N+1+((0:Nat):Int))).toNat,by omega⟩
   have fe:=fun Q=>c8F R2 M into (by omega) hi Q
   have el:=e1G R M into
   have fs:=fun h=>P6 h (J7 r st cs key n into 0) ((b2c r M into:Nat):Int) fin (by unfold D5;omega)
   simp(disch:=omega)only[b3F,↓d0b,e0,e1,e2,e3,e9,e10,ox,b2,hM,fe,fs,nx,↓l9,m9,zA,zB,zC,zD,zE,zF,zG,zH,zI,reduceCtorEq,zJ,zK,zL,zM]
   refine⟨d-1,by omega,0+1,by omega,o.trans o2,?_⟩
   have e:J7 r st cs key n into (0+1)=O4 (J7 r st cs key n into 0+((b2c r M into:Nat):Int)):=by simp only[J7,a2j,if_true];rw[hM,vAz]
   rw[e]
   repeat' first|assumption|rfl|apply And.intro
  ·have b2:(n-r.N+1+(k:Int)==n-r.N+1)=false:=by rw[beq_eq_false_iff_ne];omega
   have fs:=fun h=>P6 h (J7 r st cs key n into k) (H0 r st cs key (n-r.N+1+k)) fin (by unfold D5;omega)
   simp(disch:=omega)only[b3F,↓d0b,e0,e1,e2,e3,e9,e10,ox,b2,fs,nx,↓l9,m9,zA,zB,zC,zD,zE,zF,zG,zH,zI,reduceCtorEq,zJ,zK,zL,zM]
   refine⟨d-1,by omega,k+1,by omega,o.trans o2,?_⟩
   have e:J7 r st cs key n into (k+1)=O4 (J7 r st cs key n into k+H0 r st cs key (n-r.N+1+k)):=by simp only[J7,a2j];rw[if_neg c0]
   rw[e]
   repeat' first|assumption|rfl|apply And.intro
 ·have b1:decide (n-r.N+1+k<=n)=false:=dFz (by omega)
  obtain rfl:k=r.N:=by omega
  simp(disch:=omega)only[a5j,b3F,↓d0b,e0,e1,e2,e3,e9,e10,b1,↓l9,m9,zA,zB,zC,zD,zE,zF,zG,zH,zI,reduceCtorEq,zJ,zK,zL,zM]
  exact hQ _ o
def a1T(r:RP)(now:Int)(st:List Int)(cs:Nat->List Int)(key:ByteArray):Int:=J7 r st cs key (now / r.W) (now % r.W).toNat r.N
theorem K3(R:RingAt h r now st cs)(hnow:0<=now/\now<=9223372036854770000)(key:ByteArray)(hs:key.size<=140737488355328)
  (pos:∀i,0<=H0 r st cs key i/\H0 r st cs key i<=9223372036854775807) {Q:Value->Heap->Prop}
  (hQ:∀h',Old h h' ->Q (.int .i64 (a1T r now st cs key)) h'):u9 cp 135 [.pointer (some ⟨r.x,0,none⟩),.string key] h Q:=by
 rw[a8 cp e5D]
 have ox:=R.ox
 have hW:=R.hW
 have fn:=fun Q=>a3M R now (by omega) Q
 have n0:(r.W=0)=False:=by simp;omega
 have q0:0<=now / r.W:=Int.ediv_nonneg hnow.1 (by omega)
 have q1:now / r.W<=now:=Int.ediv_le_self r.W hnow.1
 have m0:0<=now % r.W:=Int.emod_nonneg now (by omega)
 have m1:now % r.W<r.W:=Int.emod_lt_of_pos now (by omega)
 obtain⟨g,hg⟩:∃g:Nat,now % r.W=g:=⟨(now % r.W).toNat,by omega⟩
 have t1:Int.tmod now r.W=(g:Int):=by rw[J8 _ _ hnow.1];exact hg
 have e:a1T r now st cs key=J7 r st cs key (now / r.W) g r.N:=by unfold a1T;rw[hg,vAz]
 rw[e]at hQ
 simp(disch:=omega)only[d0L,↓e4O,ox,E5,fn,n0,t1,↓l9,m9,zA,zB,zC,zD,zE,zF,zG,zH,zI,reduceCtorEq,zJ,zK,zL,zM]
 refine c7e R _ (by omega) g (by omega) key hs pos fun h' o=>?_
 simp(disch:=omega)only[d0L,↓e4O,↓l9,m9,zA,zB,zC,zD,zE,zF,zG,zH,zI,reduceCtorEq,zJ,zK,zL,zM]
 exact hQ _ o
end
theorem d9R(n:Nat):G0 n [Value.pointer none]=(List.range n).map fun _=>Value.pointer none:=by
 rw[List.map_const',List.length_range]
 induction n with
 |zero=>rfl
 |succ n ih=>rw[List.replicate_succ];show[Value.pointer none]++G0 n [.pointer none]=_;rw[ih];rfl
def a4X(N j:Nat)(ps:Nat->Nat):List Value:=(List.range N).map fun i=>if i<j then Value.pointer (some ⟨ps i,0,none⟩)else .pointer none
theorem d9M(N j:Nat)(ps:Nat->Nat):(a4X N j ps).length=N:=by simp[a4X]
theorem c9n(N:Nat)(ps:Nat->Nat):(List.range N).map (fun _=>Value.pointer none)=a4X N 0 ps:=by simp[a4X]
theorem d9N(N j:Nat)(ps:Nat->Nat)(hj:j<N)(p:Nat):(a4X N j ps).set j (.pointer (some ⟨p,0,none⟩))=a4X N (j+1) fun i=>if i=j then p else ps i:=by
 apply List.ext_getElem?
 intro i
 rw[List.getElem?_set]
 unfold a4X
 by_cases e:j=i
 ·subst e
  rw[if_pos rfl,uzL,List.length_range,if_pos hj,uzJ,List.getElem?_range hj]
  simp
 ·rw[if_neg e,uzJ,uzJ]
  by_cases hi:i<N
  ·rw[List.getElem?_range hi]
   simp only[vlz]
   have:(if i=j then p else ps i)=ps i:=if_neg (Ne.symm e)
   rw[this]
   by_cases h2:i<j
   ·rw[if_pos h2,if_pos (by omega)]
   ·rw[if_neg h2,if_neg (by omega)]
  ·rw[vmz (by simp;omega)];rfl
abbrev b5m(L Wd B S C Rr w T:Int)(sm:Bool):List Value:=[.int .i64 L,.int .i64 Wd,.int .i64 B,.int .i64 S,.int .i64 C,.int .i64 Rr,.int .i64 w,.int .i64 T,.bool sm]
theorem e2b(h:Heap)(rv:Value)(rb:Nat)(rows:List M7)(V:E3 h 182 a0i rv rows rb)(ok:∀r∈rows,r.OK)(hr:1<=rows.length/\rows.length<=8)
  (L Wd B C Rr T:Int) (S w:Nat) (sm:Bool) (hS:1<=S/\S<=64) (hw:1<=w/\w<=4096) (hWd:0<=Wd) (hW:1<=Wd / (S:Int)/\Wd / (S:Int)<=1099511627776) (hL:D5 L) {Q:Value->Heap->Prop}
  (hQ:∀h' (r:RP),Old h h' ->RingAt h' r 0 (vaz (S+1) 0) (fun _=>vaz (rows.length*w) 0)->r.N=S+1->r.w=w->r.W=Wd / (S:Int)->r.L=L->r.part=sm->r.rows=rows->h.next<=r.x->h.next<=r.tb->(∀i,i<r.N->h.next<=r.nbs i)->h.next<=r.sb->(∀i,i<r.N->h.next<=r.ps i)->r.rb=rb->Q (.pointer (some ⟨r.x,0,none⟩)) h'):
  u9 cp 81 [.agg (b5m L Wd B S C Rr w T sm).toArray,rv] h Q:=by
 rw[a8 cp f1e]
 obtain⟨a,cap,rfl,hc⟩:=V.val
 have hb:rb<h.next:=by obtain⟨_,_,_,hl,_⟩:=V.at (by omega);exact hl
 have a1:decide ((S:Int)<1)=false:=dFz (by omega)
 have a2:decide ((S:Int)>64)=false:=dFz (by omega)
 have n0:((S:Int)=0)=False:=by simp;omega
 have t1:Int.tdiv Wd (S:Int)=Wd / (S:Int):=a5w _ _ hWd
 have a3:decide (Wd / (S:Int)<1)=false:=dFz (by omega)
 have a4:((rows.length:Int)==0)=false:=beq_eq_false_iff_ne.2 (by omega)
 have a5:decide ((w:Int)<1)=false:=dFz (by omega)
 have k1:(S:Int)+1=((S+1:Nat):Int):=by omega
 have t4:∀a b c d,((((h.new a).new b).new c).new d).obj (h.next+1+1+1)=d:=fun a b c d=>f9 _ _
 simp(disch:=first|omega| (simp only[j0,r9,ne_eq];omega))only[c81,↓R81,a1,a2,a3,a4,a5,n0,t1,t4,k1,d9R,M5,c9n _ (fun _=>0),↓l9,m9,zA,zB,zC,zD,zE,zF,zG,zH,zI,reduceCtorEq,zJ,zK,zL,zM]
 obtain⟨H,hH⟩:∃H,H=((((h.new (.cells (b5m L Wd B S C Rr w T sm) 34 .fix)).new (.cells (a4X (S+1) 0 fun _=>0) 202 .grow)).new (.cells (ints .i64 (vaz (S+1) 0)) 2 .grow)).new
  (.cells [.slice (some ⟨h.next+1,0,none⟩) (S+1) (S+1),.slice (some ⟨h.next+1+1,0,none⟩) (S+1) (S+1),.int .i64 (Wd / (S:Int)),.int .i64 rows.length,.int .i64 L,.bool sm,.int .i64 0] 201 .fix)):=⟨_,rfl⟩
 have oH:Old h H:=by rw[hH];exact(((((Old.refl h).more _).more _).more _).more _)
 have nH:H.next=h.next+1+1+1+1:=by rw[hH];rfl
 have gx:H.obj (h.next+1+1+1)=.cells [.slice (some ⟨h.next+1,0,none⟩) (S+1) (S+1),.slice (some ⟨h.next+1+1,0,none⟩) (S+1) (S+1),.int .i64 (Wd / (S:Int)),.int .i64 rows.length,.int .i64 L,.bool sm,.int .i64 0] 201 .fix:=by rw[hH];exact f9 _ _
 have gt:H.obj (h.next+1+1)=.cells (ints .i64 (vaz (S+1) 0)) 2 .grow:=by rw[hH,f4 _ _ (by simp only[j0];omega)];exact f9 _ _
 have gs:H.obj (h.next+1)=.cells (a4X (S+1) 0 fun _=>0) 202 .grow:=by rw[hH,f4 _ _ (by simp only[j0];omega),f4 _ _ (by simp only[j0];omega)];exact f9 _ _
 have gr:H.obj h.next=.cells (b5m L Wd B S C Rr w T sm) 34 .fix:=by rw[hH,f4 _ _ (by simp only[j0];omega),f4 _ _ (by simp only[j0];omega),f4 _ _ (by simp only[j0];omega)];exact f9 _ _
 have VH:=V.keep oH.next fun hl=>oH.obj rb hl
 rw[<-hH]
 clear hH t4
 refine A6 cp b1T _ (fun d e hh=>∃(j:Nat) (ps nbs:Nat->Nat),j+d=S+1/\OldX (h.next+1) H hh/\hh.obj (h.next+1)=.cells (a4X (S+1) j ps) 202 .grow/\
   (∀i,i<j->SlotAt hh (ps i) (nbs i) (.slice a rows.length cap) rb rows w (vaz (rows.length*w) 0)/\H.next<=ps i/\H.next<=nbs i)/\(∀i k,i<j->k<j->(i≠k->nbs i≠nbs k)/\ps i≠nbs k)/\
   e 1=.slice a rows.length cap/\e 2=.pointer (some ⟨h.next,0,none⟩)/\e 5=.pointer (some ⟨h.next+1+1+1,0,none⟩)/\e 58=.int .i64 ((S+1:Nat):Int)/\e 59=.int .i64 j) ?_ (S+1) _ _
  ⟨0,fun _=>0,fun _=>0,by omega,OldX.refl _ _,gs,fun i hi=>by omega,fun i k hi=>by omega,rfl,rfl,rfl,rfl,rfl⟩
 rintro d e hh ⟨j,ps,nbs,hj,o,hs,hsl,hap,e1,e2,e5,e58,e59⟩
 have on:=o.next
 have gx1:=(o.obj _ (by omega) (by omega)).trans gx
 have gr1:=(o.obj _ (by omega) (by omega)).trans gr
 by_cases c:j<S+1
 ·have b1:decide ((j:Int)<((S+1:Nat):Int))=true:=dTz (by omega)
  have nx:(j:Int)+1=((j+1:Nat):Int):=by omega
  simp(disch:=first|omega| (simp only[j0,r9,ne_eq];omega))only[b1T,c81,↓R81,e1,e2,e5,e58,e59,b1,gx1,gr1,↓l9,m9,zA,zB,zC,zD,zE,zF,zG,zH,zI,reduceCtorEq,zJ,zK,zL,zM]
  refine b6Q hh _ rb rows w (VH.keep on fun hl=>o.obj rb hl (by omega)) ok hr hw fun h2 p nb o2 S2 hp hn=>?_
  have gx2:=(o2.obj _ (by omega)).trans gx1
  have hs2:=(o2.obj (h.next+1) (by omega)).trans hs
  have hle:=o2.next
  have lnb:=S2.ln
  have lp:=S2.lp
  simp(disch:=first|omega| (simp only[j0,r9,ne_eq];omega))only[c81,↓R81,e1,e2,e5,e58,e59,gx2,hs2,nx,D8,d9M,d9N _ _ _ c,↓l9,m9,zA,zB,zC,zD,zE,zF,zG,zH,zI,reduceCtorEq,zJ,zK,zL,zM]
  have oX:OldX (h.next+1) h2 (h2.upd (h.next+1) (.cells (a4X (S+1) (j+1) fun i=>if i=j then p else ps i) 202 .grow)):=⟨uzP _,fun b _ hb=>a6 _ _ hb⟩
  refine⟨d-1,by omega,j+1,fun i=>if i=j then p else ps i,fun i=>if i=j then nb else nbs i,by omega,(o.trans (o2.x _)).trans oX,?_,fun i hi=>?_,fun i k hi hk=>?_,?_⟩
  ·first|rfl|exact a9 _ _ _
  ·by_cases e:i=j
   ·subst e
    simp only[if_true]
    exact⟨S2.oldx oX (by omega) (by omega) (by omega),by omega,by omega⟩
   ·simp only[if_neg e]
    obtain⟨s1,s2,s3⟩:=hsl i (by omega)
    exact⟨(s1.old o2).oldx oX (by omega) (by omega) (by omega),s2,s3⟩
  ·by_cases ei:i=j
   ·by_cases ek:k=j
    ·subst ei;subst ek
     simp only[if_true]
     exact⟨fun h=>absurd rfl h,S2.pn⟩
    ·obtain⟨s1,s2,s3⟩:=hsl k (by omega)
     have:=s1.ln
     simp only[if_pos ei,if_neg ek]
     exact⟨fun _=>by omega,by omega⟩
   ·by_cases ek:k=j
    ·obtain⟨s1,s2,s3⟩:=hsl i (by omega)
     have:=s1.ln
     have:=s1.lp
     simp only[if_neg ei,if_pos ek]
     exact⟨fun _=>by omega,by omega⟩
    ·simp only[if_neg ei,if_neg ek]
     exact hap i k (by omega) (by omega)
  ·repeat' first|assumption|rfl|apply And.intro
 ·have b1:decide ((j:Int)<((S+1:Nat):Int))=false:=dFz (by omega)
  obtain rfl:j=S+1:=by omega
  simp(disch:=first|omega| (simp only[j0,r9,ne_eq];omega))only[b1T,c81,↓R81,e1,e2,e5,e58,e59,b1,↓l9,m9,zA,zB,zC,zD,zE,zF,zG,zH,zI,reduceCtorEq,zJ,zK,zL,zM]
  have gt1:=(o.obj _ (by omega) (by omega)).trans gt
  refine hQ hh ⟨h.next+1+1+1,h.next+1,h.next+1+1,ps,nbs,.slice a rows.length cap,rb,rows,S+1,w,Wd / (S:Int),L,sm⟩ ((oH.x _).trans o |>.fresh (vLz _)) ?_ rfl rfl rfl rfl rfl rfl (by show h.next<=h.next+1+1+1;omega) (by show h.next<=h.next+1+1;omega) (fun i hi=>by have:=(hsl i hi).2.2;show h.next<=nbs i;omega) (by show h.next<=h.next+1;omega) (fun i hi=>by have:=(hsl i hi).2.1;show h.next<=ps i;omega) rfl
  refine⟨gx1,by show h.next+1+1+1<hh.next;omega,?_,by show h.next+1<hh.next;omega,gt1,by show h.next+1+1<hh.next;omega,by simp,fun x hx=>by rw[(List.mem_replicate.1 hx).2];unfold D5;omega,by show 2<=S+1/\S+1<=65;omega,hW,hL,fun i hi=>(hsl i hi).1,fun i k hi hk=>(hap i k hi hk).1,fun i k hi hk=>(hap i k hi hk).2,fun i hi=>?_,fun i hi=>?_,?_,?_⟩
  ·show hh.obj (h.next+1)=_
   rw[hs]
   congr 1
   unfold a4X
   apply List.map_congr_left
   intro i hi
   rw[if_pos (List.mem_range.1 hi)]
  ·obtain⟨_,s2,s3⟩:=hsl i hi
   show h.next+1+1+1≠nbs i/\h.next+1≠nbs i/\h.next+1+1≠nbs i
   omega
  ·obtain⟨_,s2,s3⟩:=hsl i hi
   show ps i≠h.next+1+1+1/\ps i≠h.next+1+1
   omega
  ·show h.next+1+1+1≠h.next+1/\h.next+1+1+1≠h.next+1+1/\h.next+1≠h.next+1+1
   omega
  ·show rb≠h.next+1+1+1/\rb≠h.next+1+1
   omega
theorem c7q(m:Nat):(256:Int) ^ m=2 ^ (8*m):=by
 induction m with
 |zero=>rfl
 |succ m ih=>rw[Int.pow_succ,ih,show 8*(m+1)=8*m+8 by omega,Int.pow_add];rfl
theorem a5q(h:Heap)(H:Nat)(hH:H<=h.next)(v:Value)(l:List Int)(b:Nat)(V:E3 h 5 B8 v l b)(hb:H<=b)(hlen:l.length<=10000)(n:Nat)(hn8:n<=8)(x:Int)
  (hQ:∀h' v' b',E3 h' 5 B8 v' (l++M1 n x) b' ->h.next<=h'.next->H<=b' ->(∀z,z<H->h'.obj z=h.obj z)->Q v' h'):
  u9 cp 44 [v,.int .i64 n,.int .u64 x] h Q:=by
 rw[a8 cp e6C]
 simp(disch:=omega)only[c44,↓R44,↓l9,m9,zA,zB,zC,zD,zE,zF,zG,zH,zI,reduceCtorEq,zJ,zK,zL,zM]
 refine A6 cp a2p _ (fun d e hh=>∃(i bb:Nat) (vv:Value),i+d=n/\h.next<=hh.next/\(∀z,z<H->hh.obj z=h.obj z)/\H<=bb/\E3 hh 5 B8 vv (l++(M1 n x).take i) bb/\
   e 0=vv/\e 2=.int .u64 x/\e 7=.int .i64 ((n:Int)-1-(i:Int))) ?_ n _ _
  ⟨0,b,v,by omega,uzP _,fun _ _=>rfl,hb,by simpa using V,rfl,rfl,by show Value.int .i64 _=_;congr 1;omega⟩
 rintro d e hh ⟨i,bb,vv,hi,hn,ho,hbb,V,e0,e2,e7⟩
 by_cases ci:i<n
 ·have b2:decide ((n:Int)-1-(i:Int)>=0)=true:=dTz (by omega)
  obtain⟨k,hk⟩:∃k:Nat,(8:Int)*((n:Int)-1-(i:Int))=k:=⟨(8*((n:Int)-1-(i:Int))).toNat,by omega⟩
  have nxk:(n:Int)-1-(i:Int)-1=(n:Int)-1-((i+1:Nat):Int):=by omega
  have sh:=fun y:Int=>a2i .u64 y k (by show k<=64;omega)
  obtain⟨c,hc⟩:∃c,c=x / 2 ^ k % 256:=⟨_,rfl⟩
  have gi:(M1 n x)[i]? =some c:=by
   rw[a7L n _ i ci,hc,c7q,show 8*(n-1-i)=k by omega]
  have tki:(M1 n x).take (i+1)=(M1 n x).take i++[c]:=by rw[List.take_add_one,gi];rfl
  have il:((M1 n x).take i).length=i:=by rw[vqz,E1];omega
  simp(disch:=omega)only[a2p,c44,↓R44,e0,e2,e7,b2,hk,sh,wu8,<-hc,G0,vtz,↓l9,m9,zA,zB,zC,zD,zE,zF,zG,zH,zI,reduceCtorEq,zJ,zK,zL,zM]
  refine(V.new8 _).app (m:=[c]) rfl (O9 B8 hh c 5 1) (by rw[vdz,uzG,il];omega) (by rw[vdz,uzG,il];omega) fun v' h' b' V3 hn' hb' ho' =>?_
  have hn'' :hh.next+1<=h'.next:=hn'
  simp(disch:=omega)only[c44,↓R44,e0,e2,e7,nxk,↓l9,m9,zA,zB,zC,zD,zE,zF,zG,zH,zI,reduceCtorEq,zJ,zK,zL,zM]
  refine⟨d-1,by omega,i+1,b',v',by omega,by omega,fun z hz=>?_,?_,?_,rfl,rfl⟩
  ·rw[ho' z (by show z<hh.next+1;omega) (.inr (by omega)),f4 _ _ (by omega),ho z hz]
  ·rcases hb' with rfl|hb'
   ·exact hbb
   ·have:hh.next+1<=b' :=hb'
    omega
  ·rw[tki,<-vvz];exact V3
 ·have b2:decide ((n:Int)-1-(i:Int)>=0)=false:=dFz (by omega)
  obtain rfl:i=n:=by omega
  rw[vnz (by rw[E1];exact uzP _)]at V
  simp(disch:=omega)only[a2p,c44,↓R44,e0,e2,e7,b2,↓l9,m9,zA,zB,zC,zD,zE,zF,zG,zH,zI,reduceCtorEq,zJ,zK,zL,zM]
  exact hQ _ _ _ V hn hbb ho
def J5(sign:Int)(l:List Int):List Int:=[sign,1,(l.length:Int) / 256 % 256,(l.length:Int) % 256]++l
theorem a0m(h:Heap)(H:Nat)(hH:H<=h.next)(sign:Int)(v:Value)(l:List Int)(b:Nat)(V:E3 h 5 B8 v l b)(hl:l.length<=10000)
  (hQ:∀h' v' b',E3 h' 5 B8 v' (J5 sign l) b' ->h.next<=h'.next->H<=b' ->(∀z,z<H->h'.obj z=h.obj z)->Q v' h'):
  u9 cp 45 [.int .u8 sign,v] h Q:=by
 rw[a8 cp f0B]
 obtain⟨a,cap,rfl,hcap⟩:=V.val
 have sh:=fun y:Int=>a2i .i64 y 8 (by decide)
 have s8:(l.length:Int) / 2 ^ 8=(l.length:Int) / 256:=rfl
 obtain⟨h1,h1d⟩:∃h1,h1=h.new (.cells [.int .u8 sign,.int .u8 1,.int .u8 ((l.length:Int) / 256 % 256),.int .u8 ((l.length:Int) % 256)] 5 .grow):=⟨_,rfl⟩
 have V1:E3 h1 5 B8 (.slice (some ⟨h.next,0,none⟩) 4 4) [sign,1,(l.length:Int) / 256 % 256,(l.length:Int) % 256] h.next:=.inr ⟨4,[],rfl,by rw[h1d];exact vpz _,by rw[h1d,f9];rfl,rfl,uzP _⟩
 have V2:E3 h1 5 B8 (.slice a l.length cap) l b:=by rw[h1d];exact V.new8 _
 have n1:h1.next=h.next+1:=by rw[h1d];rfl
 simp(disch:=omega)only[c45,↓R45,sh,s8,wu8,G0,vCz,vrz,<-h1d,↓l9,m9,zA,zB,zC,zD,zE,zF,zG,zH,zI,reduceCtorEq,zJ,zK,zL,zM]
 refine V1.app (m:=l) (bytes:=1) rfl V2.src0 (by simp only[uzM,vkz];omega) (by simp only[uzM,vkz];omega) fun v' h' b' V3 hn' hb' ho' =>?_
 simp(disch:=omega)only[c45,↓R45,↓l9,m9,zA,zB,zC,zD,zE,zF,zG,zH,zI,reduceCtorEq,zJ,zK,zL,zM]
 refine hQ _ _ _ V3 (by omega) (by omega) fun z hz=>?_
 rw[ho' z (by omega) (.inr (by omega)),h1d,f4 _ _ (by omega)]
def a3S(op rule cost:Int)(key:List Int)(k:Int):List Int:=
 [op % 256,rule % 256]++(if op=1\/op=2 then M1 4 cost++[(key.length:Int) % 256]++key else if op=4 then[k % 256]else[])
def a1U(op rule cost:Int)(key:List Int)(k:Int):Value:=.agg #[.int .i64 op,.int .i64 rule,.int .u32 cost,.string (bs key),.int .i64 k]
theorem b0P(h:Heap)(op rule cost:Int)(key:List Int)(k:Int)(hop:op=1\/op=2\/op=3\/op=4)(hc:0<=cost/\cost<4294967296)(hk:E4 key)(hl:key.length<=64)
  (hQ:∀h' v' b',E3 h' 5 B8 v' (J5 167 (a3S op rule cost key k)) b' ->Old h h' ->h.next<=b' ->Q v' h'):
  u9 cp 20 [a1U op rule cost key k] h Q:=by
 rw[a8 cp f0p]
 unfold a1U
 obtain⟨h1,h1d,o1,n1,ga⟩:=K2 h (.cells [.int .i64 op,.int .i64 rule,.int .u32 cost,.string (bs key),.int .i64 k] 61 .fix)
 obtain⟨h2,h2d,o2,n2,_⟩:=K2 h1 (.cells [.int .u8 (op % 256),.int .u8 (rule % 256)] 5 .grow)
 have ga2:=(o2.obj h.next (by omega)).trans ga
 have V2:E3 h2 5 B8 (.slice (some ⟨h1.next,0,none⟩) 2 2) [op % 256,rule % 256] h1.next:=.inr ⟨2,[],rfl,by rw[h2d];exact vpz _,by rw[h2d,f9];rfl,rfl,uzP _⟩
 have hsz:=a1B key
 have fin:∀hh vv l b,E3 hh 5 B8 vv l b->l=a3S op rule cost key k->h2.next<=hh.next->h1.next<=b->(∀z,z<h1.next->hh.obj z=h2.obj z)->∀{R:Value->Heap->Prop},(∀v' h',Q v' h' ->R v' h')->u9 cp 45 [.int .u8 167,vv] hh R:=by
  intro hh vv l b VV hll hn hb ho R hR
  refine a0m hh h1.next (by omega) 167 vv l b VV ?_ fun h' v' b' V3 hn' hb' ho' =>?_
  ·rw[hll];unfold a3S
   split
   ·simp only[uzG,E1,uzM,vkz];omega
   ·split<;>simp
  ·rw[hll]at V3
   exact hR _ _<|hQ _ _ _ V3 ⟨by omega,fun z hz=>by rw[ho' z (by omega),ho z (by omega),o2.obj z (by omega),o1.obj z hz]⟩ (by omega)
 rcases hop with rfl|rfl|rfl|rfl
 all_goals
  simp(disch:=omega)only[c20,↓R20,<-h1d,ga,wu8,G0,vCz,vrz,Int.reduceMod,Int.reduceEq,zN,↓l9,m9,zA,zB,zC,zD,zE,zF,zG,zH,zI,reduceCtorEq,zJ,zK,zL,zM]at h2d ⊢
  simp(disch:=omega)only[c20,↓R20,<-h2d,ga,ga2,wu8,G0,vCz,vrz,Int.reduceMod,Int.reduceEq,zN,↓l9,m9,zA,zB,zC,zD,zE,zF,zG,zH,zI,reduceCtorEq,zJ,zK,zL,zM]
 iterate 2
  ·refine a5q h2 h1.next (by omega) _ _ h1.next V2 (uzP _) (by simp) 4 (by decide) cost fun h3 v3 b3 V3 hn3 hb3 ho3=>?_
   have ga3:=(ho3 h.next (by omega)).trans ga2
   simp(disch:=omega)only[c20,↓R20,ga2,ga3,hsz,wu8,G0,vtz,↓l9,m9,zA,zB,zC,zD,zE,zF,zG,zH,zI,reduceCtorEq,zJ,zK,zL,zM]
   refine(V3.new8 _).app (m:=[(key.length:Int) % 256]) (bytes:=1) rfl (O9 B8 h3 _ 5 1) (by simp only[uzG,E1,uzM,vkz];omega) (by simp only[uzG,E1,uzM,vkz];omega) fun v4 h4 b4 V4 hn4 hb4 ho4=>?_
   have hn4' :h3.next+1<=h4.next:=hn4
   have ho4' :∀z,z<h1.next->h4.obj z=h3.obj z:=fun z hz=>by rw[ho4 z (by show z<h3.next+1;omega) (.inr (by omega)),f4 _ _ (by omega)]
   have hb4' :h1.next<=b4:=by
    rcases hb4 with rfl|hb4
    ·exact hb3
    ·have:h3.next+1<=b4:=hb4
     omega
   have ga4:=(ho4' h.next (by omega)).trans ga3
   simp(disch:=omega)only[c20,↓R20,ga4,↓l9,m9,zA,zB,zC,zD,zE,zF,zG,zH,zI,reduceCtorEq,zJ,zK,zL,zM]
   refine V4.app (m:=key) (bytes:=1) rfl (e0p h4 key hk) (by simp only[uzG,E1,uzM,vkz];omega) (by simp only[uzG,E1,uzM,vkz];omega) fun v5 h5 b5 V5 hn5 hb5 ho5=>?_
   simp(disch:=omega)only[c20,↓R20,↓l9,m9,zA,zB,zC,zD,zE,zF,zG,zH,zI,reduceCtorEq,zJ,zK,zL,zM]
   refine fin h5 v5 _ b5 V5 (by simp[a3S]) (by omega) (by omega) (fun z hz=>?_) fun v' h' q=>?_
   rotate_left
   ·simp(disch:=omega)only[c20,↓R20,↓l9,m9,zA,zB,zC,zD,zE,zF,zG,zH,zI,reduceCtorEq,zJ,zK,zL,zM]
    exact q
   rw[ho5 z (by omega) (.inr (by omega)),ho4' z hz,ho3 z hz]
 ·refine fin h2 _ _ _ V2 (by simp[a3S]) (uzP _) (uzP _) (fun z _=>rfl) fun v' h' q=>?_
  simp(disch:=omega)only[c20,↓R20,↓l9,m9,zA,zB,zC,zD,zE,zF,zG,zH,zI,reduceCtorEq,zJ,zK,zL,zM]
  exact q
 ·have e2:=O9 B8 h2 (k % 256) 5 1
  rw[n2]at e2
  refine(V2.new8 _).app (m:=[k % 256]) (bytes:=1) rfl e2 (by simp) (by simp) fun v4 h4 b4 V4 hn4 hb4 ho4=>?_
  have hn4' :h2.next+1<=h4.next:=hn4
  simp(disch:=omega)only[c20,↓R20,↓l9,m9,zA,zB,zC,zD,zE,zF,zG,zH,zI,reduceCtorEq,zJ,zK,zL,zM]
  refine fin h4 v4 _ b4 V4 (by simp[a3S]) (by omega) ?_ (fun z hz=>?_) fun v' h' q=>?_
  rotate_left 2
  ·simp(disch:=omega)only[c20,↓R20,↓l9,m9,zA,zB,zC,zD,zE,zF,zG,zH,zI,reduceCtorEq,zJ,zK,zL,zM]
   exact q
  ·rcases hb4 with rfl|hb4
   ·exact uzP _
   ·have:h2.next+1<=b4:=hb4
    omega
  ·rw[ho4 z (by show z<h2.next+1;omega) (.inr (by omega)),f4 _ _ (by omega)]
def a1l(op n:Int):Bool:=if op=1\/op=2 then decide (n>=7)else if op=3 then n==2 else if op=4 then n==3 else false
theorem e1P(h:Heap)(op n:Int)(Q:Value->Heap->Prop):u9 cp 101 [.int .u8 op,.int .u8 n] h Q↔Q (.bool (a1l op n)) h:=by
 refine v9 ?_ Q
 rw[a8 cp e5n]
 unfold a1l
 by_cases c1:op=1
 ·subst c1
  simp(disch:=omega)only[b3b,↓c9W,zN,↓l9,m9,zA,zB,zC,zD,zE,zF,zG,zH,zI,reduceCtorEq,zJ,zK,zL,zM]
 by_cases c2:op=2
 ·subst c2
  simp(disch:=omega)only[b3b,↓c9W,zN,↓l9,m9,zA,zB,zC,zD,zE,zF,zG,zH,zI,reduceCtorEq,zJ,zK,zL,zM]
 by_cases c3:op=3
 ·subst c3
  simp(disch:=omega)only[b3b,↓c9W,zN,↓l9,m9,zA,zB,zC,zD,zE,zF,zG,zH,zI,reduceCtorEq,zJ,zK,zL,zM]
 by_cases c4:op=4
 ·subst c4
  simp(disch:=omega)only[b3b,↓c9W,zN,↓l9,m9,zA,zB,zC,zD,zE,zF,zG,zH,zI,reduceCtorEq,zJ,zK,zL,zM]
 have a1:(op==1)=false:=beq_eq_false_iff_ne.2 c1
 have a2:(op==2)=false:=beq_eq_false_iff_ne.2 c2
 have a3:(op==3)=false:=beq_eq_false_iff_ne.2 c3
 have a4:(op==4)=false:=beq_eq_false_iff_ne.2 c4
 simp(disch:=omega)only[b3b,↓c9W,a1,a2,a3,a4,↓l9,m9,zA,zB,zC,zD,zE,zF,zG,zH,zI,reduceCtorEq,zJ,zK,zL,zM]
def E7(l3:Int)(i:Nat)(c rules:Int):Int:=
 if i=0 then(if c=167 then 0 else 5)
 else if i=1 then(if c=1 then 0 else 6)
 else if i=2 then(if c=0 then 0 else 7)
 else if i=3 then(if c=2\/c=3\/7<=c/\c<=71 then 0 else 7)
 else if i=4 then(if a1l c l3=true then 0 else 8)
 else if i=5 then(if c<rules then 0 else 9)
 else if i=10 then(if c=l3-7 then 0 else 10)
 else 0
theorem d9g(h:Heap)(v:Value)(l:List Int)(s:Bys h v l)(i:Nat)(hi:i<l.length)(hl:l.length<=1000)(byt:E4 l)(c rules:Int)(hc:0<=c/\c<256)(Q:Value->Heap->Prop):
  u9 cp 95 [v,.int .i64 i,.int .u8 c,.int .i64 rules] h Q↔Q (.int .i64 (E7 (l.getD 3 0) i c rules)) h:=by
 refine v9 ?_ Q
 rw[a8 cp f1s]
 unfold E7
 by_cases c0:i=0
 ·have z:(i:Int)=0:=by omega
  rw[if_pos c0]
  by_cases d:c=167
  ·have d' :(c !=167)=false:=by rw[d];rfl
   rw[if_pos d]
   simp(disch:=omega)only[c95,↓R95,z,d',zN,↓l9,m9,zA,zB,zC,zD,zE,zF,zG,zH,zI,reduceCtorEq,zJ,zK,zL,zM]
  ·have d' :(c !=167)=true:=bne_iff_ne.2 d
   rw[if_neg d]
   simp(disch:=omega)only[c95,↓R95,z,d',zN,↓l9,m9,zA,zB,zC,zD,zE,zF,zG,zH,zI,reduceCtorEq,zJ,zK,zL,zM]
 by_cases c1:i=1
 ·have z:(i:Int)=1:=by omega
  rw[if_neg c0,if_pos c1]
  by_cases d:c=1
  ·have d' :(c !=1)=false:=by rw[d];rfl
   rw[if_pos d]
   simp(disch:=omega)only[c95,↓R95,z,d',zN,↓l9,m9,zA,zB,zC,zD,zE,zF,zG,zH,zI,reduceCtorEq,zJ,zK,zL,zM]
  ·have d' :(c !=1)=true:=bne_iff_ne.2 d
   rw[if_neg d]
   simp(disch:=omega)only[c95,↓R95,z,d',zN,↓l9,m9,zA,zB,zC,zD,zE,zF,zG,zH,zI,reduceCtorEq,zJ,zK,zL,zM]
 by_cases c2:i=2
 ·have z:(i:Int)=2:=by omega
  rw[if_neg c0,if_neg c1,if_pos c2]
  by_cases d:c=0
  ·have d' :(c !=0)=false:=by rw[d];rfl
   rw[if_pos d]
   simp(disch:=omega)only[c95,↓R95,z,d',zN,↓l9,m9,zA,zB,zC,zD,zE,zF,zG,zH,zI,reduceCtorEq,zJ,zK,zL,zM]
  ·have d' :(c !=0)=true:=bne_iff_ne.2 d
   rw[if_neg d]
   simp(disch:=omega)only[c95,↓R95,z,d',zN,↓l9,m9,zA,zB,zC,zD,zE,zF,zG,zH,zI,reduceCtorEq,zJ,zK,zL,zM]
 by_cases c3:i=3
 ·have z:(i:Int)=3:=by omega
  rw[if_neg c0,if_neg c1,if_neg c2,if_pos c3]
  by_cases d2:c=2
  ·have d' :(c !=2)=false:=by rw[d2];rfl
   rw[if_pos (.inl d2)]
   simp(disch:=omega)only[c95,↓R95,z,d',zN,↓l9,m9,zA,zB,zC,zD,zE,zF,zG,zH,zI,reduceCtorEq,zJ,zK,zL,zM]
  have d2' :(c !=2)=true:=bne_iff_ne.2 d2
  by_cases d3:c=3
  ·have d' :(c !=3)=false:=by rw[d3];rfl
   rw[if_pos (.inr (.inl d3))]
   simp(disch:=omega)only[c95,↓R95,z,d2',d',zN,↓l9,m9,zA,zB,zC,zD,zE,zF,zG,zH,zI,reduceCtorEq,zJ,zK,zL,zM]
  have d3' :(c !=3)=true:=bne_iff_ne.2 d3
  by_cases d7:c<7
  ·have d' :decide (c<7)=true:=dTz d7
   rw[if_neg (show ¬(c=2\/c=3\/7<=c/\c<=71) by omega)]
   simp(disch:=omega)only[c95,↓R95,z,d2',d3',d',zN,↓l9,m9,zA,zB,zC,zD,zE,zF,zG,zH,zI,reduceCtorEq,zJ,zK,zL,zM]
  have d7' :decide (c<7)=false:=dFz d7
  by_cases d8:c>71
  ·have d' :decide (c>71)=true:=dTz d8
   rw[if_neg (show ¬(c=2\/c=3\/7<=c/\c<=71) by omega)]
   simp(disch:=omega)only[c95,↓R95,z,d2',d3',d7',d',zN,↓l9,m9,zA,zB,zC,zD,zE,zF,zG,zH,zI,reduceCtorEq,zJ,zK,zL,zM]
  ·have d' :decide (c>71)=false:=dFz d8
   rw[if_pos (show c=2\/c=3\/7<=c/\c<=71 by omega)]
   simp(disch:=omega)only[c95,↓R95,z,d2',d3',d7',d',zN,↓l9,m9,zA,zB,zC,zD,zE,zF,zG,zH,zI,reduceCtorEq,zJ,zK,zL,zM]
 by_cases c5:i=5
 ·have z:(i:Int)=5:=by omega
  rw[if_neg c0,if_neg c1,if_neg c2,if_neg c3,if_neg (show ¬i=4 by omega),if_pos c5]
  have wc:IntKind.i64.wrap c=c:=by rw[R7];omega
  by_cases d:c<rules
  ·have d' :decide (c>=rules)=false:=dFz (by omega)
   rw[if_pos d]
   simp(disch:=omega)only[c95,↓R95,z,wc,d',zN,↓l9,m9,zA,zB,zC,zD,zE,zF,zG,zH,zI,reduceCtorEq,zJ,zK,zL,zM]
  ·have d' :decide (c>=rules)=true:=dTz (by omega)
   rw[if_neg d]
   simp(disch:=omega)only[c95,↓R95,z,wc,d',zN,↓l9,m9,zA,zB,zC,zD,zE,zF,zG,zH,zI,reduceCtorEq,zJ,zK,zL,zM]
 by_cases c4:i=4
 ·have z:(i:Int)=4:=by omega
  rw[if_neg c0,if_neg c1,if_neg c2,if_neg c3,if_pos c4]
  have hx:l[3]? =some l[3]:=uzF (by omega)
  have hd:l.getD 3 0=l[3]:=by rw[vcz,hx];rfl
  rw[hd]
  obtain⟨b,o,cap,rfl,_,_,_,hr⟩:=s.at (by omega)
  have hg:=Bys.get (cap:=cap) hr hx
  generalize l[3]'(by omega)=x at*
  have f:=fun h n=>e1P h c n
  cases d:a1l c x with
  |true=>
   simp(disch:=omega)only[c95,↓R95,z,f,hg,d,zN,↓l9,m9,zA,zB,zC,zD,zE,zF,zG,zH,zI,reduceCtorEq,zJ,zK,zL,zM]
  |false=>
   simp(disch:=omega)only[c95,↓R95,z,f,hg,d,zN,↓l9,m9,zA,zB,zC,zD,zE,zF,zG,zH,zI,reduceCtorEq,zJ,zK,zL,zM]
 by_cases c10:i=10
 ·have z:(i:Int)=10:=by omega
  rw[if_neg c0,if_neg c1,if_neg c2,if_neg c3,if_neg c4,if_neg c5,if_pos c10]
  have hx:l[3]? =some l[3]:=uzF (by omega)
  have hd:l.getD 3 0=l[3]:=by rw[vcz,hx];rfl
  rw[hd]
  have hxr:=byt _ (uzK hx)
  obtain⟨b,o,cap,rfl,_,_,_,hr⟩:=s.at (by omega)
  have hg:=Bys.get (cap:=cap) hr hx
  generalize l[3]'(by omega)=x at*
  have wc:IntKind.i64.wrap c=c:=by rw[R7];omega
  by_cases d:c=x-7
  ·have d' :(c !=x-7)=false:=by rw[d];exact bne_self_eq_false _
   rw[if_pos d]
   simp(disch:=omega)only[c95,↓R95,z,hg,wc,d',zN,↓l9,m9,zA,zB,zC,zD,zE,zF,zG,zH,zI,reduceCtorEq,zJ,zK,zL,zM]
  ·have d' :(c !=x-7)=true:=bne_iff_ne.2 d
   rw[if_neg d]
   simp(disch:=omega)only[c95,↓R95,z,hg,wc,d',zN,↓l9,m9,zA,zB,zC,zD,zE,zF,zG,zH,zI,reduceCtorEq,zJ,zK,zL,zM]
 have z0:((i:Int)==0)=false:=beq_eq_false_iff_ne.2 (by omega)
 have z1:((i:Int)==1)=false:=beq_eq_false_iff_ne.2 (by omega)
 have z2:((i:Int)==2)=false:=beq_eq_false_iff_ne.2 (by omega)
 have z3:((i:Int)==3)=false:=beq_eq_false_iff_ne.2 (by omega)
 have z4:((i:Int)==4)=false:=beq_eq_false_iff_ne.2 (by omega)
 have z5:((i:Int)==5)=false:=beq_eq_false_iff_ne.2 (by omega)
 have z10:((i:Int)==10)=false:=beq_eq_false_iff_ne.2 (by omega)
 rw[if_neg c0,if_neg c1,if_neg c2,if_neg c3,if_neg c4,if_neg c5,if_neg c10]
 simp(disch:=omega)only[c95,↓R95,z0,z1,z2,z3,z4,z5,z10,↓l9,m9,zA,zB,zC,zD,zE,zF,zG,zH,zI,reduceCtorEq,zJ,zK,zL,zM]
def W8(l:List Int)(rules:Int):Nat->Nat->Int
 |0,_=>0
 |d+1,i=>if 4<=i/\4+l.getD 3 0<=i then 0 else if E7 (l.getD 3 0) i (l.getD i 0) rules=0 then W8 l rules d (i+1)else E7 (l.getD 3 0) i (l.getD i 0) rules
theorem c9l(h:Heap)(v:Value)(l:List Int)(s:Bys h v l)(hl:l.length<=1000)(byt:E4 l)(rules:Int)(Q:Value->Heap->Prop):
  u9 cp 84 [v,.int .i64 rules] h Q↔Q (.int .i64 (W8 l rules l.length 0)) h:=by
 refine v9 ?_ Q
 rw[a8 cp f1h]
 obtain⟨a,cap,e,hcap⟩:=s.val
 subst e
 simp(disch:=omega)only[c84,↓R84,↓l9,m9,zA,zB,zC,zD,zE,zF,zG,zH,zI,reduceCtorEq,zJ,zK,zL,zM]
 refine A6 cp a1f _ (fun d e hh=>∃i:Nat,i+d=l.length/\hh=h/\W8 l rules d i=W8 l rules l.length 0/\e 0=.slice a l.length cap/\e 1=.int .i64 rules/\e 8=.slice a l.length cap/\e 9=.int .i64 l.length/\e 10=.int .i64 i) ?_ l.length _ _
  ⟨0,by omega,rfl,rfl,rfl,rfl,rfl,rfl,rfl⟩
 rintro d e hh ⟨i,hi,rfl,hp,e0,e1,e8,e9,e10⟩
 by_cases ci:i<l.length
 ·have b1:decide ((i:Int)<(l.length:Int))=true:=dTz (by omega)
  have nx:(i:Int)+1=((i+1:Nat):Int):=by omega
  obtain⟨d,rfl⟩:∃d',d=d' +1:=⟨d-1,by omega⟩
  have hx:l[i]? =some l[i]:=uzF ci
  have hd:l.getD i 0=l[i]:=by rw[vcz,hx];rfl
  obtain⟨c,hc⟩:∃c,c=l[i]:=⟨_,rfl⟩
  rw[<-hc]at hx hd
  have cr:=byt c (uzK hx)
  have f:=fun Q=>d9g hh _ l s i ci hl byt c rules cr Q
  simp only[W8,hd]at hp
  obtain⟨b,o,cap',hv,_,_,_,hr⟩:=s.at (by omega)
  simp only[Value.slice.injEq]at hv
  obtain⟨rfl,_,_⟩:=hv
  have hg:=Bys.get (cap:=cap) hr hx
  by_cases c4:i<4
  ·have b4:decide ((i:Int)>=4)=false:=dFz (by omega)
   rw[if_neg (show ¬(4<=i/\4+l.getD 3 0<=(i:Int)) by omega)]at hp
   by_cases z:E7 (l.getD 3 0) i c rules=0
   ·rw[if_pos z]at hp
    have z' :(E7 (l.getD 3 0) i c rules !=0)=false:=by rw[z];rfl
    simp(disch:=omega)only[a1f,c84,↓R84,e0,e1,e8,e9,e10,b1,b4,hg,f,z',nx,uzS,↓l9,m9,zA,zB,zC,zD,zE,zF,zG,zH,zI,reduceCtorEq,zJ,zK,zL,zM]
    refine⟨d,by omega,i+1,by omega,hp,?_⟩
    repeat' first|assumption|rfl|apply And.intro
   ·rw[if_neg z]at hp
    have z' :(E7 (l.getD 3 0) i c rules !=0)=true:=bne_iff_ne.2 z
    simp(disch:=omega)only[a1f,c84,↓R84,e0,e1,e8,e9,e10,b1,b4,hg,f,z',nx,uzS,↓l9,m9,zA,zB,zC,zD,zE,zF,zG,zH,zI,reduceCtorEq,zJ,zK,zL,zM]
    rw[hp]
  ·have b4:decide ((i:Int)>=4)=true:=dTz (by omega)
   have hx3:l[3]? =some l[3]:=uzF (by omega)
   have hd3:l.getD 3 0=l[3]:=by rw[vcz,hx3];rfl
   obtain⟨x,hxd⟩:∃x,x=l[3]:=⟨_,rfl⟩
   rw[<-hxd]at hx3 hd3
   rw[hd3]at hp f
   have xr:=byt x (uzK hx3)
   have hg3:=Bys.get (cap:=cap) hr hx3
   have wx:IntKind.i64.wrap x=x:=by rw[R7];omega
   by_cases c5:4+x<=(i:Int)
   ·have b5:decide ((i:Int)>=4+x)=true:=dTz c5
    rw[if_pos ⟨by omega,c5⟩]at hp
    simp(disch:=omega)only[a1f,c84,↓R84,e0,e1,e8,e9,e10,b1,b4,b5,hg,hg3,wx,nx,uzS,↓l9,m9,zA,zB,zC,zD,zE,zF,zG,zH,zI,reduceCtorEq,zJ,zK,zL,zM]
    rw[hp]
   have b5:decide ((i:Int)>=4+x)=false:=dFz c5
   rw[if_neg (show ¬(4<=i/\4+x<=(i:Int)) by omega)]at hp
   by_cases z:E7 x i c rules=0
   ·rw[if_pos z]at hp
    have z' :(E7 x i c rules !=0)=false:=by rw[z];rfl
    simp(disch:=omega)only[a1f,c84,↓R84,e0,e1,e8,e9,e10,b1,b4,b5,hg,hg3,wx,f,z',nx,uzS,↓l9,m9,zA,zB,zC,zD,zE,zF,zG,zH,zI,reduceCtorEq,zJ,zK,zL,zM]
    refine⟨d,by omega,i+1,by omega,hp,?_⟩
    repeat' first|assumption|rfl|apply And.intro
   ·rw[if_neg z]at hp
    have z' :(E7 x i c rules !=0)=true:=bne_iff_ne.2 z
    simp(disch:=omega)only[a1f,c84,↓R84,e0,e1,e8,e9,e10,b1,b4,b5,hg,hg3,wx,f,z',nx,uzS,↓l9,m9,zA,zB,zC,zD,zE,zF,zG,zH,zI,reduceCtorEq,zJ,zK,zL,zM]
    rw[hp]
 ·have b1:decide ((i:Int)<(l.length:Int))=false:=dFz (by omega)
  obtain rfl:d=0:=by omega
  simp only[W8]at hp
  simp(disch:=omega)only[a1f,c84,↓R84,e0,e1,e8,e9,e10,b1,↓l9,m9,zA,zB,zC,zD,zE,zF,zG,zH,zI,reduceCtorEq,zJ,zK,zL,zM]
  rw[<-hp]
theorem b2q{l:List Int}{rules:Int}:∀(d i:Nat),i+d=l.length->W8 l rules d i=0->∀j,i<=j->j<l.length->(j<4\/(j:Int)<4+l.getD 3 0)->E7 (l.getD 3 0) j (l.getD j 0) rules=0
 |0,i,hd,_,j,h1,h2,_=>by omega
 |d+1,i,hd,hp,j,h1,h2,h3=>by
  simp only[W8]at hp
  split at hp
  ·rename_i c;omega
  split at hp
  ·rename_i z
   by_cases e:j=i
   ·subst e;exact z
   ·exact b2q d (i+1) (by omega) hp j (by omega) h2 h3
  ·rename_i z;exact absurd hp z
structure ReqV where
 op:Int
 rule:Int
 cost:Int
 key:List Int
 k:Int
def ReqV.val(q:ReqV):Value:=a1U q.op q.rule q.cost q.key q.k
def d9S:ReqV:=⟨0,0,0,[],0⟩
def a2g(l:List Int):ReqV:=
 if l.getD 4 0=1\/l.getD 4 0=2 then⟨l.getD 4 0,l.getD 5 0,a1S ((l.drop 6).take 4),(l.drop 11).take ((4+l.getD 3 0).toNat-11),0⟩
 else if l.getD 4 0=4 then⟨4,l.getD 5 0,0,[],l.getD 6 0⟩else⟨l.getD 4 0,l.getD 5 0,0,[],0⟩
def C9(l:List Int)(rules:Int):Option ReqV×Int:=
 if W8 l rules l.length 0≠0 then(none,W8 l rules l.length 0)
 else if l.length<4\/(l.length:Int)<4+l.getD 3 0 then(none,0)
 else(some (a2g l),0)
theorem getD_some{l:List Int}{i:Nat}(h:i<l.length):l[i]? =some (l.getD i 0):=by
 rw[vcz,uzF h];rfl
def c8S(x:Int):Prop:=x=2\/x=3\/7<=x/\x<=71
theorem b2r{l:List Int}{rules:Int}(h:W8 l rules l.length 0=0)(hl:4<=l.length):c8S (l.getD 3 0):=by
 have:=b2q l.length 0 (by omega) h 3 (by omega) (by omega) (.inl (by omega))
 unfold E7 at this
 rw[if_neg (by omega),if_neg (by omega),if_neg (by omega),if_pos rfl]at this
 split at this
 ·assumption
 ·omega
theorem b5d{l:List Int}{rules:Int}(h:W8 l rules l.length 0=0)(hl:4<l.length):a1l (l.getD 4 0) (l.getD 3 0)=true:=by
 have h3:=b2r h (by omega)
 unfold c8S at h3
 have:=b2q l.length 0 (by omega) h 4 (by omega) (by omega) (.inr (by omega))
 unfold E7 at this
 rw[if_neg (by omega),if_neg (by omega),if_neg (by omega),if_neg (by omega),if_pos rfl]at this
 split at this
 ·assumption
 ·omega
theorem a7Q{op n:Int}(h:a1l op n=true):(op=1\/op=2)/\7<=n\/op=3/\n=2\/op=4/\n=3:=by
 unfold a1l at h
 split at h
 ·rename_i c;exact .inl ⟨c,of_decide_eq_true h⟩
 split at h
 ·rename_i c;exact .inr (.inl ⟨c,by simpa using h⟩)
 split at h
 ·rename_i c;exact .inr (.inr ⟨c,by simpa using h⟩)
 ·exact absurd h (by simp)
theorem d9E(h:Heap)(v:Value)(l:List Int)(s:Bys h v l)(hl:l.length<=1000)(byt:E4 l)(rules:Int)
  (hQ:∀h' n,Old h h' ->(0<n↔(C9 l rules).1.isSome=true)->0<=n->Q (.tuple #[((C9 l rules).1.getD d9S).val,.int .i64 n,.int .i64 (C9 l rules).2]) h'):
  u9 cp 71 [v,.int .i64 rules] h Q:=by
 rw[a8 cp f0V]
 obtain⟨a,cap,ev,hcap⟩:=s.val
 obtain⟨h1,h1d,o1,n1,g1⟩:=K2 h (.cells [.int .i64 0,.int .i64 0,.int .u32 0,.string ⟨#[]⟩,.int .i64 0] 61 .fix)
 have s1:=s.old o1
 have f:=fun Q=>c9l h1 v l s1 hl byt rules Q
 unfold C9 at hQ
 by_cases p:W8 l rules l.length 0≠0
 ·rw[if_pos p]at hQ
  have p' :(W8 l rules l.length 0 !=0)=true:=bne_iff_ne.2 p
  simp(disch:=omega)only[c71,↓R71,<-h1d,f,p',g1,y6,↓l9,m9,zA,zB,zC,zD,zE,zF,zG,zH,zI,reduceCtorEq,zJ,zK,zL,zM]
  exact hQ _ 0 ⟨by rw[r9];omega,fun z hz=>by rw[a6 _ _ (by omega),o1.obj z hz]⟩ (by simp) (by omega)
 rw[if_neg p]at hQ
 have p0:W8 l rules l.length 0=0:=by omega
 have p' :(W8 l rules l.length 0 !=0)=false:=by rw[p0];rfl
 by_cases c1:l.length<4
 ·rw[if_pos (.inl c1)]at hQ
  have b1:decide ((l.length:Int)<4)=true:=dTz (by omega)
  subst ev
  simp(disch:=omega)only[c71,↓R71,<-h1d,f,p',b1,g1,y6,↓l9,m9,zA,zB,zC,zD,zE,zF,zG,zH,zI,reduceCtorEq,zJ,zK,zL,zM]
  exact hQ _ 0 ⟨by rw[r9];omega,fun z hz=>by rw[a6 _ _ (by omega),o1.obj z hz]⟩ (by simp) (by omega)
 have b1:decide ((l.length:Int)<4)=false:=dFz (by omega)
 obtain⟨b,o,cap',hv,hc',hb,he,hr⟩:=s.at (by omega)
 subst hv
 rw[<-o1.obj b hb]at he hr
 have i3:=getD_some (l:=l) (i:=3) (by omega)
 have l3:=b2r p0 (by omega)
 obtain⟨x,hx⟩:∃x:Nat,l.getD 3 0=x:=⟨(l.getD 3 0).toNat,by unfold c8S at l3;omega⟩
 rw[hx]at hQ l3 i3
 unfold c8S at l3
 have wx:IntKind.i64.wrap (x:Int)=x:=by rw[R7];omega
 have hg3:=Bys.get (cap:=cap') hr i3
 have hbn:b≠h.next:=by omega
 by_cases c2:(l.length:Int)<4+(x:Int)
 ·rw[if_pos (.inr c2)]at hQ
  have b2:decide ((l.length:Int)<4+(x:Int))=true:=dTz (by omega)
  simp(disch:=omega)only[c71,↓R71,<-h1d,f,p',b1,b2,hg3,wx,g1,y6,uzS,↓l9,m9,zA,zB,zC,zD,zE,zF,zG,zH,zI,reduceCtorEq,zJ,zK,zL,zM]
  exact hQ _ 0 ⟨by rw[r9];omega,fun z hz=>by rw[a6 _ _ (by omega),o1.obj z hz]⟩ (by simp) (by omega)
 rw[if_neg (by omega)]at hQ
 have b2:decide ((l.length:Int)<4+(x:Int))=false:=dFz (by omega)
 have i4:=getD_some (l:=l) (i:=4) (by omega)
 have i5:=getD_some (l:=l) (i:=5) (by omega)
 have ft:=a7Q (b5d p0 (by omega))
 rw[hx]at ft
 unfold a2g at hQ
 rw[hx]at hQ
 obtain⟨op,hop⟩:∃op,op=l.getD 4 0:=⟨_,rfl⟩
 obtain⟨ru,hru⟩:∃ru,ru=l.getD 5 0:=⟨_,rfl⟩
 rw[<-hop]at i4 ft hQ
 rw[<-hru]at i5 hQ
 have hg4:=Bys.get (cap:=cap') hr i4
 have hg5:=Bys.get (cap:=cap') hr i5
 have r4:=byt _ (uzK i4)
 have r5:=byt _ (uzK i5)
 have w4:IntKind.i64.wrap op=op:=by rw[R7];omega
 have w5:IntKind.i64.wrap ru=ru:=by rw[R7];omega
 have fin:∀(H:Heap),H.next=h1.next+1->(∀z,z<h1.next->H.obj z=h1.obj z)->∀c t,Old h ((H.upd h.next c).upd t c)->True:=fun _ _ _ _ _ _=>trivial
 rcases ft with⟨c3,c4⟩| ⟨rfl,c4⟩| ⟨rfl,c4⟩
 ·rw[if_pos c3]at hQ
  have q:(op==1)=true\/(op==1)=false/\(op==2)=true:=by
   clear hop
   rcases c3 with rfl|rfl<;>decide
  obtain⟨H2,H2d,o2,n2,g2⟩:=T9 h1 (.cells [.int .i64 0,.int .i64 0,.int .u32 0,.string ⟨#[]⟩,.int .i64 0] 61 .fix) (.cells [.int .i64 op,.int .i64 ru,.int .u32 0,.string ⟨#[]⟩,.int .i64 0] 61 .fix)
  obtain⟨H3,H3d⟩:∃H3,H3=H2.upd h1.next (.cells [.int .i64 op,.int .i64 ru,.int .u32 (a1S ((l.drop 6).take 4)),.string ⟨#[]⟩,.int .i64 0] 61 .fix):=⟨_,rfl⟩
  have n3:H3.next=h1.next+1:=by rw[H3d];exact n2
  have o3:Old h1 H3:=by rw[H3d];exact⟨by rw[r9];exact o2.next,fun z hz=>by rw[a6 _ _ (by omega)];exact o2.obj z hz⟩
  have g3:H3.obj h1.next=.cells [.int .i64 op,.int .i64 ru,.int .u32 (a1S ((l.drop 6).take 4)),.string ⟨#[]⟩,.int .i64 0] 61 .fix:=by rw[H3d];exact a9 _ _ _
  have g3' :H3.obj h.next=.cells [.int .i64 0,.int .i64 0,.int .u32 0,.string ⟨#[]⟩,.int .i64 0] 61 .fix:=by rw[o3.obj _ (by omega)];exact g1
  have he2:(H2.obj b).elemOk 5=true:=by rw[o2.obj b (by omega)];exact he
  have he3:(H3.obj b).elemOk 5=true:=by rw[o3.obj b (by omega)];exact he
  have S6:Bys H2 (.slice (some ⟨b,o+6,none⟩) 4 (cap' -6)) ((l.drop 6).take 4):=(Bys.sub (by omega) he hr hc' 6 10 (by decide) (by omega)).old o2
  have S11:=Bys.sub (h:=h1) (by omega) he hr hc' 11 (4+x) (by omega) (by omega)
  have ts2:=a1P (S11.old o2)
  have ts3:=a1P (S11.old o3)
  obtain⟨ky,hky⟩:∃ky,ky=(l.drop 11).take (4+x-11):=⟨_,rfl⟩
  rw[<-hky]at ts2 ts3
  have hk2:W5 none (Option.getD (some H2) H2) (.toStr (.slice (some ⟨b,o+11,none⟩) (4+x-11) (cap' -11))) (.string (bs ky))=True:=eq_true ts2
  have hk3:W5 none (Option.getD none H3) (.toStr (.slice (some ⟨b,o+11,none⟩) (4+x-11) (cap' -11))) (.string (bs ky))=True:=eq_true ts3
  have k4:(4:Int)+(x:Int)=((4+x:Nat):Int):=by omega
  have k4' :((4:Int)+(x:Int)).toNat=4+x:=by omega
  rw[k4',<-hky]at hQ
  have dl:((l.drop 6).take 4).length=4:=by rw[vqz,List.length_drop];omega
  have db:E4 ((l.drop 6).take 4):=fun y hy=>byt y (List.mem_of_mem_drop (List.mem_of_mem_take hy))
  have dr:=a2r 4 _ dl db
  have p4:(256:Int) ^ 4=4294967296:=by decide
  rw[p4]at dr
  obtain⟨co,hco⟩:∃co,co=a1S ((l.drop 6).take 4):=⟨_,rfl⟩
  have wc:IntKind.u32.wrap co=co:=by rw[f2U];omega
  rw[<-hco]at dr g3 H3d hQ
  rcases q with q1| ⟨q1,q2⟩
  ·simp(disch:=omega)only[c71,↓R71,<-h1d,f,p',b1,b2,hg3,hg4,hg5,wx,w4,w5,he,q1,g2,he2,y6,uzS,zN,<-H2d,↓l9,m9,zA,zB,zC,zD,zE,zF,zG,zH,zI,reduceCtorEq,zJ,zK,zL,zM]
   refine d9C H2 _ _ S6 (by omega) db ?_
   simp(disch:=omega)only[c71,↓R71,<-hco,wc,k4,he2,he3,↓ts2,↓hk2,↓hk3,g2,<-H3d,g3,g3',y6,uzS,↓l9,m9,zA,zB,zC,zD,zE,zF,zG,zH,zI,reduceCtorEq,zJ,zK,zL,zM]
   exact hQ _ ((4+x:Nat):Int) ⟨by simp only[r9];omega,fun z hz=>by rw[a6 _ _ (by omega),a6 _ _ (by omega),o3.obj z (by omega),o1.obj z hz]⟩ (by simp;omega) (by omega)
  ·simp(disch:=omega)only[c71,↓R71,<-h1d,f,p',b1,b2,hg3,hg4,hg5,wx,w4,w5,he,q1,q2,g2,he2,y6,uzS,zN,<-H2d,↓l9,m9,zA,zB,zC,zD,zE,zF,zG,zH,zI,reduceCtorEq,zJ,zK,zL,zM]
   refine d9C H2 _ _ S6 (by omega) db ?_
   simp(disch:=omega)only[c71,↓R71,<-hco,wc,k4,he2,he3,↓ts2,↓hk2,↓hk3,g2,<-H3d,g3,g3',y6,uzS,↓l9,m9,zA,zB,zC,zD,zE,zF,zG,zH,zI,reduceCtorEq,zJ,zK,zL,zM]
   exact hQ _ ((4+x:Nat):Int) ⟨by simp only[r9];omega,fun z hz=>by rw[a6 _ _ (by omega),a6 _ _ (by omega),o3.obj z (by omega),o1.obj z hz]⟩ (by simp;omega) (by omega)
 ·rw[if_neg (by decide),if_neg (by decide)]at hQ
  simp(disch:=omega)only[c71,↓R71,<-h1d,f,p',b1,b2,hg3,hg4,hg5,wx,w4,w5,g1,y6,uzS,zN,↓l9,m9,zA,zB,zC,zD,zE,zF,zG,zH,zI,reduceCtorEq,zJ,zK,zL,zM]
  exact hQ _ (4+(x:Int)) ⟨by simp only[r9,j0];omega,fun z hz=>by rw[a6 _ _ (by omega),a6 _ _ (by omega),f4 _ _ (by omega),o1.obj z hz]⟩ (by simp;omega) (by omega)
 ·have i6:=getD_some (l:=l) (i:=6) (by omega)
  have hg6:=Bys.get (cap:=cap') hr i6
  have r6:=byt _ (uzK i6)
  have w6:IntKind.i64.wrap (l.getD 6 0)=l.getD 6 0:=by rw[R7];omega
  rw[if_neg (by decide),if_pos rfl]at hQ
  simp(disch:=omega)only[c71,↓R71,<-h1d,f,p',b1,b2,hg3,hg4,hg5,hg6,wx,w4,w5,w6,g1,y6,uzS,zN,↓l9,m9,zA,zB,zC,zD,zE,zF,zG,zH,zI,reduceCtorEq,zJ,zK,zL,zM]
  exact hQ _ (4+(x:Int)) ⟨by simp only[r9,j0];omega,fun z hz=>by rw[a6 _ _ (by omega),a6 _ _ (by omega),a6 _ _ (by omega),f4 _ _ (by omega),o1.obj z hz]⟩ (by simp;omega) (by omega)
structure OldF(F:Nat->Prop)(h h' :Heap):Prop where
 next:h.next<=h'.next
 obj:∀b,b<h.next->¬F b->h'.obj b=h.obj b
theorem OldF.refl(F:Nat->Prop)(h:Heap):OldF F h h:=⟨uzP _,fun _ _ _=>rfl⟩
theorem OldF.trans{F:Nat->Prop}{a b c:Heap}(h:OldF F a b)(k:OldF F b c):OldF F a c:=⟨uzR h.next k.next,fun x hx hn=>by rw[k.obj x (uzN hx h.next) hn,h.obj x hx hn]⟩
theorem Old.f{a b:Heap}(o:Old a b)(F:Nat->Prop):OldF F a b:=⟨o.next,fun x hx _=>o.obj x hx⟩
theorem OldF.mono{F G:Nat->Prop}{a b:Heap}(o:OldF F a b)(h:∀x,F x->G x):OldF G a b:=⟨o.next,fun x hx hn=>o.obj x hx fun q=>hn (h x q)⟩
theorem OldF.old{F:Nat->Prop}{a b:Heap}(o:OldF F a b)(h:∀x,F x->a.next<=x):Old a b:=⟨o.next,fun x hx=>o.obj x hx fun q=>by have:=h x q;omega⟩
theorem OldX.upd(X:Nat)(h:Heap)(o:Obj):OldX X h (h.upd X o):=⟨uzP _,fun b _ hb=>a6 _ _ hb⟩
theorem OldX.f{X:Nat}{a b:Heap}(o:OldX X a b){F:Nat->Prop}(hX:F X):OldF F a b:=⟨o.next,fun x hx hn=>o.obj x hx fun e=>hn (e▸hX)⟩
theorem OldF.upd{F:Nat->Prop}(h:Heap)(X:Nat)(o:Obj)(hX:F X):OldF F h (h.upd X o):=⟨uzP _,fun b _ hb=>a6 _ _ (fun e=>hb (e▸hX))⟩
abbrev e0W(nb S a n:Nat):List Value:=[.slice (some ⟨nb,0,none⟩) S S,.int .i64 a,.int .i64 n]
structure BufAt(h:Heap)(p nb S a:Nat)(B qs:List Int):Prop where
 op:h.obj p=.cells (e0W nb S a qs.length) 188 .fix
 lp:p<h.next
 on:h.obj nb=.cells (ints .u8 B) 5 .grow
 ln:nb<h.next
 pn:p≠nb
 len:B.length=S
 hS:1<=S/\S<=65536
 ha:a<S
 hn:qs.length<=S
 byt:E4 B
 at_:∀i,i<qs.length->B[(a+i) % S]? =qs[i]?
section
variable {h h' :Heap} {p nb S a:Nat} {B qs:List Int}
theorem BufAt.keep(b:BufAt h p nb S a B qs)(hn:h.next<=h'.next)(h1:h'.obj p=h.obj p)(h2:h'.obj nb=h.obj nb):BufAt h' p nb S a B qs:=
 { b with op:=h1.trans b.op,lp:=uzN b.lp hn,on:=h2.trans b.on,ln:=uzN b.ln hn }
theorem BufAt.oldF{F:Nat->Prop}(b:BufAt h p nb S a B qs)(o:OldF F h h')(h1:¬F p)(h2:¬F nb):BufAt h' p nb S a B qs:=
 b.keep o.next (o.obj p b.lp h1) (o.obj nb b.ln h2)
theorem room_ok(b:BufAt h p nb S a B qs)(Q:Value->Heap->Prop):u9 cp 63 [.pointer (some ⟨p,0,none⟩)] h Q↔Q (.int .i64 ((S-qs.length:Nat):Int)) h:=by
 refine v9 ?_ Q
 rw[a8 cp f0Q]
 have op:=b.op
 have hn:=b.hn
 have hS:=b.hS
 have k:(S:Int)-(qs.length:Int)=((S-qs.length:Nat):Int):=by omega
 simp(disch:=omega)only[c63,↓R63,op,E5,k,↓l9,m9,zA,zB,zC,zD,zE,zF,zG,zH,zI,reduceCtorEq,zJ,zK,zL,zM]
theorem e0U(b:BufAt h p nb S a B qs)(Q:Value->Heap->Prop):u9 cp 83 [.pointer (some ⟨p,0,none⟩)] h Q↔Q (.int .i64 (qs.length:Nat)) h:=by
 refine v9 ?_ Q
 rw[a8 cp f1g]
 have op:=b.op
 simp(disch:=omega)only[c83,↓R83,op,E5,↓l9,m9,zA,zB,zC,zD,zE,zF,zG,zH,zI,reduceCtorEq,zJ,zK,zL,zM]
theorem c8w(b:BufAt h p nb S a B qs)(hQ:∀h',OldX p h h' ->BufAt h' p nb S 0 B []->Q (.tuple #[]) h'):u9 cp 61 [.pointer (some ⟨p,0,none⟩)] h Q:=by
 rw[a8 cp f0O]
 have op:=b.op
 have hS:=b.hS
 simp(disch:=omega)only[c61,↓R61,op,E5,↓l9,m9,zA,zB,zC,zD,zE,zF,zG,zH,zI,reduceCtorEq,zJ,zK,zL,zM]
 refine hQ _ ((OldX.upd _ _ _).trans (OldX.upd _ _ _)) { b with op:= ?_,on:= ?_,ha:=by omega,hn:=by simp,at_:=by simp,lp:=b.lp,ln:=b.ln }
 ·rw[a9];rfl
 ·rw[a6 _ _ (Ne.symm b.pn),a6 _ _ (Ne.symm b.pn)];exact b.on
theorem c7X(S:Nat)(hS:1<=S/\S<=65536)(hQ:∀h' p nb,Old h h' ->h.next<=p->h.next<=nb->BufAt h' p nb S 0 (vaz S 0) []->Q (.pointer (some ⟨p,0,none⟩)) h'):u9 cp 77 [.int .i64 S] h Q:=by
 rw[a8 cp f1a]
 have a1:decide ((S:Int)<1)=false:=dFz (by omega)
 have a2:decide ((S:Int)>65536)=false:=dFz (by omega)
 have z0:¬(S:Int)<0:=by omega
 simp(disch:=omega)only[c77,↓R77,a1,a2,M5,↓l9,m9,zA,zB,zC,zD,zE,zF,zG,zH,zI,reduceCtorEq,zJ,zK,zL,zM]
 refine hQ _ (h.next+1) h.next (((Old.refl h).more _).more _) (vLz _) (uzP _) ⟨?_,?_,?_,?_,by omega,by simp,hS,by omega,by simp,fun x hx=>by rw[(List.mem_replicate.1 hx).2];omega,by simp⟩
 ·exact N4 _ _ _
 ·exact vpz _
 ·rw[f4 _ _ (by simp only[j0];omega)];exact f9 _ _
 ·simp only[j0];omega
def d0v(p nb:Nat):Nat->Prop:=fun x=>x=p\/x=nb
theorem c9c{S a n:Nat}(hS:1<=S)(ha:a<S){i j:Nat}(hi:i<S)(hj:j<S)(h:(a+i) % S=(a+j) % S):i=j:=by
 have e:∀k,k<S->(a+k) % S=if a+k<S then a+k else a+k-S:=fun k hk=>by
  split
  ·exact Nat.mod_eq_of_lt (by assumption)
  ·rw[Nat.mod_eq_sub_mod (by omega),Nat.mod_eq_of_lt (by omega)]
 rw[e i hi,e j hj]at h
 split at h<;>split at h<;>omega
theorem BufAt.push(b:BufAt h p nb S a B qs)(hl:qs.length<S){x:Int}(hx:0<=x/\x<256):
  BufAt ((h.upd nb (.cells (ints .u8 (B.set ((a+qs.length) % S) x)) 5 .grow)).upd p (.cells (e0W nb S a (qs.length+1)) 188 .fix)) p nb S a (B.set ((a+qs.length) % S) x) (qs++[x]) where
 op:=by rw[a9,uzG,vdz]
 lp:=b.lp
 on:=by rw[a6 _ _ (Ne.symm b.pn),a9]
 ln:=b.ln
 pn:=b.pn
 len:=by rw[viz];exact b.len
 hS:=b.hS
 ha:=b.ha
 hn:=by rw[uzG,vdz];exact hl
 byt:=fun y hy=>by
  rcases vIz hy with hy|rfl
  ·exact b.byt y hy
  ·exact hx
 at_:=fun i hi=>by
  rw[uzG,vdz]at hi
  have hS:=b.hS
  have ha:=b.ha
  have hm:(a+qs.length) % S<B.length:=by rw[b.len];exact Nat.mod_lt _ (by omega)
  by_cases e:i=qs.length
  ·subst e
   rw[uzH hm,vfz (uzP _),vKz];rfl
  ·rw[uzI (fun q=>e (c9c (n:=0) hS.1 ha (by omega) hl q.symm)),vuz (by omega)]
   exact b.at_ i (by omega)
theorem b7D(b:BufAt h p nb S a B qs)(v:Value)(l:List Int)(s:Bys h v l)(byt:E4 l)(hf:qs.length+l.length<=S)(hv:∀z o cap,v=.slice (some ⟨z,o,none⟩) l.length cap->¬d0v p nb z){Q:Value->Heap->Prop}
  (hQ:∀h' B',OldF (d0v p nb) h h' ->h'.next=h.next->BufAt h' p nb S a B' (qs++l)->Q (.bool true) h'):u9 cp 64 [.pointer (some ⟨p,0,none⟩),v] h Q:=by
 rw[a8 cp f0R]
 obtain⟨w,cap,rfl,hcap⟩:=s.val
 have hS:=b.hS
 have ha:=b.ha
 have f:=fun Q=>room_ok b Q
 have a1:decide ((l.length:Int)>((S-qs.length:Nat):Int))=false:=dFz (by omega)
 simp(disch:=omega)only[c64,↓R64,f,a1,↓l9,m9,zA,zB,zC,zD,zE,zF,zG,zH,zI,reduceCtorEq,zJ,zK,zL,zM]
 refine A6 cp b1Q _ (fun d e hh=>∃(i:Nat) (B' :List Int),i+d=l.length/\OldF (d0v p nb) h hh/\hh.next=h.next/\BufAt hh p nb S a B' (qs++l.take i)/\
   e 0=.pointer (some ⟨p,0,none⟩)/\e 12=.slice w l.length cap/\e 13=.int .i64 l.length/\e 14=.int .i64 i) ?_ l.length _ _
  ⟨0,B,by omega,OldF.refl _ _,rfl,by simpa using b,rfl,rfl,rfl,rfl⟩
 rintro d e hh ⟨i,B',hi,o,hnx,b',e0,e12,e13,e14⟩
 by_cases ci:i<l.length
 ·have b1:decide ((i:Int)<(l.length:Int))=true:=dTz (by omega)
  have nx:(i:Int)+1=((i+1:Nat):Int):=by omega
  have hx:l[i]? =some l[i]:=uzF ci
  obtain⟨c,hc⟩:∃c,c=l[i]:=⟨_,rfl⟩
  rw[<-hc]at hx
  have cr:=byt c (uzK hx)
  obtain⟨z,of,cap',hv',hcc,hz,_,hr⟩:=s.at (by omega)
  have hnz:=hv z of cap' hv'
  simp only[Value.slice.injEq]at hv'
  obtain⟨rfl,_,rfl⟩:=hv'
  rw[<-o.obj z hz hnz]at hr
  have hg:=Bys.get (cap:=cap) hr hx
  have il:(l.take i).length=i:=by rw[vqz];omega
  have ql:(qs++l.take i).length=qs.length+i:=by rw[uzG,il]
  have op:=b'.op
  have on:=b'.on
  have pn:=b'.pn
  have bl:=b'.len
  rw[ql]at op
  have n0:((S:Int)=0)=False:=by simp;omega
  have k1:(a:Int)+((qs.length+i:Nat):Int)=((a+(qs.length+i):Nat):Int):=by omega
  have t1:Int.tmod ((a+(qs.length+i):Nat):Int) (S:Int)=(((a+(qs.length+i)) % S:Nat):Int):=by rw[J8 _ _ (by omega)];rfl
  have t2:(a+(qs.length+i)) % S<S:=Nat.mod_lt _ (by omega)
  have k2:((qs.length+i:Nat):Int)+1=((qs.length+i+1:Nat):Int):=by omega
  have np:b'.pn=b'.pn:=rfl
  have push:=b'.push (x:=c) (by rw[ql];omega) cr
  rw[ql,vvz,<-I7 hx]at push
  simp(disch:=omega)only[b1Q,c64,↓R64,e0,e12,e13,e14,b1,hg,op,on,n0,k1,t1,k2,nx,D8,H7,bl,pn,Ne.symm pn,uzS,↓l9,m9,zA,zB,zC,zD,zE,zF,zG,zH,zI,reduceCtorEq,zJ,zK,zL,zM]
  refine⟨d-1,by omega,i+1,_,by omega,o.trans ((OldF.upd _ _ _ (.inr rfl)).trans (OldF.upd _ _ _ (.inl rfl))),hnx,push,?_⟩
  repeat' first|assumption|rfl|apply And.intro
 ·have b1:decide ((i:Int)<(l.length:Int))=false:=dFz (by omega)
  obtain rfl:i=l.length:=by omega
  rw[List.take_length]at b'
  simp(disch:=omega)only[b1Q,c64,↓R64,e0,e12,e13,e14,b1,↓l9,m9,zA,zB,zC,zD,zE,zF,zG,zH,zI,reduceCtorEq,zJ,zK,zL,zM]
  exact hQ _ _ o hnx b'
theorem BufAt.pop(b:BufAt h p nb S a B qs)(hl:0<qs.length):
  BufAt ((h.upd p (.cells (e0W nb S ((a+1) % S) qs.length) 188 .fix)).upd p (.cells (e0W nb S ((a+1) % S) (qs.length-1)) 188 .fix)) p nb S ((a+1) % S) B qs.tail where
 op:=by rw[a9,List.length_tail]
 lp:=b.lp
 on:=by rw[a6 _ _ (Ne.symm b.pn),a6 _ _ (Ne.symm b.pn)];exact b.on
 ln:=b.ln
 pn:=b.pn
 len:=b.len
 hS:=b.hS
 ha:=Nat.mod_lt _ (by have:=b.hS;omega)
 hn:=by rw[List.length_tail];have:=b.hn;omega
 byt:=b.byt
 at_:=fun i hi=>by
  rw[List.length_tail]at hi
  have:=b.at_ (i+1) (by omega)
  rw[List.getElem?_tail,<-this,Nat.mod_add_mod,show a+1+i=a+(i+1) by omega]
theorem e2m(b:BufAt h p nb S a B qs)(n:Int)
  (hQ:∀h' v' b' a',OldX p h h' ->h.next<=b' ->E3 h' 5 B8 v' (qs.take n.toNat) b' ->BufAt h' p nb S a' B (qs.drop n.toNat)->Q v' h'):u9 cp 66 [.pointer (some ⟨p,0,none⟩),.int .i64 n] h Q:=by
 rw[a8 cp f0T]
 have hS:=b.hS
 have ha:=b.ha
 have hqn:=b.hn
 have f:=fun Q=>e0U b Q
 obtain⟨k,hk⟩:∃k:Nat,min (max n 0) (qs.length:Int)=k:=⟨(min (max n 0) (qs.length:Int)).toNat,by omega⟩
 have hkn:k=min n.toNat qs.length:=by omega
 have ht:qs.take n.toNat=qs.take k:=by rw[hkn,<-List.take_take,List.take_length]
 have hd:qs.drop n.toNat=qs.drop k:=by
  rw[hkn]
  by_cases c:n.toNat<=qs.length
  ·rw[Nat.min_eq_left c]
  ·rw[Nat.min_eq_right (by omega),List.drop_eq_nil_of_le (by omega),List.drop_eq_nil_of_le (by omega)]
 rw[ht,hd]at hQ
 simp(disch:=omega)only[c66,↓R66,f,↓mm_max,↓mm_min,hk,↓l9,m9,zA,zB,zC,zD,zE,zF,zG,zH,zI,reduceCtorEq,zJ,zK,zL,zM]
 refine A6 cp b1R _ (fun d e hh=>∃(i a' bb:Nat) (vv:Value),i+d=k/\OldX p h hh/\h.next<=bb/\E3 hh 5 B8 vv (qs.take i) bb/\BufAt hh p nb S a' B (qs.drop i)/\
   e 0=.pointer (some ⟨p,0,none⟩)/\e 5=vv/\e 10=.int .i64 k/\e 11=.int .i64 i) ?_ k _ _
  ⟨0,a,h.next,_,by omega,OldX.refl _ _,uzP _,E3.nil _ _ _ _,by simpa using b,rfl,rfl,rfl,rfl⟩
 rintro d e hh ⟨i,a',bb,vv,hi,o,hbb,V,b',e0,e5,e10,e11⟩
 by_cases ci:i<k
 ·have b1:decide ((i:Int)<(k:Int))=true:=dTz (by omega)
  have nx:(i:Int)+1=((i+1:Nat):Int):=by omega
  have hx:qs[i]? =some qs[i]:=uzF (by omega)
  obtain⟨c,hc⟩:∃c,c=qs[i]:=⟨_,rfl⟩
  rw[<-hc]at hx
  have ha' :=b'.ha
  have hg:B[a']? =some c:=by
   have:=b'.at_ 0 (by rw[List.length_drop];omega)
   rw[Nat.add_zero,Nat.mod_eq_of_lt ha',vEz,Nat.add_zero,hx]at this
   exact this
  have hg:=C5 .u8 _ hg
  have op:=b'.op
  have on:=b'.on
  have lp:=b'.lp
  have ln:=b'.ln
  have pn:=b'.pn
  have bl:=b'.len
  rw[List.length_drop]at op
  have il:(qs.take i).length=i:=by rw[vqz];omega
  simp(disch:=omega)only[b1R,c66,↓R66,e0,e5,e10,e11,b1,op,on,hg,bl,G0,vtz,uzS,↓l9,m9,zA,zB,zC,zD,zE,zF,zG,zH,zI,reduceCtorEq,zJ,zK,zL,zM]
  refine(V.new8 _).app (m:=[c]) (bytes:=1) rfl (O9 B8 hh c 5 1) (by rw[vdz,il];omega) (by rw[vdz,il];omega) fun v' h' bn V3 hn' hb' ho' =>?_
  have hn'' :hh.next+1<=h'.next:=hn'
  have hbe:bb=bn\/hh.next+1<=bn:=by
   rcases hb' with rfl|hb'
   ·exact .inl rfl
   ·exact .inr hb'
  have onx:=o.next
  have hpb:p≠bb:=by have:=b.lp;omega
  have hnb:nb≠bb:=by have:=b.ln;omega
  have o3:∀z,z<hh.next->z≠bb->h'.obj z=hh.obj z:=fun z hz hne=>by rw[ho' z (by show z<hh.next+1;omega) (.inr hne),f4 _ _ (by omega)]
  have b3:BufAt h' p nb S a' B (qs.drop i):=b'.keep (by omega) (o3 p lp hpb) (o3 nb ln hnb)
  have op3:=b3.op
  have on3:=b3.on
  rw[List.length_drop]at op3
  have n0:((S:Int)=0)=False:=by simp;omega
  have k1:(a' :Int)+1=((a' +1:Nat):Int):=by omega
  have t1:Int.tmod ((a' +1:Nat):Int) (S:Int)=(((a' +1) % S:Nat):Int):=by rw[J8 _ _ (by omega)];rfl
  have k2:((qs.length-i:Nat):Int)-1=((qs.length-i-1:Nat):Int):=by omega
  have pop:=b3.pop (by rw[List.length_drop];omega)
  rw[List.length_drop,List.tail_drop]at pop
  simp(disch:=omega)only[c66,↓R66,e0,e5,e10,e11,op3,n0,k1,t1,k2,nx,↓l9,m9,zA,zB,zC,zD,zE,zF,zG,zH,zI,reduceCtorEq,zJ,zK,zL,zM]
  refine⟨d-1,by omega,i+1,_,bn,v',by omega,?_,by omega,?_,pop,?_⟩
  ·refine⟨by simp only[r9];have:=o.next;omega,fun z hz hne=>?_⟩
   have:=o.next
   rw[a6 _ _ hne,a6 _ _ hne,o3 z (by omega) (by omega),o.obj z hz hne]
  ·rw[I7 hx]
   exact V3.keep (by simp only[r9];omega) fun hl=>by
    have hpn:bn≠p:=by
     have:=b.lp
     have:=o.next
     omega
    rw[a6 _ _ hpn,a6 _ _ hpn]
  ·repeat' first|assumption|rfl|apply And.intro
 ·have b1:decide ((i:Int)<(k:Int))=false:=dFz (by omega)
  obtain rfl:i=k:=by omega
  simp(disch:=omega)only[b1R,c66,↓R66,e0,e5,e10,e11,b1,↓l9,m9,zA,zB,zC,zD,zE,zF,zG,zH,zI,reduceCtorEq,zJ,zK,zL,zM]
  exact hQ _ _ _ _ o hbb V b'
end
abbrev e4A(r:M7):Value:=.agg #[.int .u64 r.1,.int .u64 r.2.1,.int .u64 r.2.2]
structure IdxAt(h:Heap)(x tb st:Nat)(row:M7)(n:Nat)(tab:List Int):Prop where
 ox:h.obj x=.cells [.pointer (some ⟨st,0,none⟩),.int .u64 row.1,.int .u64 row.2.1,.int .u64 row.2.2,.slice (some ⟨tb,0,none⟩) (2*n+1) (2*n+1)] 209 .fix
 lx:x<h.next
 ot:h.obj tb=.cells (ints .i32 tab) 21 .grow
 lt:tb<h.next
 len:tab.length=2*n+1
 ne:x≠tb
structure StAt(h:Heap)(p:Nat)(A:List Nat)(n:Nat)(keys:Nat->Option ByteArray)(fl:List Nat):Prop where
 S:Keys.Store h p A n keys fl
 lt:∀z∈A,z<h.next
theorem StAt.keep{h h' :Heap}{p:Nat}{A:List Nat}{n:Nat}{keys:Nat->Option ByteArray}{fl:List Nat}(s:StAt h p A n keys fl)(hn:h.next<=h'.next)(ho:∀z∈A,h'.obj z=h.obj z):StAt h' p A n keys fl:=by
 refine⟨?_,fun z hz=>uzN (s.lt z hz) hn⟩
 obtain⟨k,h1,h2,h3,a,g⟩:=s.S
 refine⟨k,h1,h2,h3,?_,g⟩
 have m:∀z,z=k.p\/z=k.bb\/z=k.bs\/z=k.bn->h'.obj z=h.obj z:=fun z hz=>ho z (by rw[<-h2];unfold Keys.KS.own;simp only[vxz,List.not_mem_nil,or_false];exact hz)
 exact { a with hp:=(m _ (.inl rfl)).trans a.hp,hb:=(m _ (.inr (.inl rfl))).trans a.hb,hs:=(m _ (.inr (.inr (.inl rfl)))).trans a.hs,hn:=(m _ (.inr (.inr (.inr rfl)))).trans a.hn }
theorem StAt.old{h h' :Heap}{p:Nat}{A:List Nat}{n:Nat}{keys:Nat->Option ByteArray}{fl:List Nat}(s:StAt h p A n keys fl)(o:Old h h'):StAt h' p A n keys fl:=s.keep o.next fun z hz=>o.obj z (s.lt z hz)
theorem b5y(h:Heap)(n:Nat)(hn:n<=65536)
  (hQ:∀h' p A,Old h h' ->StAt h' p A n (fun _=>none) (List.range n)->p∈A->A.Nodup->(∀z∈A,h.next<=z)->Q (.pointer (some ⟨p,0,none⟩)) h'):u9 cp 92 [.int .i64 n] h Q:=by
 refine Keys.st_new h n hn fun h' S hnx ho=>?_
 refine hQ h' (h.next+3) _ ⟨by omega,ho⟩ ⟨S,fun z hz=>?_⟩ (by simp) (by simp) fun z hz=>?_
 ·simp only[vxz,List.not_mem_nil,or_false]at hz;omega
 ·simp only[vxz,List.not_mem_nil,or_false]at hz;omega
theorem IdxAt.keep{h h' :Heap}{x tb st:Nat}{row:M7}{n:Nat}{tab:List Int}(i:IdxAt h x tb st row n tab)(hn:h.next<=h'.next)(h1:h'.obj x=h.obj x)(h2:h'.obj tb=h.obj tb):IdxAt h' x tb st row n tab:=
 { i with ox:=h1.trans i.ox,ot:=h2.trans i.ot,lx:=uzN i.lx hn,lt:=uzN i.lt hn }
theorem b0X{h:Heap}{st:Nat}{A:List Nat}{n:Nat}{keys:Nat->Option ByteArray}{fl:List Nat}(S:StAt h st A n keys fl)(hn:n<=1024)(row:M7)
  (hQ:∀h' x tb,Old h h' ->IdxAt h' x tb st row n (vaz (2*n+1) 0)->h.next<=x->h.next<=tb->Q (.pointer (some ⟨x,0,none⟩)) h'):
  u9 cp 93 [.pointer (some ⟨st,0,none⟩),e4A row] h Q:=by
 rw[a8 cp f1q]
 obtain⟨h1,h1d,o1,n1,g1⟩:=K2 h (.cells [.int .u64 row.1,.int .u64 row.2.1,.int .u64 row.2.2] 182 .fix)
 have fl:=fun Q=>Keys.st_len (S.old o1).S Q
 have fs:∀Q,u9 cp 99 [.int .i64 (n:Int)] h1 Q↔Q (.int .i64 ((2*n+1:Nat):Int)) h1:=fun Q=>by
  refine v9 ?_ Q
  rw[a8 cp e6F]
  have k:2*(n:Int)+1=((2*n+1:Nat):Int):=by omega
  simp(disch:=omega)only[c99,↓R99,k,↓l9,m9,zA,zB,zC,zD,zE,zF,zG,zH,zI,reduceCtorEq,zJ,zK,zL,zM]
 have z0:¬((2*n+1:Nat):Int)<0:=by omega
 simp(disch:=omega)only[c93,↓R93,E5,<-h1d,g1,fl,fs,M5,y6,↓l9,m9,zA,zB,zC,zD,zE,zF,zG,zH,zI,reduceCtorEq,zJ,zK,zL,zM]
 refine hQ _ (h1.next+1) h1.next (o1.trans (((Old.refl h1).more _).more _)) ⟨?_,?_,?_,?_,by simp,by omega⟩ (by omega) (by omega)
 ·exact N4 _ _ _
 ·exact vpz _
 ·rw[f4 _ _ (by simp only[j0];omega)];exact f9 _ _
 ·simp only[j0];omega
end Go.Proofs.YtlakhgibjfmjjaaGreat.Can
namespace Go.Proofs.YtlakhgibjfmjjaaGreat.Can
open Go
abbrev rg(N s t:Nat):Nat:=(s+t) % N
def dst(N i j:Nat):Nat:=if i<=j then j-i else N-i+j
theorem a1u{N i j:Nat}(hi:i<N)(hj:j<N):rg N i (dst N i j)=j:=by
 unfold rg dst
 split
 ·rw[show i+(j-i)=j by omega,Nat.mod_eq_of_lt hj]
 ·rw[show i+(N-i+j)=j+N by omega,Nat.add_mod_right,Nat.mod_eq_of_lt hj]
theorem X9{N i j:Nat}(hi:i<N)(hj:j<N):dst N i j<N:=by unfold dst;split<;>omega
theorem Y7{N s t:Nat}(h:0<N):rg N s t<N:=Nat.mod_lt _ h
theorem a4K{N s t:Nat}(hs:s<N)(ht:t<N):rg N s t=if s+t<N then s+t else s+t-N:=by
 unfold rg
 split
 ·rename_i h;exact Nat.mod_eq_of_lt h
 ·rename_i h;rw[Nat.mod_eq_sub_mod (by omega),Nat.mod_eq_of_lt (by omega)]
theorem a8p{N s t u:Nat}(hs:s<N)(ht:t<N)(hu:u<N)(h:rg N s t=rg N s u):t=u:=by
 rw[a4K hs ht,a4K hs hu]at h
 split at h<;>split at h<;>omega
structure TabOK(N:Nat)(hm:ByteArray->Nat)(n:Nat)(tab:List Int)(keys:Nat->Option ByteArray):Prop where
 len:tab.length=N
 big:n<N
 home:∀s,hm s<N
 val:∀(j:Nat) (v:Int),tab[j]? =some v->v≠0->∃(k:Nat) (key:ByteArray),v=(k:Int)+1/\k<n/\keys k=some key
 there:∀(k:Nat) (key:ByteArray),k<n->keys k=some key->∃j,j<N/\tab[j]? =some ((k:Int)+1)/\∀t,t<dst N (hm key) j->tab[rg N (hm key) t]? ≠some 0
 inj:∀(i j:Nat) (v:Int),tab[i]? =some v->tab[j]? =some v->v≠0->i=j
 kinj:∀(k l:Nat) (key:ByteArray),k<n->l<n->keys k=some key->keys l=some key->k=l
theorem a8c{l:List Int}{N j:Nat}(hl:l.length=N)(hj:j<N):∃v,l[j]? =some v:=⟨l[j]'(by omega),uzF (by omega)⟩
theorem TabOK.gap{N:Nat}{hm:ByteArray->Nat}{n:Nat}{tab:List Int}{keys:Nat->Option ByteArray}(T:TabOK N hm n tab keys):∃j,j<N/\tab[j]? =some 0:=by
 rcases Classical.em (∃j,j<N/\tab[j]? =some 0)with h|h
 ·exact h
 exfalso
 have hnz:∀(j:Nat) (v:Int),tab[j]? =some v->v≠0:=fun j v hv h0=>h ⟨j,by
  have:=(List.getElem?_eq_some_iff.1 hv).1
  rw[T.len]at this;exact this,by rw[hv,h0]⟩
 have hb:=T.big
 have h1:=Keys.nodup_le n (tab.map fun v=>(v-1).toNat) (by
  refine List.pairwise_iff_getElem.2 fun i j hi hj hij heq=>?_
  rw[uzL]at hi hj
  rw[List.getElem_map,List.getElem_map]at heq
  obtain⟨a,ha,hae⟩:∃a,tab[i]? =some a/\tab[i]=a:=⟨_,uzF hi,rfl⟩
  obtain⟨b,hb,hbe⟩:∃b,tab[j]? =some b/\tab[j]=b:=⟨_,uzF hj,rfl⟩
  rw[hae,hbe]at heq
  obtain⟨k,_,rfl,_,_⟩:=T.val i a ha (hnz i a ha)
  obtain⟨l,_,rfl,_,_⟩:=T.val j b hb (hnz j b hb)
  have:k=l:=by omega
  subst this
  have:=T.inj i j _ ha hb (by omega)
  omega) (fun x hx=>by
  obtain⟨v,hv,rfl⟩:=List.mem_map.1 hx
  obtain⟨j,hj⟩:=List.getElem?_of_mem hv
  obtain⟨k,_,rfl,hk,_⟩:=T.val j v hj (hnz j v hj)
  omega)
 rw[uzL,T.len]at h1
 omega
structure Looked(N:Nat)(hm:ByteArray->Nat)(n:Nat)(tab:List Int)(keys:Nat->Option ByteArray)(key:ByteArray)(t:Nat)(r:Option Nat):Prop where
 lt:t<N
 ahead:∀s,s<t->∃(k:Nat) (key' :ByteArray),tab[rg N (hm key) s]? =some ((k:Int)+1)/\k<n/\keys k=some key' /\key' ≠key
 here:match r with
  |none=>tab[rg N (hm key) t]? =some 0/\∀k,k<n->keys k≠some key
  |some k=>tab[rg N (hm key) t]? =some ((k:Int)+1)/\k<n/\keys k=some key
theorem least{p:Nat->Prop}:∀n,p n->∃m,m<=n/\p m/\∀k,k<m->¬p k
 |0,h=>⟨0,uzP _,h,fun k hk=>absurd hk (Nat.not_lt_zero k)⟩
 |n+1,h=>by
  rcases Classical.em (∃k,k<=n/\p k)with⟨k,hk,hp⟩|hno
  ·have step:∀j,j<=n->p j->∃m,m<=j/\p m/\∀k,k<m->¬p k:=fun j=>by
    induction j using Nat.strongRecOn with
    |_ j ih=>
     intro hj hpj
     rcases Classical.em (∃i,i<j/\p i)with⟨i,hi,hpi⟩|hno
     ·obtain⟨m,h1,h2,h3⟩:=ih i hi (by omega) hpi
      exact⟨m,by omega,h2,h3⟩
     ·exact⟨j,uzP _,hpj,fun i hi hpi=>hno ⟨i,hi,hpi⟩⟩
   obtain⟨m,h1,h2,h3⟩:=step k hk hp
   exact⟨m,by omega,h2,h3⟩
  ·exact⟨n+1,uzP _,h,fun k hk hp=>hno ⟨k,by omega,hp⟩⟩
theorem TabOK.look{N:Nat}{hm:ByteArray->Nat}{n:Nat}{tab:List Int}{keys:Nat->Option ByteArray}(T:TabOK N hm n tab keys)(key:ByteArray):∃t r,Looked N hm n tab keys key t r:=by
 have hh:=T.home key
 have hN:0<N:=by omega
 rcases Classical.em (∃k,k<n/\keys k=some key)with⟨k,hk,hkey⟩|hno
 ·obtain⟨j,hj,htj,hp⟩:=T.there k key hk hkey
  refine⟨dst N (hm key) j,some k,X9 hh hj,fun s hs=>?_,?_⟩
  ·obtain⟨v,hv⟩:=a8c T.len (j:=rg N (hm key) s) (Y7 hN)
   have hv0:v≠0:=fun h0=>hp s hs (by rw[hv,h0])
   obtain⟨k',key',rfl,hk',hkey'⟩:=T.val _ _ hv hv0
   refine⟨k',key',hv,hk',hkey',fun he=>?_⟩
   subst he
   have:=T.kinj k k' _ hk hk' hkey hkey'
   subst this
   have hpos:=T.inj _ _ _ hv htj (by omega)
   have h2:=a1u hh hj
   have:=a8p hh (by have:=X9 hh hj;omega) (X9 hh hj) (hpos.trans h2.symm)
   omega
  ·rw[a1u hh hj];exact⟨htj,hk,hkey⟩
 ·obtain⟨j,hj,hj0⟩:=T.gap
  obtain⟨t,ht,h0,hlt⟩:=least (p:=fun t=>tab[rg N (hm key) t]? =some 0) (dst N (hm key) j) (by rw[a1u hh hj];exact hj0)
  have:=X9 hh hj
  refine⟨t,none,by omega,fun s hs=>?_,h0,fun k hk hkey=>hno ⟨k,hk,hkey⟩⟩
  obtain⟨v,hv⟩:=a8c T.len (j:=rg N (hm key) s) (Y7 hN)
  have hv0:v≠0:=fun h0=>hlt s hs (by rw[hv,h0])
  obtain⟨k',key',rfl,hk',hkey'⟩:=T.val _ _ hv hv0
  exact⟨k',key',hv,hk',hkey',fun he=>by subst he;exact hno ⟨k',hk',hkey'⟩⟩
theorem TabOK.put{N:Nat}{hm:ByteArray->Nat}{n:Nat}{tab:List Int}{keys:Nat->Option ByteArray}(T:TabOK N hm n tab keys){key:ByteArray}{t:Nat}(L:Looked N hm n tab keys key t none){k:Nat}(hk:k<n)(hfree:keys k=none):
  TabOK N hm n (tab.set (rg N (hm key) t) ((k:Int)+1)) (Keys.kset keys k (some key)):=by
 have hh:=T.home key
 have hN:0<N:=by omega
 obtain⟨h0,habs⟩:=L.here
 have hj:rg N (hm key) t<N:=Y7 hN
 have hnew:(tab.set (rg N (hm key) t) ((k:Int)+1))[rg N (hm key) t]? =some ((k:Int)+1):=by rw[uzH (by rw[T.len];exact hj)]
 have hold:∀i,i≠rg N (hm key) t->(tab.set (rg N (hm key) t) ((k:Int)+1))[i]? =tab[i]? :=fun i hi=>uzI (fun h=>hi h.symm)
 have hnk:∀i,tab[i]? ≠some ((k:Int)+1):=fun i hi=>by
  obtain⟨k',key',h1,h2,h3⟩:=T.val i _ hi (by omega)
  have:k' =k:=by omega
  subst this;rw[hfree]at h3;cases h3
 refine⟨by rw[viz];exact T.len,T.big,T.home,fun j v hv hv0=>?_,fun l key' hl hkey=>?_,fun i j v hi hj' hv0=>?_,fun a b key' ha hb h1 h2=>?_⟩
 ·by_cases hjj:j=rg N (hm key) t
  ·subst hjj
   rw[hnew]at hv
   obtain rfl:=uzA hv
   exact⟨k,key,rfl,hk,by simp[Keys.kset]⟩
  ·rw[hold j hjj]at hv
   obtain⟨k',key',h1,h2,h3⟩:=T.val j v hv hv0
   refine⟨k',key',h1,h2,?_⟩
   unfold Keys.kset
   rw[if_neg fun h=>by subst h;rw[hfree]at h3;cases h3]
   exact h3
 ·unfold Keys.kset at hkey
  split at hkey
  ·rename_i hlk
   subst hlk
   obtain rfl:=uzA hkey
   refine⟨rg N (hm key) t,hj,hnew,fun s hs hs0=>?_⟩
   have hdt:dst N (hm key) (rg N (hm key) t)=t:=a8p hh (X9 hh hj) L.lt (a1u hh hj)
   rw[hdt]at hs
   rw[hold _ fun he=>by have:=a8p hh (by have:=L.lt;omega) L.lt he;omega]at hs0
   obtain⟨k',_,h1,_⟩:=L.ahead s hs
   rw[h1]at hs0
   have:=uzA hs0
   omega
  ·obtain⟨j,h1,h2,h3⟩:=T.there l key' hl hkey
   have hjj:j≠rg N (hm key) t:=fun he=>by
    rw[he,h0]at h2
    have:=uzA h2
    omega
   refine⟨j,h1,by rw[hold j hjj];exact h2,fun s hs hs0=>?_⟩
   by_cases he:rg N (hm key') s=rg N (hm key) t
   ·rw[he,hnew]at hs0
    have:=uzA hs0
    omega
   ·rw[hold _ he]at hs0;exact h3 s hs hs0
 ·by_cases hi' :i=rg N (hm key) t
  ·by_cases hj'' :j=rg N (hm key) t
   ·rw[hi',hj'']
   ·subst hi'
    rw[hnew]at hi
    rw[hold j hj'']at hj'
    obtain rfl:=uzA hi
    exact absurd hj' (hnk j)
  ·by_cases hj'' :j=rg N (hm key) t
   ·subst hj''
    rw[hnew]at hj'
    rw[hold i hi']at hi
    obtain rfl:=uzA hj'
    exact absurd hi (hnk i)
   ·rw[hold i hi']at hi
    rw[hold j hj'']at hj'
    exact T.inj i j v hi hj' hv0
 ·unfold Keys.kset at h1 h2
  split at h1
  ·rename_i h;obtain rfl:=uzA h1
   split at h2
   ·rename_i h';rw[h,h']
   ·exact absurd h2 (habs b hb)
  ·split at h2
   ·rename_i h;obtain rfl:=uzA h2;exact absurd h1 (habs a ha)
   ·exact T.kinj a b key' ha hb h1 h2
def onW(H p c:Nat):Prop:=if H<=p then H<=c/\c<p else H<=c\/c<p
structure Gone(N:Nat)(hm:ByteArray->Nat)(n:Nat)(keys:Nat->Option ByteArray)(i0 E q a:Nat)(tab:List Int):Prop where
 len:tab.length=N
 ilt:i0<N
 elt:E<N
 zero:tab[rg N i0 E]? =some 0
 qlt:q<a
 ale:a<=E
 hole:tab[rg N i0 q]? =some 0
 full:∀p,p<E->p≠q->tab[rg N i0 p]? ≠some 0
 val:∀(j:Nat) (v:Int),tab[j]? =some v->v≠0->∃(k:Nat) (key:ByteArray),v=(k:Int)+1/\k<n/\keys k=some key
 there:∀(k:Nat) (key:ByteArray),k<n->keys k=some key->∃p,p<N/\tab[rg N i0 p]? =some ((k:Int)+1)
 inj:∀(i j:Nat) (v:Int),tab[i]? =some v->tab[j]? =some v->v≠0->i=j
 way:∀(p k:Nat) (key:ByteArray),p<N->tab[rg N i0 p]? =some ((k:Int)+1)->keys k=some key->∀c,c<N->onW (dst N i0 (hm key)) p c->c≠q->tab[rg N i0 c]? ≠some 0
 back:∀(p k:Nat) (key:ByteArray),p<a->tab[rg N i0 p]? =some ((k:Int)+1)->keys k=some key->¬onW (dst N i0 (hm key)) p q
theorem d9W{N s t u:Nat}(hs:s<N)(ht:t<N)(hu:u<N)(h:t≠u):rg N s t≠rg N s u:=fun he=>h (a8p hs ht hu he)
theorem test_iff{N i0 q a x:Nat}(hi:i0<N)(hq:q<a)(ha:a<N)(hx:x<N):dst N x (rg N i0 a)<dst N (rg N i0 q) (rg N i0 a)↔¬onW (dst N i0 x) a q:=by
 rw[a4K hi ha,a4K hi (by omega)]
 unfold dst onW
 split<;>split<;>(repeat' split)<;>omega
theorem TabOK.start{N:Nat}{hm:ByteArray->Nat}{n:Nat}{tab:List Int}{keys:Nat->Option ByteArray}(T:TabOK N hm n tab keys){i0 k0:Nat}{key0:ByteArray}(hi:i0<N)(h0:tab[i0]? =some ((k0:Int)+1))(hk:k0<n)(hkey:keys k0=some key0):
  ∃E,Gone N hm n (Keys.kset keys k0 none) i0 E 0 1 (tab.set i0 0):=by
 have hb:=T.big
 have r0:rg N i0 0=i0:=Nat.mod_eq_of_lt hi
 obtain⟨j,hj,hj0⟩:=T.gap
 obtain⟨E,hE,hE0,hlt⟩:=least (p:=fun p=>tab[rg N i0 p]? =some 0) (dst N i0 j) (by rw[a1u hi hj];exact hj0)
 have hd:=X9 hi hj
 have hE1:E≠0:=fun h=>by
  rw[h,r0,h0]at hE0
  have:=uzA hE0
  omega
 have hold:∀i,i≠i0->(tab.set i0 0)[i]? =tab[i]? :=fun i hi=>uzI fun h=>hi h.symm
 have hz:(tab.set i0 0)[i0]? =some 0:=by rw[uzH (by rw[T.len];exact hi)]
 have hne:∀p,p<N->p≠0->rg N i0 p≠i0:=fun p hp h h' =>h (a8p hi hp (by omega) (h'.trans r0.symm))
 have hkeys:∀k key,Keys.kset keys k0 none k=some key->keys k=some key/\k≠k0:=fun k key h=>by
  unfold Keys.kset at h
  split at h
  ·cases h
  ·rename_i hk;exact⟨h,hk⟩
 have hkeys2:∀k key,keys k=some key->k≠k0->Keys.kset keys k0 none k=some key:=fun k key h hk=>by
  unfold Keys.kset;rw[if_neg hk];exact h
 refine⟨E,by rw[viz];exact T.len,hi,by omega,by rw[hold _ (hne E (by omega) hE1)];exact hE0,by omega,by omega,by rw[r0];exact hz,fun p hp hp0=>?_,fun j v hv hv0=>?_,fun k key hkn hkk=>?_,fun i j v hv1 hv2 hv0=>?_,fun p k key hp hpk hkk c hc hon hc0=>?_,fun p k key hp hpk hkk=>?_⟩
 ·rw[hold _ (hne p (by omega) hp0)];exact hlt p hp
 ·have hji:j≠i0:=fun h=>by rw[h,hz]at hv;exact hv0 (uzA hv).symm
  rw[hold j hji]at hv
  obtain⟨k,key,h1,h2,h3⟩:=T.val j v hv hv0
  refine⟨k,key,h1,h2,hkeys2 k key h3 fun hkk=>hji ?_⟩
  subst hkk
  exact T.inj j i0 v hv (by rw[h0,h1]) hv0
 ·obtain⟨hkk,hkne⟩:=hkeys k key hkk
  obtain⟨j,hj,hjk,_⟩:=T.there k key hkn hkk
  refine⟨dst N i0 j,X9 hi hj,?_⟩
  rw[a1u hi hj,hold j fun h=>?_]
  ·exact hjk
  ·rw[h,h0]at hjk
   have:=uzA hjk
   omega
 ·have h1:i≠i0:=fun h=>by rw[h,hz]at hv1;exact hv0 (uzA hv1).symm
  have h2:j≠i0:=fun h=>by rw[h,hz]at hv2;exact hv0 (uzA hv2).symm
  rw[hold i h1]at hv1
  rw[hold j h2]at hv2
  exact T.inj i j v hv1 hv2 hv0
 ·obtain⟨hkk,hkne⟩:=hkeys k key hkk
  have hp0:p≠0:=fun h=>by
   rw[h,r0,hz]at hpk
   have:=uzA hpk
   omega
  rw[hold _ (hne p hp hp0)]at hpk
  rw[hold _ (hne c hc hc0)]
  have hkn:k<n:=by
   obtain⟨k',_,h1,h2,_⟩:=T.val _ _ hpk (by omega)
   omega
  obtain⟨j,hj,hjk,hway⟩:=T.there k key hkn hkk
  have hjp:j=rg N i0 p:=T.inj _ _ _ hjk hpk (by omega)
  have hh:=T.home key
  have ec:rg N (hm key) (dst N (hm key) (rg N i0 c))=rg N i0 c:=a1u hh (Y7 (by omega))
  rw[<-ec]
  refine hway _ ?_
  rw[hjp,a4K hi hc,a4K hi hp]
  unfold dst onW at hon
  unfold dst
  revert hon
  (repeat' split)<;>intro hon<;>omega
 ·have hp0:p=0:=by omega
  subst hp0
  rw[r0,hz]at hpk
  have:=uzA hpk
  omega
section
variable {N:Nat} {hm:ByteArray->Nat} {n:Nat} {tab:List Int} {keys:Nat->Option ByteArray} {i0 E q a:Nat}
theorem Gone.stay(G:Gone N hm n keys i0 E q a tab){k:Nat}{key:ByteArray}(ha:tab[rg N i0 a]? =some ((k:Int)+1))(hk:keys k=some key)(hno:¬onW (dst N i0 (hm key)) a q):Gone N hm n keys i0 E q (a+1) tab:=by
 have haE:a≠E:=fun h=>by
  have:=G.zero
  rw[<-h,ha]at this
  have:=uzA this
  omega
 have:=G.ale
 have:=G.qlt
 refine { G with qlt:=by omega,ale:=by omega,back:=fun p k' key' hp hpk hkk=>?_ }
 by_cases hpa:p=a
 ·subst hpa
  rw[ha]at hpk
  have:k' =k:=by have:=uzA hpk;omega
  subst this
  rw[hk]at hkk
  obtain rfl:=uzA hkk
  exact hno
 ·exact G.back p k' key' (by omega) hpk hkk
theorem Gone.move(G:Gone N hm n keys i0 E q a tab)(hm_:∀s,hm s<N){k:Nat}{key:ByteArray}(ha:tab[rg N i0 a]? =some ((k:Int)+1))(hk:keys k=some key)(hon:onW (dst N i0 (hm key)) a q):
  Gone N hm n keys i0 E a (a+1) ((tab.set (rg N i0 q) ((k:Int)+1)).set (rg N i0 a) 0):=by
 have hi:=G.ilt
 have hE:=G.elt
 have hle:=G.ale
 have hqa:=G.qlt
 have haE:a≠E:=fun h=>by
  have:=G.zero
  rw[<-h,ha]at this
  have:=uzA this
  omega
 have hN:0<N:=by omega
 have hla:rg N i0 a<tab.length:=by rw[G.len];exact Y7 hN
 have hlq:rg N i0 q<tab.length:=by rw[G.len];exact Y7 hN
 have nqa:rg N i0 q≠rg N i0 a:=d9W hi (by omega) (by omega) (by omega)
 have ga:((tab.set (rg N i0 q) ((k:Int)+1)).set (rg N i0 a) 0)[rg N i0 a]? =some 0:=by rw[uzH (by rw[viz];exact hla)]
 have gq:((tab.set (rg N i0 q) ((k:Int)+1)).set (rg N i0 a) 0)[rg N i0 q]? =some ((k:Int)+1):=by rw[uzI nqa.symm,uzH hlq]
 have go:∀i,i≠rg N i0 q->i≠rg N i0 a->((tab.set (rg N i0 q) ((k:Int)+1)).set (rg N i0 a) 0)[i]? =tab[i]? :=fun i h1 h2=>by rw[uzI h2.symm,uzI h1.symm]
 have gp:∀p,p<N->p≠q->p≠a->((tab.set (rg N i0 q) ((k:Int)+1)).set (rg N i0 a) 0)[rg N i0 p]? =tab[rg N i0 p]? :=fun p hp h1 h2=>go _ (d9W hi hp (by omega) h1) (d9W hi hp (by omega) h2)
 have hkn:k<n:=by
  obtain⟨k',_,h1,h2,_⟩:=G.val _ _ ha (by omega)
  omega
 have noE:∀(p k' :Nat) (key' :ByteArray),p<N->tab[rg N i0 p]? =some ((k' :Int)+1)->keys k' =some key' ->¬onW (dst N i0 (hm key')) p E:=fun p k' key' hp hpk hkk h=>G.way p k' key' hp hpk hkk E hE h (by omega) G.zero
 have hH:∀key',dst N i0 (hm key')<N:=fun key' =>X9 hi (hm_ key')
 refine⟨by rw[viz,viz];exact G.len,hi,hE,by rw[gp E hE (by omega) (by omega)];exact G.zero,by omega,by omega,ga,fun p hp hpa=>?_,fun j v hv hv0=>?_,fun l key' hl hkk=>?_,fun i j v hv1 hv2 hv0=>?_,fun p l key' hp hpl hkk c hc hw hca=>?_,fun p l key' hp hpl hkk=>?_⟩
 ·by_cases hpq:p=q
  ·subst hpq;rw[gq];intro h;have:=uzA h;omega
  ·rw[gp p (by omega) hpq hpa];exact G.full p hp hpq
 ·by_cases h1:j=rg N i0 a
  ·rw[h1,ga]at hv;exact absurd (uzA hv).symm hv0
  ·by_cases h2:j=rg N i0 q
   ·rw[h2,gq]at hv
    obtain rfl:=uzA hv
    exact⟨k,key,rfl,hkn,hk⟩
   ·rw[go j h2 h1]at hv;exact G.val j v hv hv0
 ·obtain⟨p,hp,hpl⟩:=G.there l key' hl hkk
  by_cases hpa:p=a
  ·subst hpa
   rw[ha]at hpl
   have:l=k:=by have:=uzA hpl;omega
   subst this
   exact⟨q,by omega,gq⟩
  ·have hpq:p≠q:=fun h=>by
    rw[h,G.hole]at hpl
    have:=uzA hpl
    omega
   exact⟨p,hp,by rw[gp p hp hpq hpa];exact hpl⟩
 ·have na:∀i,((tab.set (rg N i0 q) ((k:Int)+1)).set (rg N i0 a) 0)[i]? =some v->i≠rg N i0 a:=fun i h h' =>by rw[h',ga]at h;exact hv0 (uzA h).symm
  have n1:=na i hv1
  have n2:=na j hv2
  by_cases c1:i=rg N i0 q
  ·by_cases c2:j=rg N i0 q
   ·rw[c1,c2]
   ·subst c1
    rw[gq]at hv1
    rw[go j c2 n2]at hv2
    obtain rfl:=uzA hv1
    exact absurd (G.inj _ _ _ hv2 ha hv0) n2
  ·by_cases c2:j=rg N i0 q
   ·subst c2
    rw[gq]at hv2
    rw[go i c1 n1]at hv1
    obtain rfl:=uzA hv2
    exact absurd (G.inj _ _ _ hv1 ha hv0) n1
   ·rw[go i c1 n1]at hv1
    rw[go j c2 n2]at hv2
    exact G.inj i j v hv1 hv2 hv0
 ·have hpa:p≠a:=fun h=>by
   rw[h,ga]at hpl
   have:=uzA hpl
   omega
  by_cases hcq:c=q
  ·subst hcq;rw[gq];intro h;have:=uzA h;omega
  rw[gp c hc hcq hca]
  by_cases hpq:p=q
  ·subst hpq
   rw[gq]at hpl
   have:l=k:=by have:=uzA hpl;omega
   subst this
   rw[hk]at hkk
   obtain rfl:=uzA hkk
   refine G.way a l key (by omega) ha hk c hc ?_ hcq
   have:=hH key
   unfold onW at hon hw ⊢
   revert hon hw
   (repeat' split)<;>intro hon hw<;>omega
  ·rw[gp p hp hpq hpa]at hpl
   exact G.way p l key' hp hpl hkk c hc hw hcq
 ·have hpa:p≠a:=fun h=>by
   rw[h,ga]at hpl
   have:=uzA hpl
   omega
  intro hw
  by_cases hpq:p=q
  ·subst hpq
   rw[gq]at hpl
   have:l=k:=by have:=uzA hpl;omega
   subst this
   rw[hk]at hkk
   obtain rfl:=uzA hkk
   have h2:=noE a l key (by omega) ha hk
   have:=hH key
   unfold onW at hon hw h2
   revert hon hw h2
   (repeat' split)<;>intro hon hw h2<;>omega
  ·rw[gp p (by omega) hpq hpa]at hpl
   have h2:=noE p l key' (by omega) hpl hkk
   have:=hH key'
   unfold onW at hw h2
   revert hw h2
   (repeat' split)<;>intro hw h2<;>omega
theorem Gone.done(G:Gone N hm n keys i0 E q a tab)(hm_:∀s,hm s<N)(hn:n<N)(kinj:∀(k l:Nat) (key:ByteArray),k<n->l<n->keys k=some key->keys l=some key->k=l)(ha:tab[rg N i0 a]? =some 0):TabOK N hm n tab keys:=by
 have hi:=G.ilt
 have hE:=G.elt
 have hle:=G.ale
 have hqa:=G.qlt
 have haE:a=E:=by
  rcases vMz a E with h|h
  ·exact absurd ha (G.full a h (by omega))
  ·omega
 refine⟨G.len,hn,hm_,G.val,fun k key hk hkk=>?_,G.inj,kinj⟩
 obtain⟨p,hp,hpk⟩:=G.there k key hk hkk
 have hH:=X9 hi (hm_ key)
 refine⟨rg N i0 p,Y7 (by omega),hpk,fun t ht h0=>?_⟩
 have hc:=X9 hi (Y7 (N:=N) (s:=hm key) (t:=t) (by omega))
 have ec:=a1u hi (Y7 (N:=N) (s:=hm key) (t:=t) (by omega))
 have htN:t<N:=Nat.lt_trans ht (X9 (hm_ key) (Y7 (by omega)))
 have hw:onW (dst N i0 (hm key)) p (dst N i0 (rg N (hm key) t)):=by
  have hh:=hm_ key
  rw[a4K hi hp]at ht
  rw[a4K hh htN]
  unfold dst at ht
  unfold onW dst
  revert ht
  (repeat' split)<;>intro ht<;>omega
 rw[<-ec]at h0
 have hcq:dst N i0 (rg N (hm key) t)=q:=by
  rcases Classical.em (dst N i0 (rg N (hm key) t)=q)with h|h
  ·exact h
  ·exact absurd h0 (G.way p k key hp hpk hkk _ hc hw h)
 rw[hcq]at hw
 rcases vMz p a with h|h
 ·exact G.back p k key h hpk hkk hw
 ·have hpE:p≠E:=fun he=>by
   have:=G.zero
   rw[<-he,hpk]at this
   have:=uzA this
   omega
  have h2:¬onW (dst N i0 (hm key)) p E:=fun h=>G.way p k key hp hpk hkk E hE h (by omega) G.zero
  unfold onW at hw h2
  revert hw h2
  (repeat' split)<;>intro hw h2<;>omega
end
end Go.Proofs.YtlakhgibjfmjjaaGreat.Can
namespace Go.Proofs.YtlakhgibjfmjjaaGreat.Can
open Go
attribute [local congr] u5 u4 l5 l8 r8 s9 u6 w9 u7
variable {Q : Value → Heap → Prop}
theorem e4x{a b:ByteArray}(h:a≠b):(a.toList==b.toList)=false:=by
 cases hq:(a.toList==b.toList)with
 |false=>rfl
 |true=>
  have h2:=eq_of_beq hq
  rw[ByteArray.toList_eq,ByteArray.toList_eq]at h2
  exact absurd (Go.WideShapes.bytes_inj h2) h
theorem c7o:decide ((-1:Int)>=0)=false:=by decide
theorem e4w(a:ByteArray):(a.toList==a.toList)=true:=by simp
theorem b5C{N x y:Nat}(hx:x<N)(hy:y<N):Int.tmod ((x:Int)-(y:Int)+(N:Int)) (N:Int)=((dst N y x:Nat):Int):=by
 rw[J8 _ _ (by omega)]
 unfold dst
 split
 ·rw[show(x:Int)-(y:Int)+(N:Int)=((x-y:Nat):Int)+(N:Int) by omega,Int.add_emod_right,Int.emod_eq_of_lt (by omega) (by omega)]
 ·rw[show(x:Int)-(y:Int)+(N:Int)=((N-y+x:Nat):Int) by omega,Int.emod_eq_of_lt (by omega) (by omega)]
abbrev hmI(row:M7)(n:Nat):ByteArray->Nat:=fun s=>bkt row s (2*n+1)
def plc:Option Nat->Int
 |none=> -1
 |some k=>k
section
variable {h:Heap} {x tb st:Nat} {row:M7} {n:Nat} {tab:List Int} {A:List Nat} {keys:Nat->Option ByteArray} {fl:List Nat}
theorem c7h(i:IdxAt h x tb st row n tab)(hr:row.OK)(hn:n<=1024)(s:ByteArray)(hs:s.size<=140737488355328)(hQ:∀h',Old h h' ->Q (.int .i64 (hmI row n s:Nat)) h'):
  u9 cp 175 [.pointer (some ⟨x,0,none⟩),.string s] h Q:=by
 rw[a8 cp e6n]
 have ox:=i.ox
 have f:=fun h=>d0t h row hr s hs (2*n+1) (by omega) (by omega)
 have en:a0i.enc row=[.int .u64 row.1,.int .u64 row.2.1,.int .u64 row.2.2]:=rfl
 rw[en]at f
 simp(disch:=omega)only[e1k,↓f0a,ox,f,List.drop_succ_cons,vwz,List.take_succ_cons,List.take_zero,↓l9,m9,zA,zB,zC,zD,zE,zF,zG,zH,zI,reduceCtorEq,zJ,zK,zL,zM]
 exact hQ _ (((Old.refl h).more _).more _)
theorem b2k(i:IdxAt h x tb st row n tab)(S:StAt h st A n keys fl)(hr:row.OK)(hn:n<=1024)(T:TabOK (2*n+1) (hmI row n) n tab keys){key:ByteArray}(hs:key.size<=140737488355328){t:Nat}{r:Option Nat}(L:Looked (2*n+1) (hmI row n) n tab keys key t r)
  (hQ:∀h',Old h h' ->Q (.tuple #[.int .i64 (rg (2*n+1) (hmI row n key) t:Nat),.int .i64 (plc r)]) h'):
  u9 cp 165 [.pointer (some ⟨x,0,none⟩),.string key] h Q:=by
 rw[a8 cp e6f]
 simp(disch:=omega)only[b3H,↓d0d,↓l9,m9,zA,zB,zC,zD,zE,zF,zG,zH,zI,reduceCtorEq,zJ,zK,zL,zM]
 refine c7h i hr hn key hs fun h1 o1=>?_
 have i1:=i.keep o1.next (o1.obj x i.lx) (o1.obj tb i.lt)
 have S1:=S.old o1
 simp(disch:=omega)only[b3H,↓d0d,↓l9,m9,zA,zB,zC,zD,zE,zF,zG,zH,zI,reduceCtorEq,zJ,zK,zL,zM]
 refine A6 cp a2R _ (fun d e hh=>∃s,s+d=t/\hh=h1/\e 0=.pointer (some ⟨x,0,none⟩)/\e 1=.string key/\e 6=.int .i64 (rg (2*n+1) (hmI row n key) s:Nat)) ?_ t _ _
  ⟨0,by omega,rfl,rfl,rfl,by rw[show rg (2*n+1) (hmI row n key) 0=hmI row n key from Nat.mod_eq_of_lt (T.home key)];rfl⟩
 rintro d e hh ⟨s,hsd,rfl,e0,e1,e6⟩
 have ox:=i1.ox
 have ot:=i1.ot
 have len:=i1.len
 have hp:rg (2*n+1) (hmI row n key) s<2*n+1:=Y7 (by omega)
 have nx:Int.tmod (((rg (2*n+1) (hmI row n key) s:Nat):Int)+1) ((2*n+1:Nat):Int)=((rg (2*n+1) (hmI row n key) (s+1):Nat):Int):=by
  rw[J8 _ _ (by omega),show((rg (2*n+1) (hmI row n key) s:Nat):Int)+1=((rg (2*n+1) (hmI row n key) s+1:Nat):Int) by omega]
  show(((rg (2*n+1) (hmI row n key) s+1) % (2*n+1):Nat):Int)=_
  congr 1
  show((hmI row n key+s) % (2*n+1)+1) % (2*n+1)=(hmI row n key+(s+1)) % (2*n+1)
  rw[Nat.mod_add_mod,Nat.add_assoc]
 have z0:((2*n+1:Nat):Int)≠0:=by omega
 obtain⟨P,hP⟩:∃P,P=rg (2*n+1) (hmI row n key) s:=⟨_,rfl⟩
 rw[<-hP]at e6 hp nx
 rcases vMz s t with hst|hst
 ·obtain⟨k,key',g1,g2,g3,g4⟩:=L.ahead s hst
  rw[<-hP]at g1
  have g1' :=C5 .i32 tab g1
  have k1:(k:Int)+1-1=(k:Int):=by omega
  have k2:decide ((k:Int)<0)=false:=dFz (by omega)
  have fi:=fun Q=>Keys.st_is S1.S g2 g3 key Q
  simp(disch:=omega)only[a2R,b3H,↓d0d,e0,e1,e6,ox,ot,g1',k1,k2,fi,e4x g4,nx,uzS,↓l9,m9,zA,zB,zC,zD,zE,zF,zG,zH,zI,reduceCtorEq,zJ,zK,zL,zM]
  exact⟨d-1,by omega,s+1,by omega,rfl⟩
 ·obtain rfl:s=t:=by omega
  have hl:=L.here
  cases r with
  |none=>
   obtain⟨g1,_⟩:=hl
   rw[<-hP]at g1
   have g1' :=C5 .i32 tab g1
   rw[<-hP]at hQ
   simp(disch:=omega)only[a2R,b3H,↓d0d,e0,e1,e6,ox,ot,g1',uzS,↓l9,m9,zA,zB,zC,zD,zE,zF,zG,zH,zI,reduceCtorEq,zJ,zK,zL,zM]
   exact hQ _ o1
  |some k=>
   obtain⟨g1,g2,g3⟩:=hl
   rw[<-hP]at g1
   have g1' :=C5 .i32 tab g1
   rw[<-hP]at hQ
   have k1:(k:Int)+1-1=(k:Int):=by omega
   have k2:decide ((k:Int)<0)=false:=dFz (by omega)
   have fi:=fun Q=>Keys.st_is S1.S g2 g3 key Q
   simp(disch:=omega)only[a2R,b3H,↓d0d,e0,e1,e6,ox,ot,g1',k1,k2,fi,e4w,uzS,↓l9,m9,zA,zB,zC,zD,zE,zF,zG,zH,zI,reduceCtorEq,zJ,zK,zL,zM]
   exact hQ _ o1
theorem b2h(i:IdxAt h x tb st row n tab)(S:StAt h st A n keys fl)(hr:row.OK)(hn:n<=1024)(T:TabOK (2*n+1) (hmI row n) n tab keys){key:ByteArray}(hs:key.size<=140737488355328){t:Nat}{r:Option Nat}(L:Looked (2*n+1) (hmI row n) n tab keys key t r)
  (hQ:∀h',Old h h' ->Q (.int .i64 (plc r)) h'):u9 cp 147 [.pointer (some ⟨x,0,none⟩),.string key] h Q:=by
 rw[a8 cp e5O]
 simp(disch:=omega)only[d0W,↓e4P,↓l9,m9,zA,zB,zC,zD,zE,zF,zG,zH,zI,reduceCtorEq,zJ,zK,zL,zM]
 refine b2k i S hr hn T hs L fun h1 o1=>?_
 simp(disch:=omega)only[d0W,↓e4P,↓l9,m9,zA,zB,zC,zD,zE,zF,zG,zH,zI,reduceCtorEq,zJ,zK,zL,zM]
 exact hQ _ o1
theorem c7j(i:IdxAt h x tb st row n tab){k:Nat}(S:StAt h st A n keys (k::fl))(hr:row.OK)(hn:n<=1024)(T:TabOK (2*n+1) (hmI row n) n tab keys){key:ByteArray}(hs:key.size<=64){t:Nat}(L:Looked (2*n+1) (hmI row n) n tab keys key t none)(hx:x∉A)(htb:tb∉A)
  (hQ:∀h',OldF (fun z=>z=tb\/z∈A) h h' ->IdxAt h' x tb st row n (tab.set (rg (2*n+1) (hmI row n key) t) ((k:Int)+1))->StAt h' st A n (Keys.kset keys k (some key)) fl->
   TabOK (2*n+1) (hmI row n) n (tab.set (rg (2*n+1) (hmI row n key) t) ((k:Int)+1)) (Keys.kset keys k (some key))->Q (.int .i64 k) h'):u9 cp 150 [.pointer (some ⟨x,0,none⟩),.string key] h Q:=by
 rw[a8 cp e5Q]
 simp(disch:=omega)only[c8d,↓e2T,↓l9,m9,zA,zB,zC,zD,zE,zF,zG,zH,zI,reduceCtorEq,zJ,zK,zL,zM]
 refine b2k i S hr hn T (by omega) L fun h1 o1=>?_
 have i1:=i.keep o1.next (o1.obj x i.lx) (o1.obj tb i.lt)
 have S1:=S.old o1
 have ox:=i1.ox
 obtain⟨s,hsp,hso,hsn,hsA,hsg⟩:=S1.S
 have hkn:k<n:=by have:=hsg.lt k vyz;omega
 have hkf:keys k=none:=(hsg.free k (by omega)).1 vyz
 simp(disch:=omega)only[c8d,↓e2T,plc,c7o,ox,↓l9,m9,zA,zB,zC,zD,zE,zF,zG,zH,zI,reduceCtorEq,zJ,zK,zL,zM]
 refine Keys.st_put S1.S hs fun h2 S2 kp=>?_
 have o2:OldF (fun z=>z=tb\/z∈A) h h2:=(o1.f _).trans ⟨by rw[kp.next];exact uzP _,fun b _ hb=>kp.obj b fun hbA=>hb (.inr hbA)⟩
 have ox2:h2.obj x=_:=(kp.obj x hx).trans i1.ox
 have ot2:h2.obj tb=_:=(kp.obj tb htb).trans i1.ot
 have len:=i1.len
 have hp:rg (2*n+1) (hmI row n key) t<2*n+1:=Y7 (by omega)
 have k2:decide ((k:Int)>=0)=true:=dTz (by omega)
 have ne:=i.ne
 obtain⟨P,hP⟩:∃P,P=rg (2*n+1) (hmI row n key) t:=⟨_,rfl⟩
 rw[<-hP]at hp hQ
 simp(disch:=omega)only[c8d,↓e2T,<-hP,ox2,ot2,k2,D8,H7,C6,len,uzS,↓l9,m9,zA,zB,zC,zD,zE,zF,zG,zH,zI,reduceCtorEq,zJ,zK,zL,zM]
 have tp:=T.put L hkn hkf
 rw[<-hP]at tp
 have S3:StAt h2 st A n (Keys.kset keys k (some key)) fl:=⟨S2,fun z hz=>by rw[kp.next];exact S1.lt z hz⟩
 refine hQ _ (o2.trans (OldF.upd _ _ _ (.inl rfl))) ⟨?_,?_,?_,?_,by rw[viz];exact len,ne⟩ (S3.keep (uzP _) fun z hz=>a6 _ _ fun e=>htb (e▸hz)) tp
 ·rw[a6 _ _ ne];exact ox2
 ·show x<h2.next;rw[kp.next];exact i1.lx
 ·exact a9 _ _ _
 ·show tb<h2.next;rw[kp.next];exact i1.lt
theorem a7W(i:IdxAt h x tb st row n tab)(S:StAt h st A n keys fl)(hr:row.OK)(hn:n<=1024)(T:TabOK (2*n+1) (hmI row n) n tab keys){key:ByteArray}(hs:key.size<=64){t k:Nat}(L:Looked (2*n+1) (hmI row n) n tab keys key t (some k))(hx:x∉A)(htb:tb∉A)
  (hQ:∀h' tab',OldF (fun z=>z=tb\/z∈A) h h' ->IdxAt h' x tb st row n tab' ->StAt h' st A n (Keys.kset keys k none) (k::fl)->TabOK (2*n+1) (hmI row n) n tab' (Keys.kset keys k none)->Q (.int .i64 k) h'):
  u9 cp 167 [.pointer (some ⟨x,0,none⟩),.string key] h Q:=by
 rw[a8 cp e6g]
 simp(disch:=omega)only[a8O,↓b5R,↓l9,m9,zA,zB,zC,zD,zE,zF,zG,zH,zI,reduceCtorEq,zJ,zK,zL,zM]
 refine b2k i S hr hn T (by omega) L fun h1 o1=>?_
 have i1:=i.keep o1.next (o1.obj x i.lx) (o1.obj tb i.lt)
 have S1:=S.old o1
 have ox:=i1.ox
 have len:=i1.len
 have ne:=i.ne
 have k2:decide ((k:Int)<0)=false:=dFz (by omega)
 obtain⟨l1,l2,l3⟩:=L.here
 simp(disch:=omega)only[a8O,↓b5R,plc,ox,k2,↓l9,m9,zA,zB,zC,zD,zE,zF,zG,zH,zI,reduceCtorEq,zJ,zK,zL,zM]
 refine Keys.st_free S1.S l2 l3 fun h2 S2 kp=>?_
 have ox2:h2.obj x=_:=(kp.obj x hx).trans i1.ox
 have ot2:h2.obj tb=_:=(kp.obj tb htb).trans i1.ot
 have o2:OldF (fun z=>z=tb\/z∈A) h h2:=(o1.f _).trans ⟨by rw[kp.next];exact uzP _,fun b _ hb=>kp.obj b fun hbA=>hb (.inr hbA)⟩
 have S3:StAt h2 st A n (Keys.kset keys k none) (k::fl):=⟨S2,fun z hz=>by rw[kp.next];exact S1.lt z hz⟩
 have lx2:x<h2.next:=by rw[kp.next];exact i1.lx
 have lt2:tb<h2.next:=by rw[kp.next];exact i1.lt
 obtain⟨i0,hi0⟩:∃i0,i0=rg (2*n+1) (hmI row n key) t:=⟨_,rfl⟩
 have hp:i0<2*n+1:=by rw[hi0];exact Y7 (by omega)
 rw[<-hi0]at l1
 rw[<-hi0]
 obtain⟨E,G⟩:=T.start hp l1 l2 l3
 have r1:rg (2*n+1) i0 0=i0:=Nat.mod_eq_of_lt hp
 have kinj:∀(a b:Nat) (key' :ByteArray),a<n->b<n->Keys.kset keys k none a=some key' ->Keys.kset keys k none b=some key' ->a=b:=fun a b key' ha hb h1 h2=>by
  unfold Keys.kset at h1 h2
  split at h1
  ·cases h1
  ·split at h2
   ·cases h2
   ·exact T.kinj a b key' ha hb h1 h2
 have nx:∀s,Int.tmod (((rg (2*n+1) i0 s:Nat):Int)+1) ((2*n+1:Nat):Int)=((rg (2*n+1) i0 (s+1):Nat):Int):=fun s=>by
  rw[J8 _ _ (by omega),show((rg (2*n+1) i0 s:Nat):Int)+1=((rg (2*n+1) i0 s+1:Nat):Int) by omega]
  show(((rg (2*n+1) i0 s+1) % (2*n+1):Nat):Int)=_
  congr 1
  show((i0+s) % (2*n+1)+1) % (2*n+1)=(i0+(s+1)) % (2*n+1)
  rw[Nat.mod_add_mod,Nat.add_assoc]
 have nx0:=nx 0
 rw[r1]at nx0
 have z0:((2*n+1:Nat):Int)≠0:=by omega
 simp(disch:=omega)only[a8O,↓b5R,ox2,ot2,D8,H7,C6,len,nx0,uzS,↓l9,m9,zA,zB,zC,zD,zE,zF,zG,zH,zI,reduceCtorEq,zJ,zK,zL,zM]
 refine A6 cp a1E _ (fun d e hh=>∃q a tab',a+d=E/\Gone (2*n+1) (hmI row n) n (Keys.kset keys k none) i0 E q a tab' /\OldF (fun z=>z=tb\/z∈A) h hh/\IdxAt hh x tb st row n tab' /\StAt hh st A n (Keys.kset keys k none) (k::fl)/\
   e 0=.pointer (some ⟨x,0,none⟩)/\e 5=.int .i64 (rg (2*n+1) i0 q:Nat)/\e 6=.int .i64 k/\e 7=.int .i64 (2*n+1:Nat)/\e 8=.int .i64 (rg (2*n+1) i0 a:Nat)) ?_ (E-1) _ _
  ⟨0,1,tab.set i0 0,by have:=G.ale;omega,G,o2.trans (OldF.upd _ _ _ (.inl rfl)),⟨by rw[a6 _ _ ne];exact ox2,lx2,a9 _ _ _,lt2,by rw[viz];exact len,ne⟩,S3.keep (uzP _) fun z hz=>a6 _ _ fun e=>htb (e▸hz),rfl,by rw[r1];rfl,rfl,rfl,rfl⟩
 rintro d e hh ⟨q,a,tab',had,G',o',i',S',e0,e5,e6,e7,e8⟩
 have ox' :=i'.ox
 have ot' :=i'.ot
 have len' :=i'.len
 have hE:=G'.elt
 have hqa:=G'.qlt
 have hpa:rg (2*n+1) i0 a<2*n+1:=Y7 (by omega)
 have hpq:rg (2*n+1) i0 q<2*n+1:=Y7 (by omega)
 have nx' :=nx a
 obtain⟨P,hP⟩:∃P,P=rg (2*n+1) i0 a:=⟨_,rfl⟩
 obtain⟨R,hR⟩:∃R,R=rg (2*n+1) i0 q:=⟨_,rfl⟩
 rw[<-hP]at e8 hpa nx'
 rw[<-hR]at e5 hpq
 obtain⟨v,hv⟩:=a8c G'.len (j:=P) hpa
 have hv' :=C5 .i32 tab' hv
 by_cases hv0:v=0
 ·subst hv0
  have b1:decide ((0:Int)>0)=false:=by decide
  simp(disch:=omega)only[a1E,a8O,↓b5R,e0,e5,e6,e7,e8,ox',ot',hv',b1,uzS,↓l9,m9,zA,zB,zC,zD,zE,zF,zG,zH,zI,reduceCtorEq,zJ,zK,zL,zM]
  exact hQ _ tab' o' i' S' (G'.done T.home T.big kinj (by rw[<-hP];exact hv))
 ·obtain⟨l,name,rfl,hl,hname⟩:=G'.val P v hv hv0
  have b1:decide ((l:Int)+1>0)=true:=dTz (by omega)
  have k1:(l:Int)+1-1=(l:Int):=by omega
  have fk:=fun Q=>Keys.st_key S'.S hl hname Q
  simp(disch:=omega)only[a1E,a8O,↓b5R,e0,e5,e6,e7,e8,ox',ot',hv',b1,k1,fk,uzS,↓l9,m9,zA,zB,zC,zD,zE,zF,zG,zH,zI,reduceCtorEq,zJ,zK,zL,zM]
  have hnsz:name.size<=64:=by
   obtain⟨s0,_,_,hsn,_,hsg⟩:=S'.S
   exact(hsg.held l name (by omega) hname).2.1
  refine c7h i' hr hn name (by omega) fun h3 o3=>?_
  have i3:=i'.keep o3.next (o3.obj x i'.lx) (o3.obj tb i'.lt)
  have S3' :=S'.old o3
  have of3:=o'.trans (o3.f _)
  have ox3:=i3.ox
  have ot3:=i3.ot
  have hh3:hmI row n name<2*n+1:=T.home name
  obtain⟨H,hH⟩:∃H,H=hmI row n name:=⟨_,rfl⟩
  rw[<-hH]at hh3
  rw[<-hH]
  have m1:=b5C hpa hh3
  have m2:=b5C hpa hpq
  have tst:=test_iff (N:=2*n+1) (i0:=i0) (q:=q) (a:=a) (x:=H) hp hqa (by have:=G'.ale;omega) hh3
  rw[<-hP,<-hR]at tst
  have nE:a≠E:=fun he=>by
   have:=G'.zero
   rw[<-he,<-hP,hv]at this
   have:=uzA this
   omega
  have hle:=G'.ale
  by_cases ho:onW (dst (2*n+1) i0 H) a q
  ·have b2:decide (((dst (2*n+1) H P:Nat):Int)<((dst (2*n+1) R P:Nat):Int))=false:=dFz (by
    have h1:¬dst (2*n+1) H P<dst (2*n+1) R P:=fun h=>tst.1 h ho
    omega)
   have G2:=G'.move T.home (k:=l) (key:=name) (by rw[<-hP];exact hv) hname (by rw[<-hH];exact ho)
   rw[<-hP,<-hR]at G2
   simp(disch:=omega)only[a1E,a8O,↓b5R,e0,e5,e6,e7,e8,ox3,ot3,m1,m2,b2,hv',a9,a6,ne,ne.symm,D8,H7,C6,len',nx',uzS,↓l9,m9,zA,zB,zC,zD,zE,zF,zG,zH,zI,reduceCtorEq,zJ,zK,zL,zM]
   refine⟨d-1,by omega,a,a+1,_,by omega,G2,of3.trans ((OldF.upd _ _ _ (.inl rfl)).trans (OldF.upd _ _ _ (.inl rfl))),⟨?_,i3.lx,a9 _ _ _,i3.lt,by rw[viz,viz];exact len',ne⟩,S3'.keep (uzP _) fun z hz=>?_,by rw[hP],rfl⟩
   ·rw[a6 _ _ ne,a6 _ _ ne];exact i3.ox
   ·have hz2:z≠tb:=fun e=>htb (e▸hz)
    rw[a6 _ _ hz2,a6 _ _ hz2]
  ·have b2:decide (((dst (2*n+1) H P:Nat):Int)<((dst (2*n+1) R P:Nat):Int))=true:=dTz (by
    have h1:=tst.2 ho
    omega)
   have G2:=G'.stay (k:=l) (key:=name) (by rw[<-hP];exact hv) hname (by rw[<-hH];exact ho)
   simp(disch:=omega)only[a1E,a8O,↓b5R,e0,e5,e6,e7,e8,ox3,ot3,m1,m2,b2,nx',uzS,↓l9,m9,zA,zB,zC,zD,zE,zF,zG,zH,zI,reduceCtorEq,zJ,zK,zL,zM]
   exact⟨d-1,by omega,q,a+1,tab',by omega,G2,of3,i3,S3',by rw[hR],rfl⟩
end
abbrev F1:=Int×Int×Int×Int
abbrev G8:Enc F1:=Enc.pair (Enc.int .i64) (Enc.pair (Enc.int .i64) (Enc.pair (Enc.int .i64) (Enc.int .i64)))
theorem c9p(n:Nat):G0 n [.int .i64 0,.int .i64 0,.int .i64 0,.int .i64 0]=G8.all (vaz n (0,0,0,0)):=by
 induction n with
 |zero=>rfl
 |succ n ih=>rw[List.replicate_succ];show[Value.int .i64 0,.int .i64 0,.int .i64 0,.int .i64 0]++G0 n _=_;rw[ih];rfl
structure PA where
 p:Nat
 st:Nat
 x:Nat
 tb:Nat
 cb:Nat
 A:List Nat
 n:Nat
 row:M7
def PA.own(a:PA):List Nat:=a.p::a.cb::a.x::a.tb::a.A
structure PoolAt(h:Heap)(a:PA)(keys:Nat->Option ByteArray)(fl:List Nat)(tab:List Int)(cells:List F1):Prop where
 op:h.obj a.p=.cells [.pointer (some ⟨a.st,0,none⟩),.pointer (some ⟨a.x,0,none⟩),.slice (some ⟨a.cb,0,none⟩) a.n a.n] 165 .fix
 s:StAt h a.st a.A a.n keys fl
 i:IdxAt h a.x a.tb a.st a.row a.n tab
 oc:h.obj a.cb=.cells (G8.all cells) 250 .grow
 len:cells.length=a.n
 nd:a.own.Nodup
 lt:∀z∈a.own,z<h.next
 hn:1<=a.n/\a.n<=1024
theorem PoolAt.keep{h h' :Heap}{a:PA}{keys:Nat->Option ByteArray}{fl:List Nat}{tab:List Int}{cells:List F1}(P:PoolAt h a keys fl tab cells)(hn:h.next<=h'.next)(ho:∀z∈a.own,h'.obj z=h.obj z):PoolAt h' a keys fl tab cells where
 op:=(ho _ (by simp[PA.own])).trans P.op
 s:=P.s.keep hn fun z hz=>ho z (by simp[PA.own,hz])
 i:=P.i.keep hn (ho _ (by simp[PA.own])) (ho _ (by simp[PA.own]))
 oc:=(ho _ (by simp[PA.own])).trans P.oc
 len:=P.len
 nd:=P.nd
 lt:=fun z hz=>uzN (P.lt z hz) hn
 hn:=P.hn
theorem b6Z(h:Heap)(n:Nat)(hn:1<=n/\n<=1024)(row:M7)
  (hQ:∀h' a,Old h h' ->PoolAt h' a (fun _=>none) (List.range n) (vaz (2*n+1) 0) (vaz n (0,0,0,0))->a.n=n->a.row=row->(∀z∈a.own,h.next<=z)->Q (.pointer (some ⟨a.p,0,none⟩)) h'):
  u9 cp 80 [.int .i64 n,e4A row] h Q:=by
 rw[a8 cp f1d]
 obtain⟨h1,h1d,o1,n1,g1⟩:=K2 h (.cells [.int .u64 row.1,.int .u64 row.2.1,.int .u64 row.2.2] 182 .fix)
 have a1:decide ((n:Int)<1)=false:=dFz (by omega)
 have a2:decide ((n:Int)>1024)=false:=dFz (by omega)
 have z0:¬(n:Int)<0:=by omega
 simp(disch:=omega)only[c80,↓R80,a1,a2,<-h1d,↓l9,m9,zA,zB,zC,zD,zE,zF,zG,zH,zI,reduceCtorEq,zJ,zK,zL,zM]
 refine b5y h1 n (by omega) fun h2 st A o2 s2 hst nd hA=>?_
 have n2:=o2.next
 have g2:=(o2.obj h.next (by omega)).trans g1
 obtain⟨h3,h3d⟩:∃h3,h3=(h2.new (.cells (G8.all (vaz n (0,0,0,0))) 250 .grow)).new (.cells [.pointer (some ⟨st,0,none⟩),.pointer none,.slice (some ⟨h2.next,0,none⟩) n n] 165 .fix):=⟨_,rfl⟩
 have o3:Old h2 h3:=by rw[h3d];exact((Old.refl h2).more _).more _
 have n3:h3.next=h2.next+1+1:=by rw[h3d];rfl
 have gp3:h3.obj (h2.next+1)=.cells [.pointer (some ⟨st,0,none⟩),.pointer none,.slice (some ⟨h2.next,0,none⟩) n n] 165 .fix:=by rw[h3d];exact N4 _ _ _
 have gc3:h3.obj h2.next=.cells (G8.all (vaz n (0,0,0,0))) 250 .grow:=by rw[h3d,f4 _ _ (by simp only[j0];omega)];exact f9 _ _
 have g3:=(o3.obj h.next (by omega)).trans g2
 have s3:=s2.old o3
 simp(disch:=omega)only[c80,↓R80,c9p,y6,<-h3d,gp3,g3,↓l9,m9,zA,zB,zC,zD,zE,zF,zG,zH,zI,reduceCtorEq,zJ,zK,zL,zM]
 refine b0X s3 (by omega) row fun h4 x tb o4 i4 hx ht=>?_
 have gp4:=(o4.obj _ (by omega)).trans gp3
 have n4:=o4.next
 have lx:=i4.lx
 have lt:=i4.lt
 simp(disch:=omega)only[c80,↓R80,gp4,↓l9,m9,zA,zB,zC,zD,zE,zF,zG,zH,zI,reduceCtorEq,zJ,zK,zL,zM]
 have hlt:=s2.lt
 refine hQ _ ⟨h2.next+1,st,x,tb,h2.next,A,n,row⟩ ⟨by rw[r9];omega,fun z hz=>by rw[a6 _ _ (by omega),o4.obj z (by omega),o3.obj z (by omega),o2.obj z (by omega),o1.obj z hz]⟩ ⟨?_,?_,?_,?_,?_,?_,?_,hn⟩ rfl rfl ?_
 ·exact a9 _ _ _
 ·refine(s3.old o4).keep (uzP _) fun z hz=>a6 _ _ (by have:=hlt z hz;omega)
 ·exact i4.keep (uzP _) (a6 _ _ (by omega)) (a6 _ _ (by omega))
 ·show(h4.upd _ _).obj h2.next=_
  rw[a6 _ _ (by omega),o4.obj _ (by omega)];exact gc3
 ·simp
 ·have ne:=i4.ne
  simp only[PA.own,List.nodup_cons,vxz,not_or]
  refine⟨⟨by omega,by omega,by omega,fun hz=>by have:=hlt _ hz;omega⟩,⟨by omega,by omega,fun hz=>by have:=hlt _ hz;omega⟩,⟨ne,fun hz=>by have:=hlt _ hz;omega⟩,fun hz=>by have:=hlt _ hz;omega,nd⟩
 ·intro z hz
  simp only[PA.own,vxz]at hz
  rw[r9]
  rcases hz with rfl|rfl|rfl|rfl|hz
  ·omega
  ·omega
  ·omega
  ·omega
  ·have:=hlt _ hz;omega
 ·intro z hz
  simp only[PA.own,vxz]at hz
  rcases hz with rfl|rfl|rfl|rfl|hz
  ·omega
  ·omega
  ·omega
  ·omega
  ·have:=hA _ hz;omega
def plK(n:Nat)(keys:Nat->Option ByteArray)(key:ByteArray):Option Nat:=(List.range n).find? fun k=>decide (keys k=some key)
theorem F9{n:Nat}{keys:Nat->Option ByteArray}{key:ByteArray}{k:Nat}(h:plK n keys key=some k):k<n/\keys k=some key:=by
 unfold plK at h
 have h1:=List.mem_of_find?_eq_some h
 have h2:=List.find?_some h
 exact⟨List.mem_range.1 h1,of_decide_eq_true h2⟩
theorem a8k{n:Nat}{keys:Nat->Option ByteArray}{key:ByteArray}(h:plK n keys key=none):∀k,k<n->keys k≠some key:=fun k hk he=>by
 unfold plK at h
 exact(List.find?_eq_none.1 h) k (List.mem_range.2 hk) (dTz he)
theorem b6W{n:Nat}{keys:Nat->Option ByteArray}{key:ByteArray}{k:Nat}(hk:k<n)(he:keys k=some key)(hu:∀(k l:Nat) (key:ByteArray),k<n->l<n->keys k=some key->keys l=some key->k=l):plK n keys key=some k:=by
 cases hq:plK n keys key with
 |none=>exact absurd he (a8k hq k hk)
 |some l=>obtain⟨h1,h2⟩:=F9 hq;rw[hu k l key hk h1 he h2]
theorem Looked.pl{N:Nat}{hm:ByteArray->Nat}{n:Nat}{tab:List Int}{keys:Nat->Option ByteArray}(T:TabOK N hm n tab keys){key:ByteArray}{t:Nat}{r:Option Nat}(L:Looked N hm n tab keys key t r):plK n keys key=r:=by
 have h:=L.here
 cases r with
 |none=>
  cases hq:plK n keys key with
  |none=>rfl
  |some l=>obtain⟨h1,h2⟩:=F9 hq;exact absurd h2 (h.2 l h1)
 |some k=>exact b6W h.2.1 h.2.2 T.kinj
theorem TabOK.look'{N:Nat}{hm:ByteArray->Nat}{n:Nat}{tab:List Int}{keys:Nat->Option ByteArray}(T:TabOK N hm n tab keys)(key:ByteArray):∃t,Looked N hm n tab keys key t (plK n keys key):=by
 obtain⟨t,r,L⟩:=T.look key
 exact⟨t,by rw[L.pl T];exact L⟩
structure PV where
 keys:Nat->Option ByteArray
 fl:List Nat
 cells:List F1
structure Pool(h:Heap)(a:PA)(v:PV):Prop where
 at_:∃tab,PoolAt h a v.keys v.fl tab v.cells/\TabOK (2*a.n+1) (hmI a.row a.n) a.n tab v.keys
 row:a.row.OK
theorem Pool.keep{h h' :Heap}{a:PA}{v:PV}(P:Pool h a v)(hn:h.next<=h'.next)(ho:∀z∈a.own,h'.obj z=h.obj z):Pool h' a v:=
 let ⟨tab,p,t⟩:=P.at_;⟨⟨tab,p.keep hn ho,t⟩,P.row⟩
theorem Pool.lt{h:Heap}{a:PA}{v:PV}(P:Pool h a v):∀z∈a.own,z<h.next:=let ⟨_,p,_⟩:=P.at_;p.lt
theorem Pool.old{h h' :Heap}{a:PA}{v:PV}(P:Pool h a v)(o:Old h h'):Pool h' a v:=P.keep o.next fun z hz=>o.obj z (P.lt z hz)
theorem Pool.oldF{F:Nat->Prop}{h h' :Heap}{a:PA}{v:PV}(P:Pool h a v)(o:OldF F h h')(hF:∀z∈a.own,¬F z):Pool h' a v:=P.keep o.next fun z hz=>o.obj z (P.lt z hz) (hF z hz)
structure PV.OK(v:PV)(n:Nat):Prop where
 inj:∀(k l:Nat) (key:ByteArray),k<n->l<n->v.keys k=some key->v.keys l=some key->k=l
 free:∀k,k<n->(k∈v.fl↔v.keys k=none)
 flt:∀k∈v.fl,k<n
 nodup:v.fl.Nodup
 le:v.fl.length<=n
 size:∀k key,k<n->v.keys k=some key->key.size<=64
 len:v.cells.length=n
 hn:1<=n/\n<=1024
theorem Pool.ok{h:Heap}{a:PA}{v:PV}(P:Pool h a v):v.OK a.n:=by
 obtain⟨tab,p,t⟩:=P.at_
 obtain⟨s,_,_,hsn,_,g⟩:=p.s.S
 have hn:=p.hn
 exact⟨t.kinj,fun k hk=>g.free k (by omega),fun k hk=>by have:=g.lt k hk;omega,g.nodup,by have:=g.le;omega,fun k key hk hkey=>(g.held k key (by omega) hkey).2.1,p.len,hn⟩
section
variable {h:Heap} {a:PA} {v:PV}
theorem e1Y(P:Pool h a v)(Q:Value->Heap->Prop):u9 cp 49 [.pointer (some ⟨a.p,0,none⟩)] h Q↔Q (.int .i64 ((a.n:Int)-v.fl.length)) h:=by
 refine v9 ?_ Q
 rw[a8 cp e6D]
 obtain⟨tab,p,t⟩:=P.at_
 have op:=p.op
 have f:=fun Q=>Keys.st_used p.s.S Q
 simp(disch:=omega)only[c49,↓R49,op,f,E5,↓l9,m9,zA,zB,zC,zD,zE,zF,zG,zH,zI,reduceCtorEq,zJ,zK,zL,zM]
theorem b5c(P:Pool h a v)(Q:Value->Heap->Prop):u9 cp 141 [.pointer (some ⟨a.p,0,none⟩)] h Q↔Q (.bool (decide (v.fl=[]))) h:=by
 refine v9 ?_ Q
 rw[a8 cp e5J]
 obtain⟨tab,p,t⟩:=P.at_
 have op:=p.op
 have f:=fun Q=>e1Y P Q
 have e1:((a.n:Int)-v.fl.length==(a.n:Int))=decide (v.fl=[]):=by
  cases hf:v.fl with
  |nil=>simp
  |cons x l=>simp only[uzM,reduceCtorEq,decide_false];rw[beq_eq_false_iff_ne];omega
 simp(disch:=omega)only[e1a,↓e9Q,op,f,e1,E5,↓l9,m9,zA,zB,zC,zD,zE,zF,zG,zH,zI,reduceCtorEq,zJ,zK,zL,zM]
theorem b5b(P:Pool h a v){key:ByteArray}(hs:key.size<=140737488355328)(hQ:∀h',Old h h' ->Q (.pointer ((plK a.n v.keys key).map fun k=>⟨a.cb,k*4,none⟩)) h'):
  u9 cp 139 [.pointer (some ⟨a.p,0,none⟩),.string key] h Q:=by
 rw[a8 cp e5H]
 obtain⟨tab,p,t⟩:=P.at_
 have op:=p.op
 have hn:=p.hn
 obtain⟨tt,L⟩:=t.look' key
 simp(disch:=omega)only[c8c,↓e2S,op,E5,↓l9,m9,zA,zB,zC,zD,zE,zF,zG,zH,zI,reduceCtorEq,zJ,zK,zL,zM]
 refine b2h p.i p.s P.row hn.2 t hs L fun h1 o1=>?_
 have op1:=(o1.obj a.p (P.lt _ (by simp[PA.own]))).trans op
 cases hq:plK a.n v.keys key with
 |none=>
  rw[hq]at hQ
  simp(disch:=omega)only[c8c,↓e2S,plc,c7o,op1,↓l9,m9,zA,zB,zC,zD,zE,zF,zG,zH,zI,reduceCtorEq,zJ,zK,zL,zM]
  exact hQ _ o1
 |some k=>
  rw[hq]at hQ
  have hk:=(F9 hq).1
  have k2:decide ((k:Int)>=0)=true:=dTz (by omega)
  simp(disch:=omega)only[c8c,↓e2S,plc,k2,op1,↓l9,m9,zA,zB,zC,zD,zE,zF,zG,zH,zI,reduceCtorEq,zJ,zK,zL,zM]
  exact hQ _ o1
abbrev d8s(c:F1):Value:=.agg (G8.enc c).toArray
theorem Z5(l:List F1){i:Nat}{c:F1}(h:l[i]? =some c):((G8.all l).drop (i*4)).take 4=G8.enc c:=G8.all_at l i c h
theorem b4o(l:List F1){i:Nat}(c:F1)(h:i<l.length):setAt (G8.all l) (i*4) (G8.enc c)=G8.all (l.set i c):=G8.all_set l i c h
theorem J9(l:List F1):(G8.all l).length=l.length*4:=G8.all_len l
theorem F2(c:F1):G8.enc c=[.int .i64 c.1,.int .i64 c.2.1,.int .i64 c.2.2.1,.int .i64 c.2.2.2]:=rfl
theorem c7r(P:Pool h a v){key:ByteArray}(hs:key.size<=64)(c:F1){k:Nat}{fl:List Nat}(hf:v.fl=k::fl)(hno:plK a.n v.keys key=none)
  (hQ:∀h',OldF (fun z=>z∈a.own) h h' ->Pool h' a ⟨Keys.kset v.keys k (some key),fl,v.cells.set k c⟩->Q (.pointer (some ⟨a.cb,k*4,none⟩)) h'):
  u9 cp 155 [.pointer (some ⟨a.p,0,none⟩),.string key,d8s c] h Q:=by
 rw[a8 cp e5V]
 have hok:=P.ok
 have hkn:k<a.n:=hok.flt k (by rw[hf];exact vyz)
 obtain⟨tab,p,t⟩:=P.at_
 have hn:=p.hn
 obtain⟨tt,L⟩:=t.look' key
 rw[hno]at L
 obtain⟨h1,h1d,o1,n1,g1⟩:=K2 h (.cells (G8.enc c) 250 .fix)
 have p1:=p.keep o1.next fun z hz=>o1.obj z (p.lt z hz)
 have op1:=p1.op
 have s1:=p1.s
 rw[hf]at s1
 have nd:=p.nd
 simp only[PA.own,List.nodup_cons,vxz,not_or]at nd
 obtain⟨⟨d1,d2,d3,d4⟩,⟨d5,d6,d7⟩,⟨d8,d9⟩,d10,d11⟩:=nd
 rw[F2]at h1d
 simp(disch:=omega)only[d1h,↓e4T,F2,<-h1d,op1,E5,↓l9,m9,zA,zB,zC,zD,zE,zF,zG,zH,zI,reduceCtorEq,zJ,zK,zL,zM]
 refine c7j p1.i s1 P.row hn.2 t hs L d9 d10 fun h2 o2 i2 s2 t2=>?_
 have own2:∀z,(z=a.tb\/z∈a.A)->z∈a.own:=fun z hz=>by
  rcases hz with rfl|hz
  ·simp[PA.own]
  ·simp[PA.own,hz]
 have op2:=(o2.obj a.p (by rw[n1];have:=p.lt a.p (by simp[PA.own]);omega) (by rintro(he|he);exact d3 he;exact d4 he)).trans op1
 have oc2:=(o2.obj a.cb (by rw[n1];have:=p.lt a.cb (by simp[PA.own]);omega) (by rintro(he|he);exact d6 he;exact d7 he)).trans p1.oc
 have hlt:=p.lt
 have g2:=(o2.obj h.next (by omega) (by rintro(he|he);have:=hlt a.tb (by simp[PA.own]);omega;have:=hlt h.next (by simp[PA.own,he]);omega)).trans g1
 have k2:decide ((k:Int)<0)=false:=dFz (by omega)
 have len:=p.len
 have cs:=b4o v.cells c (i:=k) (by omega)
 rw[F2]at g2 cs
 simp(disch:=omega)only[d1h,↓e4T,k2,op2,oc2,g2,cs,J9,len,↓l9,m9,zA,zB,zC,zD,zE,zF,zG,zH,zI,reduceCtorEq,zJ,zK,zL,zM]
 have o3:OldF (fun z=>z∈a.own) h (h2.upd a.cb (.cells (G8.all (v.cells.set k c)) 250 .grow)):=
  (o1.f _).trans ((o2.mono own2).trans (OldF.upd _ _ _ (by simp[PA.own])))
 refine hQ _ o3 ⟨⟨_,⟨?_,?_,?_,a9 _ _ _,by rw[viz];exact len,p.nd,fun z hz=>uzN (p.lt z hz) o3.next,hn⟩,t2⟩,P.row⟩
 ·rw[a6 _ _ d1];exact op2
 ·exact s2.keep (uzP _) fun z hz=>a6 _ _ fun e=>d7 (e▸hz)
 ·exact i2.keep (uzP _) (a6 _ _ (Ne.symm d5)) (a6 _ _ (Ne.symm d6))
theorem b7a(P:Pool h a v){key:ByteArray}(hs:key.size<=64){k:Nat}(hk:plK a.n v.keys key=some k){c:F1}(hc:v.cells[k]? =some c)
  (hQ:∀h',OldF (fun z=>z∈a.own) h h' ->Pool h' a ⟨Keys.kset v.keys k none,k::v.fl,v.cells⟩->Q (.tuple #[d8s c,.bool true]) h'):
  u9 cp 153 [.pointer (some ⟨a.p,0,none⟩),.string key] h Q:=by
 rw[a8 cp e5T]
 have hok:=P.ok
 obtain⟨hkn,hkey⟩:=F9 hk
 obtain⟨tab,p,t⟩:=P.at_
 have hn:=p.hn
 obtain⟨tt,L⟩:=t.look' key
 rw[hk]at L
 obtain⟨h1,h1d,o1,n1,g1⟩:=K2 h (.cells (G8.enc (0,0,0,0)) 250 .fix)
 have p1:=p.keep o1.next fun z hz=>o1.obj z (p.lt z hz)
 have op1:=p1.op
 have nd:=p.nd
 simp only[PA.own,List.nodup_cons,vxz,not_or]at nd
 obtain⟨⟨d1,d2,d3,d4⟩,⟨d5,d6,d7⟩,⟨d8,d9⟩,d10,d11⟩:=nd
 rw[F2]at h1d
 simp(disch:=omega)only[d1g,↓e4S,<-h1d,op1,E5,↓l9,m9,zA,zB,zC,zD,zE,zF,zG,zH,zI,reduceCtorEq,zJ,zK,zL,zM]
 refine a7W p1.i p1.s P.row hn.2 t hs L d9 d10 fun h2 tab2 o2 i2 s2 t2=>?_
 have own2:∀z,(z=a.tb\/z∈a.A)->z∈a.own:=fun z hz=>by
  rcases hz with rfl|hz
  ·simp[PA.own]
  ·simp[PA.own,hz]
 have op2:=(o2.obj a.p (by rw[n1];have:=p.lt a.p (by simp[PA.own]);omega) (by rintro(he|he);exact d3 he;exact d4 he)).trans op1
 have oc2:=(o2.obj a.cb (by rw[n1];have:=p.lt a.cb (by simp[PA.own]);omega) (by rintro(he|he);exact d6 he;exact d7 he)).trans p1.oc
 have hlt:=p.lt
 have g2:=(o2.obj h.next (by omega) (by rintro(he|he);have:=hlt a.tb (by simp[PA.own]);omega;have:=hlt h.next (by simp[PA.own,he]);omega)).trans g1
 have k2:decide ((k:Int)<0)=false:=dFz (by omega)
 have len:=p.len
 have cr:=Z5 v.cells hc
 rw[F2]at g2
 rw[F2]at cr
 simp(disch:=omega)only[d1g,↓e4S,k2,op2,oc2,g2,cr,J9,len,setAt,vbz,vez,a9,↓l9,m9,zA,zB,zC,zD,zE,zF,zG,zH,zI,reduceCtorEq,zJ,zK,zL,zM]
 have hx:∀z,z∈a.own->z≠h.next:=fun z hz e=>by have:=hlt z hz;omega
 have o3:=(o1.f _).trans (o2.mono own2)
 have o4:OldF (fun z=>z∈a.own) h (h2.upd h.next (.cells (G8.enc c) 250 .fix)):=⟨o3.next,fun b hb hbo=>by rw[a6 _ _ (by omega)];exact o3.obj b hb hbo⟩
 refine hQ _ o4 ⟨⟨tab2,⟨?_,?_,?_,?_,len,p.nd,fun z hz=>uzN (p.lt z hz) o4.next,hn⟩,t2⟩,P.row⟩
 ·rw[a6 _ _ (hx _ (by simp[PA.own]))];exact op2
 ·exact s2.keep (uzP _) fun z hz=>a6 _ _ (hx z (by simp[PA.own,hz]))
 ·exact i2.keep (uzP _) (a6 _ _ (hx _ (by simp[PA.own]))) (a6 _ _ (hx _ (by simp[PA.own])))
 ·rw[a6 _ _ (hx _ (by simp[PA.own]))];exact oc2
end
end Go.Proofs.YtlakhgibjfmjjaaGreat.Can
namespace Go.Proofs.YtlakhgibjfmjjaaGreat.Can.Cl
open Go
def Small(z:Int):Prop:=0<=z/\z<=2306000000000000000
structure PaceOk(T W B L:Int):Prop where
 t1:1<=T
 t2:T<=256
 w1:1<=W
 w2:W<=256
 b1:1<=B
 bl:B<=L
 l2:L<=32
 unit:W<=T*(L+1-B)
 least:(T-1)*(L+1-B)<W
theorem bt_le{T W B L:Int}(h:PaceOk T W B L):1<=B*T/\B*T<=8192:=by
 obtain⟨t1,t2,w1,w2,b1,bl,l2,_,_⟩:=h
 refine⟨?_,?_⟩
 ·have:=vHz b1 t1 (by omega) (by omega);omega
 ·have:=vHz (show B<=32 by omega) t2 (by omega) (by omega);omega
def base(F T B now:Int):Int:=if 0<F-now then(if B*T<F-now then 0 else(B*T-(F-now)) / T)else B
def room(F S C U T W B L now:Int):Int:=if now<S+W then min (base F T B now) (max (L-(C+U)) 0)else base F T B now
theorem base_range{F T B now W L:Int}(h:PaceOk T W B L):0<=base F T B now/\base F T B now<=B:=by
 have hbt:=bt_le h
 have ht:=h.t1
 have hb:=h.b1
 unfold base
 split
 ·split
  ·omega
  ·refine⟨Int.ediv_nonneg (by omega) (by omega),?_⟩
   have:(B*T-(F-now)) / T<=B*T / T:=Int.ediv_le_ediv (by omega) (by omega)
   rw[Int.mul_ediv_cancel B (by omega)]at this
   exact this
 ·omega
theorem room_range{F S C U T W B L now:Int}(h:PaceOk T W B L):0<=room F S C U T W B L now/\room F S C U T W B L now<=B:=by
 have:= @base_range F T B now W L h
 unfold room
 split<;>omega
theorem base_take{F T B now c W L:Int}(h:PaceOk T W B L)(hc:1<=c)(hle:c<=base F T B now):base (max F now+c*T) T B now=base F T B now-c/\max F now+c*T<=now+B*T:=by
 have ht:=h.t1
 have hbt:=bt_le h
 have hcT:1<=c*T:=by have:=vHz hc ht (by omega) (by omega);omega
 have key:∀a:Int,0<=a->a<=B*T->c<=(B*T-a) / T->c*T<=B*T-a/\(B*T-(a+c*T)) / T=(B*T-a) / T-c:=by
  intro a h0 h1 h2
  have h3:c*T<=B*T-a:=by
   have:=(Int.le_ediv_iff_mul_le (show 0<T by omega)).mp h2
   exact this
  refine⟨h3,?_⟩
  have e:B*T-(a+c*T)=(B*T-a)+(-c)*T:=by rw[Int.neg_mul];omega
  rw[e,Int.add_mul_ediv_right _ _ (by omega)];omega
 by_cases c1:0<F-now
 ·have hb:¬B*T<F-now:=fun hlt=>by
   have:base F T B now=0:=by unfold base;rw[if_pos c1,if_pos hlt]
   omega
  have he:base F T B now=(B*T-(F-now)) / T:=by unfold base;rw[if_pos c1,if_neg hb]
  rw[he]at hle
  obtain⟨k1,k2⟩:=key (F-now) (by omega) (by omega) hle
  rw[he]
  refine⟨?_,by omega⟩
  have hm:max F now=F:=by omega
  unfold base
  rw[hm,if_pos (by omega),if_neg (by omega),<-k2]
  congr 2;omega
 ·have he:base F T B now=B:=by unfold base;rw[if_neg c1]
  rw[he]at hle
  have hdiv:(B*T-0) / T=B:=by rw[Int.sub_zero,Int.mul_ediv_cancel B (by omega)]
  obtain⟨k1,k2⟩:=key 0 (by omega) (by omega) (by rw[hdiv];exact hle)
  rw[he]
  have hm:max F now=now:=by omega
  refine⟨?_,by omega⟩
  unfold base
  rw[hm,if_pos (by omega),if_neg (by omega)]
  rw[hdiv]at k2
  rw[<-k2]
  congr 2;omega
def lag(F T B now c:Int):Int:=max (max F now-(now+(B-c)*T)) 0
def wait(F S C U T W B L now c:Int):Int:=if now<S+W/\L<C+U+c then max (lag F T B now c) (S+W-now)else lag F T B now c
theorem bc_le{T W B L c:Int}(h:PaceOk T W B L)(hc1:1<=c)(hc2:c<=B):0<=(B-c)*T/\(B-c)*T<=8192:=by
 obtain⟨t1,t2,w1,w2,b1,bl,l2,_,_⟩:=h
 refine⟨uzO (by omega) (by omega),?_⟩
 have:=vHz (show B-c<=32 by omega) t2 (by omega) (by omega);omega
end Go.Proofs.YtlakhgibjfmjjaaGreat.Can.Cl
namespace Go.Proofs.YtlakhgibjfmjjaaGreat.Can.Cl
open Go
attribute [local congr] u5 u4 l5 l8 r8 s9 u6 w9 u7
variable {Q : Value → Heap → Prop}
theorem mm_min(x y:Int)(h:Heap):C7 (.minmax false [.int .i64 x,.int .i64 y]) h=some (.int .i64 (min x y),h):=by
 show(some (Value.int .i64 (if y<x then y else x))).map (fun v=>(v,h))=_
 rw[show(if y<x then y else x)=min x y by split<;>omega];rfl
theorem mm_max(x y:Int)(h:Heap):C7 (.minmax true [.int .i64 x,.int .i64 y]) h=some (.int .i64 (max x y),h):=by
 show(some (Value.int .i64 (if y>x then y else x))).map (fun v=>(v,h))=_
 rw[show(if y>x then y else x)=max x y by split<;>omega];rfl
structure OldX(X:Nat)(h h' :Heap):Prop where
 next:h.next<=h'.next
 obj:∀b,b<h.next->b≠X->h'.obj b=h.obj b
theorem Old.x{h h' :Heap}(o:Old h h')(X:Nat):OldX X h h' :=⟨o.next,fun b hb _=>o.obj b hb⟩
theorem OldX.trans{X:Nat}{a b c:Heap}(h:OldX X a b)(k:OldX X b c):OldX X a c:=⟨uzR h.next k.next,fun x hx hn=>by rw[k.obj x (uzN hx h.next) hn,h.obj x hx hn]⟩
theorem OldX.fresh{X:Nat}{a b:Heap}(h:OldX X a b)(hX:a.next<=X):Old a b:=⟨h.next,fun x hx=>h.obj x hx (by omega)⟩
abbrev cellC(F S C U:Int):List Value:=[.int .i64 F,.int .i64 S,.int .i64 C,.int .i64 U]
abbrev paceC(T W B L:Int):List Value:=[.int .i64 T,.int .i64 W,.int .i64 B,.int .i64 L]
abbrev b5m(L W B:Int):List Value:=[.int .i64 L,.int .i64 W,.int .i64 B,.int .i64 0,.int .i64 0,.int .i64 0,.int .i64 0,.int .i64 0,.bool false]
theorem tdiv_in(x T:Int)(ht:1<=T):(0<=x->Int.tdiv x T=x / T)/\(x<0->Int.tdiv x T<=0/\x<=Int.tdiv x T):=by
 refine⟨fun h=>Int.tdiv_eq_ediv_of_nonneg h,fun h=>?_⟩
 have e:Int.tdiv x T= -((-x) / T):=by
  have:x= -(-x):=by omega
  rw[this,Int.neg_tdiv,Int.tdiv_eq_ediv_of_nonneg (by omega)]
  simp
 have h0:0<=(-x) / T:=Int.ediv_nonneg (by omega) (by omega)
 have h1:(-x) / T<= -x:=Int.ediv_le_self T (by omega)
 omega
theorem pace_of{L W B:Int}(w1:1<=W)(w2:W<=256)(b1:1<=B)(bl:B<=L)(l2:L<=32):PaceOk (T3 W (L+1-B)) W B L:=by
 obtain⟨d,hd⟩:∃d,d=L+1-B:=⟨_,rfl⟩
 rw[<-hd]
 have e:=Int.ediv_mul_add_emod W d
 have r0:=Int.emod_nonneg W (show d≠0 by omega)
 have r1:=Int.emod_lt_of_pos W (show 0<d by omega)
 have q0:0<=W / d:=Int.ediv_nonneg (by omega) (by omega)
 have q1:W / d<=W:=Int.ediv_le_self d (by omega)
 unfold T3
 by_cases c:W % d=0
 ·rw[if_pos c]
  have q2:1<=W / d:=by
   rcases Int.lt_or_eq_of_le q0 with h|h
   ·omega
   ·rw[<-h]at e;omega
  refine⟨q2,by omega,w1,w2,b1,bl,l2,?_,?_⟩
  ·rw[<-hd];omega
  ·rw[<-hd,Int.sub_mul];omega
 ·rw[if_neg c]
  have q3:W / d<W\/d=1:=by
   by_cases h1:d=1
   ·exact .inr h1
   ·exact .inl (Int.ediv_lt_self_of_pos_of_ne_one (by omega) h1)
  have q4:W / d+1<=256:=by
   rcases q3 with h|h
   ·omega
   ·subst h;omega
  refine⟨by omega,q4,w1,w2,b1,bl,l2,?_,?_⟩
  ·rw[<-hd,Int.add_mul];omega
  ·rw[<-hd,show W / d+1-1=W / d by omega];omega
theorem cnew_ok(h:Heap)(now c:Int)(hQ:∀h',Old h h' ->Q (.agg (cellC now now c 0).toArray) h'):u9 cp 142 [.int .i64 now,.int .i64 c] h Q:=by
 rw[a8 cp e5K]
 simp(disch:=first|omega| (simp only[j0,r9,ne_eq];omega))only[e1b,↓e9R,↓l9,m9,zA,zB,zC,zD,zE,zF,zG,zH,zI,reduceCtorEq,zJ,zK,zL,zM]
 exact hQ _ ((Old.refl h).put _ _)
section
variable {T W B L F S C U now:Int}
theorem young_ok(h:Heap)(p:PaceOk T W B L)(hS:Small S)(hQ:∀h',Old h h' ->Q (.bool (decide (now<S+W))) h'):
  u9 cp 156 [.agg (cellC F S C U).toArray,.agg (paceC T W B L).toArray,.int .i64 now] h Q:=by
 rw[a8 cp e5W]
 have w1:=p.w1
 have w2:=p.w2
 unfold Small at hS
 have f:=fun h=>P6 h S W (by unfold D5;omega) (by unfold D5;omega)
 rw[S8 (show D5 (S+W) by unfold D5;omega)]at f
 simp(disch:=first|omega| (simp only[j0,r9,ne_eq];omega))only[e1e,↓e9U,f,↓l9,m9,zA,zB,zC,zD,zE,zF,zG,zH,zI,reduceCtorEq,zJ,zK,zL,zM]
 exact hQ _ (((Old.refl h).more _).more _)
theorem room_ok(h:Heap)(p:PaceOk T W B L)(hF:Small F)(hS:Small S)(hC:Small C)(hU:Small U)(hn:Small now)(hQ:∀h',Old h h' ->Q (.int .i64 (room F S C U T W B L now)) h'):
  u9 cp 134 [.agg (cellC F S C U).toArray,.agg (paceC T W B L).toArray,.int .i64 now] h Q:=by
 rw[a8 cp e5C]
 have bt:=bt_le p
 have t1:=p.t1
 have t2:=p.t2
 have b1:=p.b1
 have bl:=p.bl
 have l2:=p.l2
 have br:= @base_range F T B now W L p
 have rr:= @room_range F S C U T W B L now p
 have hF' :=hF
 have hC' :=hC
 have hU' :=hU
 have hn' :=hn
 unfold Small at hF' hC' hU' hn'
 have nT:(T=0)=False:=by simp;omega
 have f:=fun h=>P6 h C U (by unfold D5;omega) (by unfold D5;omega)
 rw[S8 (show D5 (C+U) by unfold D5;omega)]at f
 have o1:Old h ((h.new (.cells (cellC F S C U) 250 .fix)).new (.cells (paceC T W B L) 126 .fix)):=((Old.refl h).more _).more _
 have g1:((h.new (.cells (cellC F S C U) 250 .fix)).new (.cells (paceC T W B L) 126 .fix)).obj h.next=.cells (cellC F S C U) 250 .fix:=by rw[f4 _ _ (by simp only[j0];omega)];exact f9 _ _
 have g2:((h.new (.cells (cellC F S C U) 250 .fix)).new (.cells (paceC T W B L) 126 .fix)).obj (h.next+1)=.cells (paceC T W B L) 126 .fix:=f9 _ _
 have n1:((h.new (.cells (cellC F S C U) 250 .fix)).new (.cells (paceC T W B L) 126 .fix)).next=h.next+1+1:=rfl
 have tail:∀(e:a7) (b:Int) (hh:Heap),Old h hh->hh.obj h.next=.cells (cellC F S C U) 250 .fix->hh.obj (h.next+1)=.cells (paceC T W B L) 126 .fix->h.next+1<hh.next->b=base F T B now->
   e 2=.int .i64 now->e 3=.pointer (some ⟨h.next,0,none⟩)->e 4=.pointer (some ⟨h.next+1,0,none⟩)->e 7=.int .i64 b->
   u9 cp 156 [.agg #[.int .i64 F,.int .i64 S,.int .i64 C,.int .i64 U],.agg #[.int .i64 T,.int .i64 W,.int .i64 B,.int .i64 L],.int .i64 now] hh
    (a0G cp (fun t38=>Reg.done (e.upd 38 t38)) (a1X cp (.cond (fun e=>e 38) (.region b1D) .skip) (a1X cp (.seq (.region b1E) .ret) (a1t [.t 6] Q)))):=by
  intro e b hh o g1 g2 n1 hb e2 e3 e4 e7
  refine young_ok hh p hS fun h3 o3=>?_
  have g3:=(o3.obj h.next (by omega)).trans g1
  have g4:=(o3.obj (h.next+1) n1).trans g2
  by_cases y:now<S+W
  ·have a1:=dTz y
   have re:room F S C U T W B L now=min b (max (L-(C+U)) 0):=by unfold room;rw[if_pos y,hb]
   rw[re]at hQ rr
   simp(disch:=first|omega| (simp only[j0,r9,ne_eq];omega))only[b3y,↓c9Z,e2,e3,e4,e7,g3,g4,a1,f,↓mm_max,↓mm_min,↓l9,m9,zA,zB,zC,zD,zE,zF,zG,zH,zI,reduceCtorEq,zJ,zK,zL,zM]
   exact hQ _ (o.trans o3)
  ·have a1:=dFz y
   have re:room F S C U T W B L now=b:=by unfold room;rw[if_neg y,hb]
   rw[re]at hQ
   simp(disch:=first|omega| (simp only[j0,r9,ne_eq];omega))only[b3y,↓c9Z,e2,e3,e4,e7,g3,g4,a1,↓l9,m9,zA,zB,zC,zD,zE,zF,zG,zH,zI,reduceCtorEq,zJ,zK,zL,zM]
   exact hQ _ (o.trans o3)
 by_cases c1:F-now>0
 ·have a1:=dTz c1
  have td:=tdiv_in (B*T-(F-now)) T t1
  obtain⟨q,hq⟩:∃q,q=Int.tdiv (B*T-(F-now)) T:=⟨_,rfl⟩
  rw[<-hq]at td
  have qd:0<=B*T-(F-now)->(B*T-(F-now)) / T<=B*T-(F-now)/\0<=(B*T-(F-now)) / T:=fun h=>⟨Int.ediv_le_self T h,Int.ediv_nonneg h (by omega)⟩
  have qi: -9000000000000000000<=q/\q<=9000000000000000000:=by
   by_cases z:0<=B*T-(F-now)
   ·have:=qd z;rw[td.1 z];omega
   ·have:=td.2 (by omega);omega
  by_cases c2:B*T<F-now
  ·have a2:=dTz c2
   simp(disch:=first|omega| (simp only[j0,r9,ne_eq];omega))only[b3y,↓c9Z,a1,a2,nT,<-hq,↓mm_max,↓l9,m9,zA,zB,zC,zD,zE,zF,zG,zH,zI,reduceCtorEq,zJ,zK,zL,zM]
   refine tail _ 0 _ o1 g1 g2 (by omega) ?_ rfl rfl rfl rfl
   unfold base;rw[if_pos (by omega),if_pos c2]
  ·have a2:=dFz c2
   simp(disch:=first|omega| (simp only[j0,r9,ne_eq];omega))only[b3y,↓c9Z,a1,a2,nT,<-hq,↓mm_max,↓l9,m9,zA,zB,zC,zD,zE,zF,zG,zH,zI,reduceCtorEq,zJ,zK,zL,zM]
   refine tail _ (max q 0) _ o1 g1 g2 (by omega) ?_ rfl rfl rfl rfl
   unfold base;rw[if_pos (by omega),if_neg c2]
   have:=qd (by omega);rw[td.1 (by omega)];omega
 ·have a1:=dFz c1
  simp(disch:=first|omega| (simp only[j0,r9,ne_eq];omega))only[b3y,↓c9Z,a1,nT,↓l9,m9,zA,zB,zC,zD,zE,zF,zG,zH,zI,reduceCtorEq,zJ,zK,zL,zM]
  refine tail _ B _ o1 g1 g2 (by omega) ?_ rfl rfl rfl rfl
  unfold base;rw[if_neg (by omega)]
theorem cwait_ok(h:Heap)(p:PaceOk T W B L)(hF:Small F)(hS:Small S)(hC:Small C)(hU:Small U)(hn:Small now){c:Int}(hc1:1<=c)(hc2:c<=B)(hQ:∀h',Old h h' ->Q (.int .i64 (wait F S C U T W B L now c)) h'):
  u9 cp 133 [.agg (cellC F S C U).toArray,.agg (paceC T W B L).toArray,.int .i64 now,.int .i64 c] h Q:=by
 rw[a8 cp e5B]
 have bc:=bc_le p hc1 hc2
 have w1:=p.w1
 have w2:=p.w2
 have bl:=p.bl
 have l2:=p.l2
 have hF' :=hF
 have hS' :=hS
 have hC' :=hC
 have hU' :=hU
 have hn' :=hn
 unfold Small at hF' hS' hC' hU' hn'
 have f1:=fun h=>P6 h C U (by unfold D5;omega) (by unfold D5;omega)
 rw[S8 (show D5 (C+U) by unfold D5;omega)]at f1
 have f2:=fun h=>P6 h (C+U) c (by unfold D5;omega) (by unfold D5;omega)
 rw[S8 (show D5 (C+U+c) by unfold D5;omega)]at f2
 have el:lag F T B now c=max (max F now-(now+(B-c)*T)) 0:=rfl
 simp(disch:=first|omega| (simp only[j0,r9,ne_eq];omega))only[b6d,↓e0J,↓mm_max,↓l9,m9,zA,zB,zC,zD,zE,zF,zG,zH,zI,reduceCtorEq,zJ,zK,zL,zM]
 refine young_ok _ p hS fun h3 o3=>?_
 have g1:=(o3.obj h.next (by simp only[j0];omega)).trans ((f4 _ _ (by simp only[j0];omega)).trans (f9 _ _))
 have g2:=(o3.obj (h.next+1) (by simp only[j0];omega)).trans (f9 _ _)
 have q1:((h.new (.cells (cellC F S C U) 250 .fix)).new (.cells (paceC T W B L) 126 .fix)).obj h.next=.cells (cellC F S C U) 250 .fix:=(f4 _ _ (by simp only[j0];omega)).trans (f9 _ _)
 have q2:((h.new (.cells (cellC F S C U) 250 .fix)).new (.cells (paceC T W B L) 126 .fix)).obj (h.next+1)=.cells (paceC T W B L) 126 .fix:=f9 _ _
 have o3:=(((Old.refl h).more _).more _).trans o3
 by_cases y:now<S+W
 ·have a1:=dTz y
  by_cases q:C+U+c>L
  ·have a2:=dTz q
   have e:wait F S C U T W B L now c=max (max (max F now-(now+(B-c)*T)) 0) (S+W-now):=by unfold wait;rw[if_pos ⟨y,q⟩,el]
   rw[e]at hQ
   simp(disch:=first|omega| (simp only[j0,r9,ne_eq];omega))only[b6d,↓e0J,g1,g2,q1,q2,a1,a2,f1,f2,↓mm_max,↓l9,m9,zA,zB,zC,zD,zE,zF,zG,zH,zI,reduceCtorEq,zJ,zK,zL,zM]
   exact hQ _ o3
  ·have a2:=dFz q
   have e:wait F S C U T W B L now c=max (max F now-(now+(B-c)*T)) 0:=by unfold wait;rw[if_neg (fun k=>q k.2),el]
   rw[e]at hQ
   simp(disch:=first|omega| (simp only[j0,r9,ne_eq];omega))only[b6d,↓e0J,g1,g2,q1,q2,a1,a2,f1,f2,↓mm_max,↓l9,m9,zA,zB,zC,zD,zE,zF,zG,zH,zI,reduceCtorEq,zJ,zK,zL,zM]
   exact hQ _ o3
 ·have a1:=dFz y
  have e:wait F S C U T W B L now c=max (max F now-(now+(B-c)*T)) 0:=by unfold wait;rw[if_neg (fun k=>y k.1),el]
  rw[e]at hQ
  simp(disch:=first|omega| (simp only[j0,r9,ne_eq];omega))only[b6d,↓e0J,g1,g2,q1,q2,a1,↓mm_max,↓l9,m9,zA,zB,zC,zD,zE,zF,zG,zH,zI,reduceCtorEq,zJ,zK,zL,zM]
  exact hQ _ o3
end
def bdN(F S U T W L now:Int):Int:=if now<S+W then min U L else min (max (Int.tdiv (F-(now-W)) T) 0) L
section
variable {T W B L F S C U now:Int}
theorem bound_ok(h:Heap)(p:PaceOk T W B L)(hF:Small F)(hS:Small S)(hU:Small U)(hn:Small now)(hQ:∀h',Old h h' ->Q (.int .i64 (bdN F S U T W L now)) h'):
  u9 cp 154 [.agg (cellC F S C U).toArray,.agg (paceC T W B L).toArray,.int .i64 now] h Q:=by
 rw[a8 cp e5U]
 have w1:=p.w1
 have w2:=p.w2
 have nT:(T=0)=False:=by simp;have:=p.t1;omega
 have td:=tdiv_in (F-(now-W)) T p.t1
 obtain⟨q,hq⟩:∃q,q=Int.tdiv (F-(now-W)) T:=⟨_,rfl⟩
 rw[<-hq]at td
 unfold Small at hF hU hn
 have qi: -9000000000000000000<=q/\q<=9000000000000000000:=by
  by_cases z:0<=F-(now-W)
  ·have h1:=Int.ediv_le_self T z
   have h2:=Int.ediv_nonneg z (show 0<=T by have:=p.t1;omega)
   rw[td.1 z];omega
  ·have:=td.2 (by omega);omega
 simp(disch:=first|omega| (simp only[j0,r9,ne_eq];omega))only[c8e,↓e2U,↓l9,m9,zA,zB,zC,zD,zE,zF,zG,zH,zI,reduceCtorEq,zJ,zK,zL,zM]
 refine young_ok _ p hS fun h3 o3=>?_
 have g1:=(o3.obj h.next (by simp only[j0];omega)).trans ((f4 _ _ (by simp only[j0];omega)).trans (f9 _ _))
 have g2:=(o3.obj (h.next+1) (by simp only[j0];omega)).trans (f9 _ _)
 have o3:=(((Old.refl h).more _).more _).trans o3
 unfold bdN at hQ
 rw[<-hq]at hQ
 by_cases y:now<S+W
 ·have a1:=dTz y
  rw[if_pos y]at hQ
  simp(disch:=first|omega| (simp only[j0,r9,ne_eq];omega))only[c8e,↓e2U,g1,g2,a1,↓mm_min,↓l9,m9,zA,zB,zC,zD,zE,zF,zG,zH,zI,reduceCtorEq,zJ,zK,zL,zM]
  exact hQ _ o3
 ·have a1:=dFz y
  rw[if_neg y]at hQ
  simp(disch:=first|omega| (simp only[j0,r9,ne_eq];omega))only[c8e,↓e2U,g1,g2,a1,nT,<-hq,↓mm_min,↓mm_max,↓l9,m9,zA,zB,zC,zD,zE,zF,zG,zH,zI,reduceCtorEq,zJ,zK,zL,zM]
  exact hQ _ o3
theorem idle_ok(h:Heap)(p:PaceOk T W B L)(hS:Small S)(hn:Small now)(hQ:∀h',Old h h' ->Q (.bool (decide (¬now<S+W/\F<=now-W))) h'):
  u9 cp 163 [.agg (cellC F S C U).toArray,.agg (paceC T W B L).toArray,.int .i64 now] h Q:=by
 rw[a8 cp e6d]
 have w1:=p.w1
 have w2:=p.w2
 unfold Small at hn
 simp(disch:=first|omega| (simp only[j0,r9,ne_eq];omega))only[c163,↓e0L,↓l9,m9,zA,zB,zC,zD,zE,zF,zG,zH,zI,reduceCtorEq,zJ,zK,zL,zM]
 refine young_ok _ p hS fun h3 o3=>?_
 have g1:=(o3.obj h.next (by simp only[j0];omega)).trans ((f4 _ _ (by simp only[j0];omega)).trans (f9 _ _))
 have g2:=(o3.obj (h.next+1) (by simp only[j0];omega)).trans (f9 _ _)
 have o3:=(((Old.refl h).more _).more _).trans o3
 by_cases y:now<S+W
 ·have a1:=dTz y
  rw[dFz (fun k=>k.1 y)]at hQ
  simp(disch:=first|omega| (simp only[j0,r9,ne_eq];omega))only[c163,↓e0L,g1,g2,a1,↓l9,m9,zA,zB,zC,zD,zE,zF,zG,zH,zI,reduceCtorEq,zJ,zK,zL,zM]
  exact hQ _ o3
 ·have a1:=dFz y
  by_cases z:F<=now-W
  ·have a2:=dTz z
   rw[dTz ⟨y,z⟩]at hQ
   simp(disch:=first|omega| (simp only[j0,r9,ne_eq];omega))only[c163,↓e0L,g1,g2,a1,a2,↓l9,m9,zA,zB,zC,zD,zE,zF,zG,zH,zI,reduceCtorEq,zJ,zK,zL,zM]
   exact hQ _ o3
  ·have a2:=dFz z
   rw[dFz (fun k=>z k.2)]at hQ
   simp(disch:=first|omega| (simp only[j0,r9,ne_eq];omega))only[c163,↓e0L,g1,g2,a1,a2,↓l9,m9,zA,zB,zC,zD,zE,zF,zG,zH,zI,reduceCtorEq,zJ,zK,zL,zM]
   exact hQ _ o3
end
end Go.Proofs.YtlakhgibjfmjjaaGreat.Can.Cl
namespace Go.Proofs.YtlakhgibjfmjjaaGreat.Can
open Go
attribute [local congr] u5 u4 l5 l8 r8 s9 u6 w9 u7
variable {Q : Value → Heap → Prop}
theorem b7B(l:List F1){k:Nat}{c:F1}(h:l[k]? =some c):(G8.all l)[k*4]? =some (.int .i64 c.1)/\(G8.all l)[k*4+1]? =some (.int .i64 c.2.1)/\(G8.all l)[k*4+2]? =some (.int .i64 c.2.2.1)/\(G8.all l)[k*4+3]? =some (.int .i64 c.2.2.2):=by
 have h4:=Z5 l h
 rw[F2]at h4
 have g:∀j,j<4->(G8.all l)[k*4+j]? =[Value.int .i64 c.1,.int .i64 c.2.1,.int .i64 c.2.2.1,.int .i64 c.2.2.2][j]? :=fun j hj=>by
  rw[<-h4,voz,if_pos hj,vEz]
 exact⟨g 0 (by omega),g 1 (by omega),g 2 (by omega),g 3 (by omega)⟩
theorem d0l(l:List F1){k:Nat}{F S C U F' U' :Int}(h:l[k]? =some (F,S,C,U)):((G8.all l).set (k*4) (.int .i64 F')).set (k*4+3) (.int .i64 U')=G8.all (l.set k (F',S,C,U')):=by
 have hk:=(List.getElem?_eq_some_iff.1 h).1
 rw[<-b4o l (F',S,C,U') hk,F2]
 obtain⟨_,g1,g2,_⟩:=b7B l h
 have e1:((G8.all l).set (k*4) (.int .i64 F')).set (k*4+1) (.int .i64 S)=(G8.all l).set (k*4) (.int .i64 F'):=by
  apply List.ext_getElem?
  intro j
  rw[List.getElem?_set]
  split
  ·rename_i hj;subst hj;rw[uzI (by omega),g1];rw[if_pos];rw[viz];exact(List.getElem?_eq_some_iff.1 g1).1
  ·rfl
 have e2:((G8.all l).set (k*4) (.int .i64 F')).set (k*4+2) (.int .i64 C)=(G8.all l).set (k*4) (.int .i64 F'):=by
  apply List.ext_getElem?
  intro j
  rw[List.getElem?_set]
  split
  ·rename_i hj;subst hj;rw[uzI (by omega),g2];rw[if_pos];rw[viz];exact(List.getElem?_eq_some_iff.1 g2).1
  ·rfl
 simp only[setAt]
 rw[show k*4+1+1=k*4+2 from rfl,show k*4+2+1=k*4+3 from rfl,e1,e2]
open Cl
section
variable {h:Heap} {a:PA} {v:PV} {T W B L F S C U now:Int}
theorem d9L(P:Pool h a v){k:Nat}(hk:v.cells[k]? =some (F,S,C,U))(p:PaceOk T W B L)(hF:Small F)(hS:Small S)(hC:Small C)(hU:Small U)(hn:Small now)(c:Int)(hc1:1<=c)(hc:¬c<=room F S C U T W B L now)(hQ:∀h',Old h h' ->Q (.bool false) h'):
  u9 cp 132 [.pointer (some ⟨a.cb,k*4,none⟩),.agg (paceC T W B L).toArray,.int .i64 now,.int .i64 c] h Q:=by
 rw[a8 cp e2u]
 obtain⟨tab,p0,t⟩:=P.at_
 have oc:=p0.oc
 have lt:=p0.lt a.cb (by simp[PA.own])
 have xn:a.cb≠h.next:=by omega
 have cr:=Z5 v.cells hk
 rw[F2]at cr
 have len:=p0.len
 have hkl:=(List.getElem?_eq_some_iff.1 hk).1
 have a1:decide (c<1)=false:=dFz (by omega)
 have a2:decide (c>room F S C U T W B L now)=true:=dTz (by omega)
 simp(disch:=first|omega| (simp only[j0,r9,ne_eq];omega))only[b6c,↓e0I,a1,oc,cr,J9,↓l9,m9,zA,zB,zC,zD,zE,zF,zG,zH,zI,reduceCtorEq,zJ,zK,zL,zM]
 refine Cl.room_ok _ p hF hS hC hU hn fun h1 o1=>?_
 simp(disch:=first|omega| (simp only[j0,r9,ne_eq];omega))only[b6c,↓e0I,a1,a2,oc,↓l9,m9,zA,zB,zC,zD,zE,zF,zG,zH,zI,reduceCtorEq,zJ,zK,zL,zM]
 exact hQ _ (((Old.refl h).more _).trans o1)
theorem c9m(P:Pool h a v){k:Nat}(hk:v.cells[k]? =some (F,S,C,U))(p:PaceOk T W B L)(hF:Small F)(hS:Small S)(hC:Small C)(hU:Small U)(hn:Small now)(c:Int)(hc1:1<=c)(hc:c<=room F S C U T W B L now)
  (hQ:∀h',OldF (fun z=>z∈a.own) h h' ->Pool h' a { v with cells:=v.cells.set k (max F now+c*T,S,C,U+c) }->Q (.bool true) h'):
  u9 cp 132 [.pointer (some ⟨a.cb,k*4,none⟩),.agg (paceC T W B L).toArray,.int .i64 now,.int .i64 c] h Q:=by
 rw[a8 cp e2u]
 obtain⟨tab,p0,t⟩:=P.at_
 have oc:=p0.oc
 have lt:=p0.lt a.cb (by simp[PA.own])
 have xn:a.cb≠h.next:=by omega
 have cr:=Z5 v.cells hk
 rw[F2]at cr
 have len:=p0.len
 have hkl:=(List.getElem?_eq_some_iff.1 hk).1
 obtain⟨w0,w1,w2,w3⟩:=b7B v.cells hk
 have rr:= @room_range F S C U T W B L now p
 have bl:=p.bl
 have l2:=p.l2
 have t1:=p.t1
 have cT:0<=c*T/\c*T<=32*256:=⟨uzO (by omega) (by omega),vHz (by omega) p.t2 (by omega) (by omega)⟩
 have a1:decide (c<1)=false:=dFz (by omega)
 have a2:decide (c>room F S C U T W B L now)=false:=dFz (by omega)
 simp(disch:=first|omega| (simp only[j0,r9,ne_eq];omega))only[b6c,↓e0I,a1,oc,cr,J9,↓l9,m9,zA,zB,zC,zD,zE,zF,zG,zH,zI,reduceCtorEq,zJ,zK,zL,zM]
 refine Cl.room_ok _ p hF hS hC hU hn fun h1 o1=>?_
 have g1:=(o1.obj a.cb (by simp only[j0];omega)).trans ((f4 _ _ xn).trans oc)
 have g2:=(o1.obj h.next (vpz _)).trans (f9 _ _)
 have n1:=o1.next
 simp only[j0]at n1
 have hF' :=hF
 have hU' :=hU
 have hn' :=hn
 unfold Small at hF' hU' hn'
 have f:=fun h=>P6 h U c (by unfold D5;omega) (by unfold D5;omega)
 rw[S8 (show D5 (U+c) by unfold D5;omega)]at f
 have w3' :((G8.all v.cells).set (k*4) (.int .i64 (max F now+c*T)))[k*4+3]? =some (.int .i64 U):=by rw[uzI (by omega)];exact w3
 have es:=d0l v.cells (F' :=max F now+c*T) (U' :=U+c) hk
 simp(disch:=first|omega| (simp only[j0,r9,ne_eq];omega))only[b6c,↓e0I,a1,a2,g1,g2,f,w0,w3,w3',J9,viz,D8,vsz,Nat.add_zero,↓mm_max,E5,↓l9,m9,zA,zB,zC,zD,zE,zF,zG,zH,zI,reduceCtorEq,zJ,zK,zL,zM]
 rw[es]
 have nd:=p0.nd
 simp only[PA.own,List.nodup_cons,vxz,not_or]at nd
 obtain⟨⟨d1,d2,d3,d4⟩,⟨d5,d6,d7⟩,_⟩:=nd
 have oA:Old h h1:=((Old.refl h).more _).trans o1
 have p1:=p0.keep oA.next fun z hz=>oA.obj z (p0.lt z hz)
 refine hQ _ ((oA.f _).trans ((OldF.upd _ _ _ (by simp[PA.own])).trans (OldF.upd _ _ _ (by simp[PA.own])))) ⟨⟨tab,⟨?_,?_,?_,a9 _ _ _,by rw[viz];exact len,p0.nd,p1.lt,p0.hn⟩,t⟩,P.row⟩
 ·rw[a6 _ _ d1,a6 _ _ d1];exact p1.op
 ·refine p1.s.keep (uzP _) fun z hz=>?_
  have hz2:z≠a.cb:=fun e=>d7 (e▸hz)
  rw[a6 _ _ hz2,a6 _ _ hz2]
 ·refine p1.i.keep (uzP _) ?_ ?_
  ·rw[a6 _ _ (Ne.symm d5),a6 _ _ (Ne.symm d5)]
  ·rw[a6 _ _ (Ne.symm d6),a6 _ _ (Ne.symm d6)]
end
end Go.Proofs.YtlakhgibjfmjjaaGreat.Can
namespace Go.Proofs.YtlakhgibjfmjjaaGreat.Can
open Go
def Lim{α:Type}(x:Option α)(xs:Nat->Option α):Prop:=∀r,x=some r->∃n,xs n=some r
def c9V(c:z8)(cn:Nat->z8):Prop:=∀t a h,Lim (c t a h) fun n=>cn n t a h
def e4J(cn:Nat->z8):Prop:=∀n m,n<=m->LeC (cn n) (cn m)
def b7w(y:YF)(ys:Nat->YF):Prop:=∀a h,Lim (y a h) fun n=>ys n a h
def b7x(ys:Nat->YF):Prop:=∀n m,n<=m->c7G (ys n) (ys m)
def e2P(cy:Nat->YF->z8)(cyn:Nat->Nat->YF->z8):Prop:=∀b y ys,b7x ys->b7w y ys->c9V (cy b y) fun n=>cyn n b (ys n)
def e9M(cyn:Nat->Nat->YF->z8):Prop:=∀n m,n<=m->LeY (cyn n) (cyn m)
theorem b4G{c:z8}{cn:Nat->z8}(hc:c9V c cn)(o:COp)(h:Heap):Lim (I0 c o h) fun n=>I0 (cn n) o h:=by
 intro r hr
 unfold I0 at hr ⊢
 split at hr
 ·exact hc _ _ _ _ hr
 ·exact hc _ _ _ _ hr
 ·exact hc _ _ _ _ hr
 ·exact⟨0,hr⟩
theorem e1N{c:z8}{cn:Nat->z8}(hm:e4J cn)(hc:c9V c cn)(l:Reg):∀h,Lim (M2 c l h) fun n=>M2 (cn n) l h:=by
 induction l with
 |done e=>intro h r hr;exact⟨0,hr⟩
 |op o k ih=>
  intro h r hr
  simp only[M2]at hr ⊢
  cases hx:I0 c o h with
  |none=>rw[hx]at hr;exact absurd hr (by simp)
  |some y=>
   rw[hx]at hr
   obtain⟨n,hn⟩:=b4G hc o h _ hx
   obtain⟨m,hm2⟩:=ih _ _ _ hr
   exact⟨max n m,by rw[a1H (hm n _ (Nat.le_max_left n m)) _ _ _ hn];exact a1k (hm m _ (Nat.le_max_right n m)) _ _ _ hm2⟩
 |opg g w o k ih=>
  intro h r hr
  simp only[M2]at hr ⊢
  cases hw:U3 g w with
  |none=>rw[hw]at hr;exact absurd hr (by simp)
  |some b=>
   rw[hw]at hr
   cases b with
   |true=>
    simp only at hr ⊢
    cases hx:I0 c o h with
    |none=>rw[hx]at hr;exact absurd hr (by simp)
    |some y=>
     rw[hx]at hr
     obtain⟨n,hn⟩:=b4G hc o h _ hx
     obtain⟨m,hm2⟩:=ih _ _ _ hr
     exact⟨max n m,by rw[a1H (hm n _ (Nat.le_max_left n m)) _ _ _ hn];exact a1k (hm m _ (Nat.le_max_right n m)) _ _ _ hm2⟩
   |false=>exact ih _ _ _ hr
 |snap k ih=>intro h r hr;simp only[M2]at hr ⊢;exact ih _ _ _ hr
 |chk g hj o v k ih=>
  intro h r hr
  simp only[M2]at hr ⊢
  split at hr
  ·rename_i hx
   obtain⟨n,hn⟩:=ih _ _ hr
   exact⟨n,by rw[if_pos hx];exact hn⟩
  ·exact absurd hr (by simp)
abbrev a5z:=a7->Heap->Option (X×a7×Heap)
def e0G(f:a5z)(fs:Nat->a5z):Prop:=∀e h,Lim (f e h) fun n=>fs n e h
def e2Q(fs:Nat->a5z):Prop:=∀n m,n<=m->∀e h,LeO (fs n e h) (fs m e h)
theorem d9q{f:a5z}{fs:Nat->a5z}(hm:e2Q fs)(hf:e0G f fs):∀N e h,Lim (Y2 f N e h) fun n=>Y2 (fs n) N e h:=by
 intro N
 induction N with
 |zero=>intro e h r hr;exact absurd hr (by simp[Y2])
 |succ N ih=>
  intro e h r hr
  simp only[Y2]at hr ⊢
  cases hx:f e h with
  |none=>rw[hx]at hr;exact absurd hr (by simp)
  |some y=>
   rw[hx]at hr
   obtain⟨n,hn⟩:=hf _ _ _ hx
   obtain⟨x,e',h'⟩:=y
   cases x with
   |normal=>
    obtain⟨m,hm2⟩:=ih _ _ _ hr
    exact⟨max n m,by rw[hm n _ (Nat.le_max_left n m) _ _ _ hn];exact a0n (hm m _ (Nat.le_max_right n m)) N N (uzP _) _ _ _ hm2⟩
   |exit i=>exact⟨n,by(try dsimp only at hn ⊢);rw[hn];exact hr⟩
   |ret=>exact⟨n,by(try dsimp only at hn ⊢);rw[hn];exact hr⟩
theorem b7f{fa fb:a5z}{fas fbs:Nat->a5z}(hma:e2Q fas)(hmb:e2Q fbs)(ha:e0G fa fas)(hb:e0G fb fbs)(b:Nat)(ps:List Nat)(e1:a7):b7w (M0 fa fb b ps e1) fun n=>M0 (fas n) (fbs n) b ps e1:=by
 intro a h r hr
 unfold M0 at hr ⊢
 split at hr
 ·rename_i hc
  split at hr
  ·rename_i e2 h2 hx
   split at hr
   ·rename_i hq
    split at hr
    ·rename_i x e3 h3 hy
     obtain⟨n,hn⟩:=ha _ _ _ hx
     obtain⟨m,hm⟩:=hb _ _ _ hy
     exact⟨max n m,by dsimp only;rw[if_pos hc,hma n _ (Nat.le_max_left n m) _ _ _ hn];simp only;rw[if_pos hq,hmb m _ (Nat.le_max_right n m) _ _ _ hm];exact hr⟩
    ·simp at hr
   ·simp at hr
  ·simp at hr
 ·simp at hr
theorem c8R{cy:Nat->YF->z8}{cyn:Nat->Nat->YF->z8}(hc:e2P cy cyn){y:YF}{ys:Nat->YF}(hm:b7x ys)(hy:b7w y ys)(b:Nat)(g:Value)(h:Heap):Lim (Z6 cy y b g h) fun n=>Z6 (cyn n) (ys n) b g h:=by
 intro r hr
 unfold Z6 at hr ⊢
 split at hr
 ·exact hc _ _ _ hm hy _ _ _ _ hr
 ·simp at hr
theorem e1K{c:z8}{cn:Nat->z8}(hm:e4J cn)(hc:c9V c cn){cy:Nat->YF->z8}{cyn:Nat->Nat->YF->z8}(hmy:e9M cyn)(hcy:e2P cy cyn)(N:Nat)(x:CC):
  e0G (D3 c cy N x) fun n=>D3 (cn n) (cyn n) N x:=by
 have mon:∀x n m,n<=m->∀e h,LeO (D3 (cn n) (cyn n) N x e h) (D3 (cn m) (cyn m) N x e h):=fun x n m h e hh=>a2W (hm n m h) (hmy n m h) (uzP N) x e hh
 induction x with
 |skip=>intro e h r hr;exact⟨0,hr⟩
 |region ops=>
  intro e h r hr
  simp only[D3,uzD]at hr ⊢
  obtain⟨a,ha,rfl⟩:=hr
  obtain⟨n,hn⟩:=e1N hm hc _ _ _ ha
  exact⟨n,a,hn,rfl⟩
 |seq a b iha ihb=>
  intro e h r hr
  simp only[D3]at hr ⊢
  cases hx:D3 c cy N a e h with
  |none=>rw[hx]at hr;exact absurd hr (by simp)
  |some y=>
   rw[hx]at hr
   obtain⟨n,hn⟩:=iha _ _ _ hx
   obtain⟨x,e',h'⟩:=y
   cases x with
   |normal=>
    obtain⟨m,hm2⟩:=ihb _ _ _ hr
    exact⟨max n m,by rw[mon a n _ (Nat.le_max_left n m) _ _ _ hn];exact mon b m _ (Nat.le_max_right n m) _ _ _ hm2⟩
   |exit i=>exact⟨n,by(try dsimp only at hn ⊢);rw[hn];exact hr⟩
   |ret=>exact⟨n,by(try dsimp only at hn ⊢);rw[hn];exact hr⟩
 |cond t a b iha ihb=>
  intro e h r hr
  simp only[D3]at hr
  split at hr
  ·rename_i heq;obtain⟨n,hn⟩:=iha _ _ _ hr;exact⟨n,by simp only[D3,heq];exact hn⟩
  ·rename_i heq;obtain⟨n,hn⟩:=ihb _ _ _ hr;exact⟨n,by simp only[D3,heq];exact hn⟩
  ·exact absurd hr (by simp)
 |block id b ih=>
  intro e h r hr
  simp only[D3]at hr ⊢
  cases hx:D3 c cy N b e h with
  |none=>rw[hx]at hr;exact absurd hr (by simp)
  |some y=>rw[hx]at hr;obtain⟨n,hn⟩:=ih _ _ _ hx;exact⟨n,by(try dsimp only at hn ⊢);rw[hn];exact hr⟩
 |loop b ih=>intro e h;exact d9q (fs:=fun n=>D3 (cn n) (cyn n) N b) (mon b) ih N e h
 |exit id=>intro e h r hr;exact⟨0,hr⟩
 |ret=>intro e h r hr;exact⟨0,hr⟩
 |bad=>intro e h r hr;exact⟨0,hr⟩
 |dfr pre g caps post iha ihb=>
  intro e h r hr
  simp only[D3]at hr ⊢
  cases hx:D3 c cy N pre e h with
  |none=>rw[hx]at hr;exact absurd hr (by simp)
  |some y=>
   rw[hx]at hr
   obtain⟨n,hn⟩:=iha _ _ _ hx
   obtain⟨x,e',h'⟩:=y
   cases x with
   |normal=>
    simp only at hr ⊢
    cases hy:D3 c cy N post e' h' with
    |none=>rw[hy]at hr;exact absurd hr (by simp)
    |some z=>
     rw[hy]at hr
     obtain⟨m,hm2⟩:=ihb _ _ _ hy
     obtain⟨x2,e2,h2⟩:=z
     have fin:∀r',(c (.fn g) (caps e') h2).map (fun r=>(X.ret,e2,r.2))=some r' ->∃k,n<=k/\m<=k/\((cn k) (.fn g) (caps e') h2).map (fun r=>(X.ret,e2,r.2))=some r' :=fun r' hr' =>by
      simp only[uzD]at hr' ⊢
      obtain⟨a,ha,hb⟩:=hr'
      obtain⟨k,hk⟩:=hc _ _ _ _ ha
      exact⟨max (max n m) k,by omega,by omega,a,hm k _ (by omega) _ _ _ _ hk,hb⟩
     cases x2 with
     |exit i=>simp at hr
     |normal=>obtain⟨k,k1,k2,k3⟩:=fin _ hr;exact⟨k,by rw[mon pre n k k1 _ _ _ hn];simp only;rw[mon post m k k2 _ _ _ hm2];exact k3⟩
     |ret=>obtain⟨k,k1,k2,k3⟩:=fin _ hr;exact⟨k,by rw[mon pre n k k1 _ _ _ hn];simp only;rw[mon post m k k2 _ _ _ hm2];exact k3⟩
   |exit i=>exact⟨n,by(try dsimp only at hn ⊢);rw[hn];exact hr⟩
   |ret=>exact⟨n,by(try dsimp only at hn ⊢);rw[hn];exact hr⟩
 |rng pre id g ps asg body post iha ihb ihc ihd=>
  intro e h r hr
  simp only[D3]at hr ⊢
  cases hx:D3 c cy N pre e h with
  |none=>rw[hx]at hr;exact absurd hr (by simp)
  |some y=>
   rw[hx]at hr
   obtain⟨n,hn⟩:=iha _ _ _ hx
   obtain⟨x,e',h'⟩:=y
   cases x with
   |normal=>
    simp only at hr ⊢
    have rmon:b7x fun n=>M0 (D3 (cn n) (cyn n) N asg) (D3 (cn n) (cyn n) N body) h'.next ps e' :=fun n m hl=>a1v (mon asg n m hl) (mon body n m hl) _ _ _
    cases hy:Z6 cy (M0 (D3 c cy N asg) (D3 c cy N body) h'.next ps e') h'.next (g e') (h'.new (.loop 0 none))with
    |none=>rw[hy]at hr;exact absurd hr (by simp)
    |some z=>
     rw[hy]at hr
     obtain⟨m,hm2⟩:=c8R hcy rmon (b7f (fas:=fun n=>D3 (cn n) (cyn n) N asg) (fbs:=fun n=>D3 (cn n) (cyn n) N body) (mon asg) (mon body) ihb ihc _ _ _) _ _ _ _ hy
     obtain⟨v2,h2⟩:=z
     dsimp only at hr
     have go:∀k,n<=k->m<=k->(match a1n id (h2.obj h'.next)with
       |some .normal=>D3 (cn k) (cyn k) N post e' (h2.upd h'.next .gone)
       |some .ret=>some (.ret,e',h2.upd h'.next .gone)
       |_=>none)=some r->(match D3 (cn k) (cyn k) N pre e h with
       |some (.normal,e1,h1)=>match Z6 (cyn k) (M0 (D3 (cn k) (cyn k) N asg) (D3 (cn k) (cyn k) N body) h1.next ps e1) h1.next (g e1) (h1.new (.loop 0 none))with
        |some (_,h2)=>match a1n id (h2.obj h1.next)with
         |some .normal=>D3 (cn k) (cyn k) N post e1 (h2.upd h1.next .gone)
         |some .ret=>some (.ret,e1,h2.upd h1.next .gone)
         |_=>none
        |none=>none
       |some (.ret,e1,h1)=>some (.ret,e1,h1)
       |_=>none)=some r:=fun k k1 k2 k3=>by
      rw[mon pre n k k1 _ _ _ hn];simp only
      rw[a7X (hmy m k k2) (rmon m k k2) _ _ _ _ hm2]
      exact k3
     cases hl:a1n id (h2.obj h'.next)with
     |none=>rw[hl]at hr;simp at hr
     |some q=>
      rw[hl]at hr
      cases q with
      |normal=>
       obtain⟨k,hk⟩:=ihd _ _ _ hr
       exact⟨max (max n m) k,go _ (by omega) (by omega) (by rw[hl];exact mon post k _ (by omega) _ _ _ hk)⟩
      |ret=>exact⟨max n m,go _ (by omega) (by omega) (by rw[hl];exact hr)⟩
      |exit i=>simp at hr
   |exit i=>simp at hr
   |ret=>exact⟨n,by(try dsimp only at hn ⊢);rw[hn];exact hr⟩
theorem e1M:∀(k:Nat) {D:CProg} {Dn:Nat->CProg},(∀n,(Dn n).fn=D.fn)->(∀n m,n<=m->LeP (Dn n) (Dn m))->(∀b a h,Lim (ylF D b a h) fun n=>ylF (Dn n) b a h)->c9V (Q3 D k) fun n=>Q3 (Dn n) k:=by
 intro k
 induction k with
 |zero=>intro D Dn _ _ _ t a h r hr;exact absurd hr (by simp[Q3])
 |succ k ih=>
  intro D Dn hfn hle hyl t a h r hr
  cases t with
  |yl b=>
   rw[a2s]at hr
   obtain⟨n,hn⟩:=hyl _ _ _ _ hr
   exact⟨n,by dsimp only;rw[a2s];exact hn⟩
  |fn f=>
   rw[a0B]at hr
   cases hf:D f with
   |none=>rw[hf]at hr;simp at hr
   |some fn=>
    rw[hf]at hr
    simp only at hr
    cases hx:D3 (Q3 D k) (cyF D k) k fn.body (T6 a) h with
    |none=>rw[hx]at hr;simp at hr
    |some y=>
     have hcy:e2P (cyF D k) fun n=>cyF (Dn n) k:=fun b y ys hm hl=>ih (D:=D.put b y) (Dn:=fun n=>(Dn n).put b (ys n)) hfn (fun n m h=>(hle n m h).put b (hm n m h)) fun c a h r hr=>by
      unfold ylF CProg.put at hr ⊢
      simp only at hr ⊢
      split at hr
      ·rename_i hc
       obtain⟨n,hn⟩:=hl _ _ _ hr
       exact⟨n,by rw[if_pos hc];exact hn⟩
      ·simp at hr
     obtain⟨n,hn⟩:=e1K (fun n m h=>evF_mono' (uzP k) (hle n m h)) (ih hfn hle hyl) (fun n m h=>a7K (uzP k) (hle n m h)) hcy k fn.body _ _ _ hx
     refine⟨n,?_⟩
     dsimp only
     rw[a0B,show(Dn n) f=D f from congrFun (hfn n) f,hf]
     simp only
     (try dsimp only at hn)
     rw[hn]
     rw[hx]at hr
     exact hr
section
variable (CP:CProg)
noncomputable def yAt (b:Nat) (ps:List Nat) (e1:a7) (asg body:CC) (n:Nat):YF:=M0 (D3 (Q3 CP n) (cyF CP n) n asg) (D3 (Q3 CP n) (cyF CP n) n body) b ps e1
theorem a5x(b:Nat)(ps:List Nat)(e1:a7)(asg body:CC):b7x (yAt CP b ps e1 asg body):=fun n m h=>a1v (F5 CP h asg) (F5 CP h body) b ps e1
open Classical in
noncomputable def a5a (b:Nat) (ps:List Nat) (e1:a7) (asg body:CC):YF:=fun args h=>
 if hx:∃r,∃n,yAt CP b ps e1 asg body n args h=some r then some hx.choose else none
theorem e0D(b:Nat)(ps:List Nat)(e1:a7)(asg body:CC):b7w (a5a CP b ps e1 asg body) (yAt CP b ps e1 asg body):=by
 intro a h r hr
 unfold a5a at hr
 split at hr
 ·rename_i hx
  obtain rfl:=uzA hr
  exact hx.choose_spec
 ·simp at hr
theorem e2s{b:Nat}{ps:List Nat}{e1:a7}{asg body:CC}{n:Nat}{args:List Value}{h:Heap}{r:Value×Heap}(hr:yAt CP b ps e1 asg body n args h=some r):a5a CP b ps e1 asg body args h=some r:=by
 have hx:∃r,∃n,yAt CP b ps e1 asg body n args h=some r:=⟨r,n,hr⟩
 unfold a5a
 rw[dif_pos hx]
 obtain⟨m,hm⟩:=hx.choose_spec
 have h1:=a5x CP b ps e1 asg body n _ (Nat.le_max_left n m) _ _ _ hr
 have h2:=a5x CP b ps e1 asg body m _ (Nat.le_max_right n m) _ _ _ hm
 rw[h1]at h2
 exact h2.symm
def a4Y(id:Nat)(post:CC)(e1:a7)(b:Nat)(Q:B5)(h2:Heap):Prop:=match a1n id (h2.obj b)with
 |some .normal=>I1 CP post e1 (h2.upd b .gone) Q
 |some .ret=>Q .ret e1 (h2.upd b .gone)
 |_=>False
def b0Y(y:YF)(b:Nat)(g:Value)(h:Heap)(R:Heap->Prop):Prop:=match g with
 | .func (.func f) first captured=>u9 (CP.put b y) f (first.toList++[.func (.yield b) #[] #[]]++captured.toList) h fun _ h2=>R h2
 |_=>False
def e9F(id:Nat)(g:a7->Value)(ps:List Nat)(asg body post:CC)(Q:B5):B5
 | .normal,e1,h1=>b0Y CP (a5a CP h1.next ps e1 asg body) h1.next (g e1) (h1.new (.loop 0 none)) (a4Y CP id post e1 h1.next Q)
 | .ret,e1,h1=>Q .ret e1 h1
 | .exit _,_,_=>False
theorem a5G(pre:CC)(id:Nat)(g:a7->Value)(ps:List Nat)(asg body post:CC)(e:a7)(h:Heap)(Q:B5)(hr:I1 CP pre e h (e9F CP id g ps asg body post Q)):I1 CP (.rng pre id g ps asg body post) e h Q:=by
 obtain⟨n,x,e1,h1,hx,hq⟩:=hr
 cases x with
 |exit i=>exact hq.elim
 |ret=>exact⟨n,_,_,_,by simp only[D3,hx],hq⟩
 |normal=>
  have hq:b0Y CP (a5a CP h1.next ps e1 asg body) h1.next (g e1) (h1.new (.loop 0 none)) (a4Y CP id post e1 h1.next Q):=hq
  unfold b0Y at hq
  split at hq
  case h_2=>exact hq.elim
  rename_i f first captured hg
  obtain⟨k,v,h2,hc,hq⟩:=hq
  obtain⟨m,hm⟩:=e1M k (D:=CP.put h1.next (a5a CP h1.next ps e1 asg body)) (Dn:=fun n=>CP.put h1.next (yAt CP h1.next ps e1 asg body n)) (fun _=>rfl) (fun n m h=>(LeP.refl CP).put _ (a5x CP _ _ _ _ _ n m h)) (fun c a h r hr=>by
   unfold ylF CProg.put at hr ⊢
   simp only at hr ⊢
   split at hr
   ·rename_i hc
    obtain⟨n,hn⟩:=e0D CP _ _ _ _ _ _ _ _ hr
    exact⟨n,by rw[if_pos hc];exact hn⟩
   ·simp at hr) _ _ _ _ hc
  have run:∀N,n<=N->k<=N->m<=N->∀r,(match a1n id (h2.obj h1.next)with
    |some .normal=>D3 (Q3 CP N) (cyF CP N) N post e1 (h2.upd h1.next .gone)
    |some .ret=>some (.ret,e1,h2.upd h1.next .gone)
    |_=>none)=some r->D3 (Q3 CP N) (cyF CP N) N (.rng pre id g ps asg body post) e h=some r:=fun N k1 k2 k3 r hr=>by
   simp only[D3]
   rw[F5 CP k1 _ _ _ _ hx]
   simp only
   have:Z6 (cyF CP N) (M0 (D3 (Q3 CP N) (cyF CP N) N asg) (D3 (Q3 CP N) (cyF CP N) N body) h1.next ps e1) h1.next (g e1) (h1.new (.loop 0 none))=some (v,h2):=by
    unfold Z6
    rw[hg]
    exact evF_mono' k2 ((LeP.refl CP).put _ (a5x CP _ _ _ _ _ m N k3)) _ _ _ _ hm
   rw[this]
   exact hr
  unfold a4Y at hq
  split at hq
  ·rename_i hl
   obtain⟨j,x2,e2,h3,hj,hq⟩:=hq
   refine⟨max (max n k) (max m j),x2,e2,h3,run _ (by omega) (by omega) (by omega) _ ?_,hq⟩
   rw[hl]
   exact F5 CP (by omega) _ _ _ _ hj
  ·rename_i hl
   exact⟨max (max n k) m,.ret,e1,_,run _ (by omega) (by omega) (by omega) _ (by rw[hl]),hq⟩
  ·exact hq.elim
theorem a4a{C:CProg}{b:Nat}{ps:List Nat}{e1:a7}{asg body:CC}{args:List Value}{h:Heap}{R:Value->Heap->Prop}(hlen:args.length=ps.length)(hready:a3R (h.obj b)=true)
  (hr:I1 CP asg (a3h e1 ps args) h fun x e2 h2=>x=.normal/\a3R (h2.obj b)=true/\I1 CP body e2 (h2.upd b (.loop 1 none)) fun x3 _ h3=>b2X (h3.obj b)=true/\R (.bool (decide (x3=.normal))) (h3.upd b (if x3=.normal then .loop 0 none else .loop 2 (some x3)))):
  a3o (C.put b (a5a CP b ps e1 asg body)) b args h R:=by
 obtain⟨n,x,e2,h2,hx,rfl,hr2,m,x3,e3,h3,hy,hb,hR⟩:=hr
 have:a5a CP b ps e1 asg body args h=some (.bool (decide (x3=.normal)),h3.upd b (if x3=.normal then .loop 0 none else .loop 2 (some x3))):=by
  refine e2s CP (n:=max n m) ?_
  unfold yAt M0
  rw[if_pos ⟨hlen,hready⟩,F5 CP (Nat.le_max_left n m) _ _ _ _ hx]
  simp only
  rw[if_pos hr2,F5 CP (Nat.le_max_right n m) _ _ _ _ hy]
  simp only
  rw[if_pos hb]
 unfold a3o ylF CProg.put
 simp only[if_true,this]
 exact hR
end
theorem c9T{CP:CProg}(hy:CP.yl=none){b:Nat}{y:YF}{f:FuncId}{args:List Value}{h:Heap}{Q:Value->Heap->Prop}(c:u9 CP f args h Q):u9 (CP.put b y) f args h Q:=by
 obtain⟨n,v,h1,he,hq⟩:=c
 exact⟨n,v,h1,evF_mono' (C:=CP) (D:=CP.put b y) (uzP n) ⟨rfl,fun c z hz=>by rw[hy]at hz;cases hz⟩ _ _ _ _ he,hq⟩
end Go.Proofs.YtlakhgibjfmjjaaGreat.Can
namespace Go.Proofs.YtlakhgibjfmjjaaGreat.Can
open Go
attribute [local congr] u5 u4 l5 l8 r8 s9 u6 w9 u7
variable {Q : Value → Heap → Prop}
theorem d9O{b:Nat}{y:YF}{f:FuncId}{fn:CFn}(h:cp f=some fn):(cp.put b y) f=some fn:=h
theorem a5s{b:Nat}{y:YF}{f:FuncId}{args:List Value}{h:Heap}{u:Value}(c:∀Q,u9 cp f args h Q↔Q u h)(Q:Value->Heap->Prop):u9 (cp.put b y) f args h Q↔Q u h:=
 v9 (c9T rfl ((c _).2 ⟨rfl,rfl⟩)) Q
theorem e0a{CP:CProg}{id:Nat}{post:CC}{e:a7}{b:Nat}{Q:B5}{h:Heap}(q:Q .ret e ((h.upd b (.loop 2 (some .ret))).upd b .gone)):a4Y CP id post e b Q (h.upd b (.loop 2 (some .ret))):=by
 unfold a4Y
 rw[a9]
 exact q
theorem a8r{CP:CProg}{id:Nat}{post:CC}{e:a7}{b:Nat}{Q:B5}{h:Heap}(hb:h.obj b=.loop 0 none)(q:I1 CP post e (h.upd b .gone) Q):a4Y CP id post e b Q h:=by
 unfold a4Y
 rw[hb]
 exact q
theorem a3o.mono{C:CProg}{b:Nat}{args:List Value}{h:Heap}{Q Q' :Value->Heap->Prop}(r:a3o C b args h Q)(hq:∀v h,Q v h->Q' v h):a3o C b args h Q' :=by
 unfold a3o at r ⊢
 split at r
 ·exact hq _ _ r
 ·exact r.elim
section
variable {h:Heap} {a:PA} {v:PV}
theorem c7p(P:Pool h a v){b:Nat}{y:YF}{J:Nat->Heap->Prop}{Q:Heap->Prop}(hJ0:J 0 h)(hJo:∀i hh hh',J i hh->Old hh hh' ->J i hh')(hJP:∀i hh,J i hh->Pool hh a v)
  (hskip:∀i hh,i<a.n->v.keys i=none->J i hh->J (i+1) hh)
  (hstep:∀i hh key c,i<a.n->v.keys i=some key->v.cells[i]? =some c->J i hh->a3o (cp.put b y) b [.string key,d8s c] hh fun r h' =>(r=.bool true/\J (i+1) h')\/(r=.bool false/\Q h'))
  (hend:∀hh,J a.n hh->Q hh):u9 (cp.put b y) 162 [.pointer (some ⟨a.p,0,none⟩),.func (.yield b) #[] #[]] h fun _ h' =>Q h' :=by
 rw[a8 (cp.put b y) (d9O e6c)]
 obtain⟨tab,p,t⟩:=P.at_
 have op:=p.op
 simp(disch:=omega)only[b1I,↓c7K,op,E5,↓l9,m9,zA,zB,zC,zD,zE,zF,zG,zH,zI,reduceCtorEq,zJ,zK,zL,zM]
 refine A6 (cp.put b y) a0x _ (fun d e hh=>∃i,i+d=a.n/\J i hh/\e 0=.pointer (some ⟨a.p,0,none⟩)/\e 1=.func (.yield b) #[] #[]/\e 13=.slice (some ⟨a.cb,0,none⟩) a.n a.n/\e 14=.int .i64 a.n/\e 15=.int .i64 i) ?_ a.n _ _
  ⟨0,by omega,hJ0,rfl,rfl,rfl,rfl,rfl⟩
 rintro d e hh ⟨i,hid,hJ,e0,e1,e13,e14,e15⟩
 by_cases hin:i<a.n
 ·have b1:decide ((i:Int)<(a.n:Int))=true:=dTz (by omega)
  have nx:(i:Int)+1=((i+1:Nat):Int):=by omega
  obtain⟨tab',p',t'⟩:=(hJP i hh hJ).at_
  have hn:=p'.hn
  have len:=p'.len
  obtain⟨c,hc⟩:∃c,v.cells[i]? =some c:=⟨_,uzF (by omega)⟩
  have cr:=Z5 v.cells hc
  rw[F2]at cr
  obtain⟨h1,h1d,o1,_,g1⟩:=T9 hh (.cells [.int .i64 0,.int .i64 0,.int .i64 0,.int .i64 0] 250 .fix) (.cells (G8.enc c) 250 .fix)
  have J1:=hJo i hh h1 hJ o1
  obtain⟨tab1,p1,t1⟩:=(hJP i h1 J1).at_
  have op1:=p1.op
  have oc:=p'.oc
  rw[F2]at h1d g1
  cases hk:v.keys i with
  |none=>
   have nok:Keys.NoKey a.n v.keys (i:Int):=fun k hk' hkn=>by
    have:k=i:=by omega
    rw[this];exact hk
   have fk:=fun Q=>a5s (b:=b) (y:=y) (fun Q=>Keys.st_key_no p1.s.S nok Q) Q
   have s0:=hskip i h1 hin hk J1
   simp(disch:=omega)only[a0x,b1I,↓c7K,e0,e1,e13,e14,e15,b1,oc,cr,J9,len,setAt,vbz,vez,<-h1d,op1,fk,nx,E5,↓l9,m9,zA,zB,zC,zD,zE,zF,zG,zH,zI,reduceCtorEq,zJ,zK,zL,zM]
   exact⟨d-1,by omega,i+1,by omega,s0,rfl⟩
  |some key=>
   have fk:=fun Q=>a5s (b:=b) (y:=y) (fun Q=>Keys.st_key p1.s.S hin hk Q) Q
   simp(disch:=omega)only[a0x,b1I,↓c7K,e0,e1,e13,e14,e15,b1,oc,cr,J9,len,setAt,vbz,vez,<-h1d,op1,g1,fk,nx,E5,b0E,↓l9,m9,zA,zB,zC,zD,zE,zF,zG,zH,zI,reduceCtorEq,zJ,zK,zL,zM]
   refine(hstep i h1 key c hin hk hc J1).mono fun r h2 hr=>?_
   rcases hr with⟨rfl,J2⟩| ⟨rfl,hq⟩
   ·simp(disch:=omega)only[a0x,b1I,↓c7K,e0,e1,e13,e14,e15,nx,↓l9,m9,zA,zB,zC,zD,zE,zF,zG,zH,zI,reduceCtorEq,zJ,zK,zL,zM]
    exact⟨d-1,by omega,i+1,by omega,J2,rfl⟩
   ·simp(disch:=omega)only[a0x,b1I,↓c7K,e0,e1,e13,e14,e15,nx,↓l9,m9,zA,zB,zC,zD,zE,zF,zG,zH,zI,reduceCtorEq,zJ,zK,zL,zM]
    exact hq
 ·have b1:decide ((i:Int)<(a.n:Int))=false:=dFz (by omega)
  obtain rfl:i=a.n:=by omega
  simp(disch:=omega)only[a0x,b1I,↓c7K,e0,e1,e13,e14,e15,b1,↓l9,m9,zA,zB,zC,zD,zE,zF,zG,zH,zI,reduceCtorEq,zJ,zK,zL,zM]
  exact hend _ hJ
def b4P(W now:Int)(c:F1):Bool:=decide (¬now<c.2.1+W/\c.1<=now-W)
def Y1(W now:Int)(v:PV):Nat->Nat->Option ByteArray
 |_,0=>none
 |i,d+1=>match v.keys i,v.cells[i]? with
  |some key,some c=>if b4P W now c then some key else Y1 W now v (i+1) d
  |_,_=>Y1 W now v (i+1) d
def c7i(r:Option ByteArray):Value:=.tuple #[.string (r.getD .empty),.bool r.isSome]
open Cl in
theorem b5e(P:Pool h a v){T W B L now:Int}(p:PaceOk T W B L)(hsm:∀(i:Nat) (c:F1),v.cells[i]? =some c->Small c.2.1)(hn:Small now)(hQ:∀h',Old h h' ->Q (c7i (Y1 W now v 0 a.n)) h'):
  u9 cp 140 [.pointer (some ⟨a.p,0,none⟩),.agg (paceC T W B L).toArray,.int .i64 now] h Q:=by
 rw[a8 cp e5I]
 refine a5G cp _ _ _ _ _ _ _ _ _ _ ?_
 obtain⟨h1,h1d⟩:∃h1,h1=(((h.new (.cells (paceC T W B L) 126 .fix)).new (.cells [.int .i64 now] 2 .fix)).new (.cells [.string ⟨#[]⟩] 9 .fix)).new (.cells [.bool false] 4 .fix):=⟨_,rfl⟩
 have o1:Old h h1:=by rw[h1d];exact((((Old.refl h).more _).more _).more _).more _
 simp(disch:=omega)only[b1F,↓c7I,<-h1d,↓l9,m9,zA,zB,zC,zD,zE,zF,zG,zH,zI,reduceCtorEq,zJ,zK,zL,zM]
 have n1:h1.next=h.next+4:=by rw[h1d];rfl
 have q0:h1.obj h.next=.cells (paceC T W B L) 126 .fix:=by
  rw[h1d,f4 _ _ (by simp only[j0];omega),f4 _ _ (by simp only[j0];omega),f4 _ _ (by simp only[j0];omega)];exact f9 _ _
 have q1:h1.obj (h.next+1)=.cells [.int .i64 now] 2 .fix:=by
  rw[h1d,f4 _ _ (by simp only[j0];omega),f4 _ _ (by simp only[j0];omega)];exact f9 _ _
 have q2:h1.obj (h.next+2)=.cells [.string ⟨#[]⟩] 9 .fix:=by
  rw[h1d,f4 _ _ (by simp only[j0];omega)];exact f9 _ _
 have q3:h1.obj (h.next+3)=.cells [.bool false] 4 .fix:=by
  rw[h1d];exact f9 _ _
 generalize he1:((((((T6 _).upd 4 _).upd 5 _).upd 6 _).upd 7 _).upd 11 _:a7)=e1
 have e4:e1 4=.pointer (some ⟨h.next,0,none⟩):=by rw[<-he1];rfl
 have e5:e1 5=.pointer (some ⟨h.next+1,0,none⟩):=by rw[<-he1];rfl
 have e6:e1 6=.pointer (some ⟨h.next+2,0,none⟩):=by rw[<-he1];rfl
 have e7:e1 7=.pointer (some ⟨h.next+3,0,none⟩):=by rw[<-he1];rfl
 have e11:e1 11=.func (.func 162) #[.pointer (some ⟨a.p,0,none⟩)] #[]:=by rw[<-he1];rfl
 clear he1
 obtain⟨h2,h2d,o2,n2,ql⟩:=K2 h1 (.loop 0 none)
 have P2:=P.old (o1.trans o2)
 show b0Y cp (a5a cp h1.next [12,13] e1 b6e a6y) h1.next (e1 11) (h1.new (.loop 0 none)) _
 rw[e11,<-h2d]
 refine(c7p P2 (b:=h1.next) (Q:=fun hh=>a4Y cp 0 b6f e1 h1.next (a1t [.c 6 none,.c 7 none] Q) hh)
  (J:=fun i hh=>Pool hh a v/\Old h hh/\h1.next<hh.next/\hh.obj h.next=.cells (paceC T W B L) 126 .fix/\hh.obj (h.next+1)=.cells [.int .i64 now] 2 .fix/\hh.obj (h.next+2)=.cells [.string ⟨#[]⟩] 9 .fix/\hh.obj (h.next+3)=.cells [.bool false] 4 .fix/\
   hh.obj h1.next=.loop 0 none/\Y1 W now v 0 a.n=Y1 W now v i (a.n-i)) ?_ ?_ ?_ ?_ ?_ ?_)
 ·exact⟨P2,o1.trans o2,by omega,(o2.obj _ (by omega)).trans q0,(o2.obj _ (by omega)).trans q1,(o2.obj _ (by omega)).trans q2,(o2.obj _ (by omega)).trans q3,ql,rfl⟩
 ·rintro i hh hh' ⟨j1,j2,j3,j4,j5,j6,j7,j8,j9⟩ o
  exact⟨j1.old o,j2.trans o,uzN j3 o.next,(o.obj _ (by omega)).trans j4,(o.obj _ (by omega)).trans j5,(o.obj _ (by omega)).trans j6,(o.obj _ (by omega)).trans j7,(o.obj _ (by omega)).trans j8,j9⟩
 ·exact fun i hh j=>j.1
 ·rintro i hh hi hk ⟨j1,j2,j3,j4,j5,j6,j7,j8,j9⟩
  refine⟨j1,j2,j3,j4,j5,j6,j7,j8,j9.trans ?_⟩
  rw[show a.n-i=(a.n-(i+1))+1 by omega,Y1,hk]
 ·rintro i hh key c hi hk hc ⟨j1,j2,j3,j4,j5,j6,j7,j8,j9⟩
  rw[show a.n-i=(a.n-(i+1))+1 by omega,Y1,hk,hc]at j9
  simp only at j9
  refine a4a cp rfl (by rw[j8];rfl) ?_
  obtain⟨h3,h3d,o3,n3,g3⟩:=T9 hh (.cells [.int .i64 0,.int .i64 0,.int .i64 0,.int .i64 0] 250 .fix) (.cells (G8.enc c) 250 .fix)
  rw[F2]at h3d g3
  simp(disch:=omega)only[b6e,b1F,↓c7I,a3h,F2,setAt,vbz,vez,<-h3d,↓l9,m9,zA,zB,zC,zD,zE,zF,zG,zH,zI,reduceCtorEq,zJ,zK,zL,zM]
  have k8:=(o3.obj h1.next (by omega)).trans j8
  refine⟨by rw[k8];rfl,?_⟩
  obtain⟨h4,h4d⟩:∃h4,h4=h3.upd h1.next (.loop 1 none):=⟨_,rfl⟩
  have n4:h4.next=hh.next+1:=by rw[h4d];exact n3
  have k4:h4.obj h.next=.cells (paceC T W B L) 126 .fix:=by rw[h4d,a6 _ _ (by omega)];exact(o3.obj _ (by omega)).trans j4
  have k5:h4.obj (h.next+1)=.cells [.int .i64 now] 2 .fix:=by rw[h4d,a6 _ _ (by omega)];exact(o3.obj _ (by omega)).trans j5
  have k6:h4.obj (h.next+2)=.cells [.string ⟨#[]⟩] 9 .fix:=by rw[h4d,a6 _ _ (by omega)];exact(o3.obj _ (by omega)).trans j6
  have k7:h4.obj (h.next+3)=.cells [.bool false] 4 .fix:=by rw[h4d,a6 _ _ (by omega)];exact(o3.obj _ (by omega)).trans j7
  have k9:h4.obj hh.next=.cells [.int .i64 c.1,.int .i64 c.2.1,.int .i64 c.2.2.1,.int .i64 c.2.2.2] 250 .fix:=by rw[h4d,a6 _ _ (by omega)];exact g3
  have kb:h4.obj h1.next=.loop 1 none:=by rw[h4d];exact a9 _ _ _
  rw[<-h4d]
  simp(disch:=omega)only[a6y,b1F,↓c7I,e4,e5,k4,k5,k9,vwz,List.take_succ_cons,List.take_zero,↓l9,m9,zA,zB,zC,zD,zE,zF,zG,zH,zI,reduceCtorEq,zJ,zK,zL,zM]
  refine Cl.idle_ok h4 p (hsm i c hc) hn fun h5 o5=>?_
  have r6:=(o5.obj _ (by omega)).trans k6
  have r7:=(o5.obj _ (by omega)).trans k7
  have rb:=(o5.obj _ (by omega)).trans kb
  have oh5:∀b,b<h.next->h5.obj b=h.obj b:=fun b hb=>by rw[o5.obj b (by omega),h4d,a6 _ _ (by omega),o3.obj b (by omega),j2.obj b hb]
  have o25:Old h h5:=⟨by have:=o5.next;omega,oh5⟩
  by_cases hid:b4P W now c=true
  ·rw[if_pos hid]at j9
   unfold b4P at hid
   simp(disch:=omega)only[a6y,b1F,↓c7I,hid,e6,e7,r6,r7,setAt,vbz,vez,↓l9,m9,zA,zB,zC,zD,zE,zF,zG,zH,zI,reduceCtorEq,zJ,zK,zL,zM]
   refine⟨by rw[rb];rfl,.inr (e0a ?_)⟩
   have x1:=o5.next
   simp(disch:=omega)only[e6,e7,a9,a6,a3U,↓l9,m9,zA,zB,zC,zD,zE,zF,zG,zH,zI,reduceCtorEq,zJ,zK,zL,zM]
   rw[j9]at hQ
   refine hQ _ ⟨by show h.next<=h5.next;omega,fun b hb=>?_⟩
   rw[a6 _ _ (by omega),a6 _ _ (by omega),a6 _ _ (by omega),a6 _ _ (by omega)];exact oh5 b hb
  ·have hid' :b4P W now c=false:=by simpa using hid
   rw[hid',if_neg (by simp)]at j9
   unfold b4P at hid'
   simp(disch:=omega)only[a6y,b1F,↓c7I,hid',e6,e7,r6,r7,↓l9,m9,zA,zB,zC,zD,zE,zF,zG,zH,zI,reduceCtorEq,zJ,zK,zL,zM]
   have x1:=o5.next
   have oF:Old h (h5.upd h1.next (.loop 0 none)):=⟨by show h.next<=h5.next;omega,fun b hb=>by rw[a6 _ _ (by omega)];exact oh5 b hb⟩
   exact⟨by rw[rb];rfl,.inl ⟨P.old oF,oF,by omega,(o5.obj _ (by omega)).trans k4,(o5.obj _ (by omega)).trans k5,j9⟩⟩
 ·rintro hh ⟨j1,j2,j3,j4,j5,j6,j7,j8,j9⟩
  rw[vKz,Y1]at j9
  rw[j9]at hQ
  refine a8r j8 ?_
  simp(disch:=omega)only[b6f,b1F,↓c7I,e6,e7,j6,j7,a9,a6,setAt,vbz,vez,a3U,↓l9,m9,zA,zB,zC,zD,zE,zF,zG,zH,zI,reduceCtorEq,zJ,zK,zL,zM]
  refine hQ _ ⟨j2.next,fun b hb=>?_⟩
  rw[a6 _ _ (by omega),a6 _ _ (by omega),a6 _ _ (by omega)];exact j2.obj b hb
end
structure SA where
 p:Nat
 st:Nat
 x:Nat
 tb:Nat
 nb:Nat
 eb:Nat
 ob:Nat
 wb:Nat
 A:List Nat
 n:Nat
 row:M7
def SA.own(a:SA):List Nat:=a.p::a.nb::a.eb::a.ob::a.wb::a.x::a.tb::a.A
abbrev e2l(a:SA)(tot:Int):List Value:=[.pointer (some ⟨a.st,0,none⟩),.pointer (some ⟨a.x,0,none⟩),.slice (some ⟨a.nb,0,none⟩) a.n a.n,.slice (some ⟨a.eb,0,none⟩) a.n a.n,.slice (some ⟨a.ob,0,none⟩) a.n a.n,.slice (some ⟨a.wb,0,none⟩) a.n a.n,.int .i64 tot]
structure SumAt(h:Heap)(a:SA)(keys:Nat->Option ByteArray)(fl:List Nat)(tab ns es os ws:List Int)(tot:Int):Prop where
 op:h.obj a.p=.cells (e2l a tot) 169 .fix
 s:StAt h a.st a.A a.n keys fl
 i:IdxAt h a.x a.tb a.st a.row a.n tab
 on:h.obj a.nb=.cells (ints .i64 ns) 2 .grow
 oe:h.obj a.eb=.cells (ints .i64 es) 2 .grow
 oo:h.obj a.ob=.cells (ints .i32 os) 21 .grow
 ow:h.obj a.wb=.cells (ints .i32 ws) 21 .grow
 ln:ns.length=a.n
 le:es.length=a.n
 lo:os.length=a.n
 lw:ws.length=a.n
 nd:a.own.Nodup
 lt:∀z∈a.own,z<h.next
 hn:1<=a.n/\a.n<=64
theorem SumAt.keep{h h' :Heap}{a:SA}{keys:Nat->Option ByteArray}{fl:List Nat}{tab ns es os ws:List Int}{tot:Int}(P:SumAt h a keys fl tab ns es os ws tot)(hn:h.next<=h'.next)(ho:∀z∈a.own,h'.obj z=h.obj z):SumAt h' a keys fl tab ns es os ws tot:=
 { P with
   op:=(ho _ (by simp[SA.own])).trans P.op
   s:=P.s.keep hn fun z hz=>ho z (by simp[SA.own,hz])
   i:=P.i.keep hn (ho _ (by simp[SA.own])) (ho _ (by simp[SA.own]))
   on:=(ho _ (by simp[SA.own])).trans P.on
   oe:=(ho _ (by simp[SA.own])).trans P.oe
   oo:=(ho _ (by simp[SA.own])).trans P.oo
   ow:=(ho _ (by simp[SA.own])).trans P.ow
   lt:=fun z hz=>uzN (P.lt z hz) hn }
theorem c9L(h:Heap)(n:Nat)(hn:1<=n/\n<=64)(row:M7)
  (hQ:∀h' a,Old h h' ->SumAt h' a (fun _=>none) (List.range n) (vaz (2*n+1) 0) (vaz n 0) (vaz n 0) (vaz n 0) (vaz n 0) 0->a.n=n->a.row=row->(∀z∈a.own,h.next<=z)->Q (.pointer (some ⟨a.p,0,none⟩)) h'):
  u9 cp 82 [.int .i64 n,e4A row] h Q:=by
 rw[a8 cp f1f]
 obtain⟨h1,h1d,o1,n1,g1⟩:=K2 h (.cells [.int .u64 row.1,.int .u64 row.2.1,.int .u64 row.2.2] 182 .fix)
 have a1:decide ((n:Int)<1)=false:=dFz (by omega)
 have a2:decide ((n:Int)>64)=false:=dFz (by omega)
 have z0:¬(n:Int)<0:=by omega
 simp(disch:=omega)only[c82,↓R82,a1,a2,<-h1d,↓l9,m9,zA,zB,zC,zD,zE,zF,zG,zH,zI,reduceCtorEq,zJ,zK,zL,zM]
 refine b5y h1 n (by omega) fun h2 st A o2 s2 hst nd hA=>?_
 have n2:=o2.next
 have g2:=(o2.obj h.next (by omega)).trans g1
 obtain⟨ha,had⟩:∃ha,ha=((h2.new (.cells (ints .i64 (vaz n 0)) 2 .grow)).new (.cells (ints .i64 (vaz n 0)) 2 .grow)):=⟨_,rfl⟩
 have oa:Old h2 ha:=by rw[had];exact((Old.refl h2).more _).more _
 have na:ha.next=h2.next+1+1:=by rw[had];rfl
 have gn:ha.obj h2.next=.cells (ints .i64 (vaz n 0)) 2 .grow:=by rw[had,f4 _ _ (by simp only[j0];omega)];exact f9 _ _
 have ge:ha.obj (h2.next+1)=.cells (ints .i64 (vaz n 0)) 2 .grow:=by rw[had];exact f9 _ _
 obtain⟨h3,h3d⟩:∃h3,h3=((ha.new (.cells (ints .i32 (vaz n 0)) 21 .grow)).new (.cells (ints .i32 (vaz n 0)) 21 .grow)).new (.cells [.pointer (some ⟨st,0,none⟩),.pointer none,.slice (some ⟨h2.next,0,none⟩) n n,.slice (some ⟨h2.next+1,0,none⟩) n n,.slice (some ⟨ha.next,0,none⟩) n n,.slice (some ⟨ha.next+1,0,none⟩) n n,.int .i64 0] 169 .fix):=⟨_,rfl⟩
 have o3:Old ha h3:=by rw[h3d];exact(((Old.refl ha).more _).more _).more _
 have n3:h3.next=ha.next+1+1+1:=by rw[h3d];rfl
 have gp3:h3.obj (ha.next+1+1)=.cells [.pointer (some ⟨st,0,none⟩),.pointer none,.slice (some ⟨h2.next,0,none⟩) n n,.slice (some ⟨h2.next+1,0,none⟩) n n,.slice (some ⟨ha.next,0,none⟩) n n,.slice (some ⟨ha.next+1,0,none⟩) n n,.int .i64 0] 169 .fix:=by rw[h3d];exact f9 _ _
 have go:h3.obj ha.next=.cells (ints .i32 (vaz n 0)) 21 .grow:=by rw[h3d,f4 _ _ (by simp only[j0];omega),f4 _ _ (by simp only[j0];omega)];exact f9 _ _
 have gw:h3.obj (ha.next+1)=.cells (ints .i32 (vaz n 0)) 21 .grow:=by rw[h3d,f4 _ _ (by simp only[j0];omega)];exact f9 _ _
 have g3:=((o3.obj h.next (by omega)).trans (oa.obj h.next (by omega))).trans g2
 have s3:=(s2.old oa).old o3
 simp(disch:=omega)only[c82,↓R82,M5,y6,<-had,<-h3d,gp3,g3,↓l9,m9,zA,zB,zC,zD,zE,zF,zG,zH,zI,reduceCtorEq,zJ,zK,zL,zM]
 refine b0X s3 (by omega) row fun h4 x tb o4 i4 hx ht=>?_
 have gp4:=(o4.obj _ (by omega)).trans gp3
 have n4:=o4.next
 have lx:=i4.lx
 have lt:=i4.lt
 simp(disch:=omega)only[c82,↓R82,gp4,↓l9,m9,zA,zB,zC,zD,zE,zF,zG,zH,zI,reduceCtorEq,zJ,zK,zL,zM]
 have hlt:=s2.lt
 have keep:∀z,z<ha.next->z≠ha.next+1+1->∀c,(h4.upd (ha.next+1+1) c).obj z=ha.obj z:=fun z hz hne c=>by rw[a6 _ _ hne,o4.obj z (by omega),o3.obj z (by omega)]
 refine hQ _ ⟨ha.next+1+1,st,x,tb,h2.next,h2.next+1,ha.next,ha.next+1,A,n,row⟩ ⟨by rw[r9];omega,fun z hz=>by rw[a6 _ _ (by omega),o4.obj z (by omega),o3.obj z (by omega),oa.obj z (by omega),o2.obj z (by omega),o1.obj z hz]⟩ ⟨?_,?_,?_,?_,?_,?_,?_,by simp,by simp,by simp,by simp,?_,?_,hn⟩ rfl rfl ?_
 ·exact a9 _ _ _
 ·refine(s3.old o4).keep (uzP _) fun z hz=>a6 _ _ (by have:=hlt z hz;omega)
 ·exact i4.keep (uzP _) (a6 _ _ (by omega)) (a6 _ _ (by omega))
 ·exact(keep _ (by show h2.next<_;omega) (by show h2.next≠_;omega) _).trans gn
 ·exact(keep _ (by show h2.next+1<_;omega) (by show h2.next+1≠_;omega) _).trans ge
 ·show(h4.upd _ _).obj ha.next=_
  rw[a6 _ _ (by omega),o4.obj _ (by omega)];exact go
 ·show(h4.upd _ _).obj (ha.next+1)=_
  rw[a6 _ _ (by omega),o4.obj _ (by omega)];exact gw
 ·have ne:=i4.ne
  have hl:∀z,h2.next<=z->¬z∈A:=fun z hz hm=>by have:=hlt _ hm;omega
  simp only[SA.own,List.nodup_cons,vxz,not_or]
  refine⟨⟨by omega,by omega,by omega,by omega,by omega,by omega,hl _ (by omega)⟩,⟨by omega,by omega,by omega,by omega,by omega,hl _ (by omega)⟩,⟨by omega,by omega,by omega,by omega,hl _ (by omega)⟩,⟨by omega,by omega,by omega,hl _ (by omega)⟩,⟨by omega,by omega,hl _ (by omega)⟩,⟨ne,hl _ (by omega)⟩,hl _ (by omega),nd⟩
 ·intro z hz
  simp only[SA.own,vxz]at hz
  rw[r9]
  rcases hz with rfl|rfl|rfl|rfl|rfl|rfl|rfl|hz
  iterate 7 omega
  have:=hlt _ hz;omega
 ·intro z hz
  simp only[SA.own,vxz]at hz
  rcases hz with rfl|rfl|rfl|rfl|rfl|rfl|rfl|hz
  iterate 7 omega
  have:=hA _ hz;omega
end Go.Proofs.YtlakhgibjfmjjaaGreat.Can
