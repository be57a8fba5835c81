/- Part 5 of 6 of the proof of the row RowWholePeeks: whatever the input, the law returns true. No condition. -/
import Derived.Test.YtlakhgibjfmjjaaGreatZPee4
set_option linter.unusedSimpArgs false
set_option linter.unusedVariables false
set_option linter.defProp false
set_option maxHeartbeats 4000000
open Nat renaming reduceEqDiff → zA, reduceAdd → zB, reduceMul → zC, reduceSub → zD, reduceLT → zE, reduceLeDiff → zF, reduceBEq → zG, lt_of_lt_of_le → uzN, le_refl → uzP, le_trans → uzR, mul_one → uzS, lt_succ_self → vpz, zero_add → vsz, zero_le → vJz, sub_self → vKz, le_succ → vLz, lt_or_ge → vMz
open Int renaming reduceLT → zH, reduceLE → zI, reduceToNat → zJ, reduceAdd → zK, reduceSub → zL, reduceMul → zM, reduceBEq → zN, mul_nonneg → uzO, le_refl → uzQ, toNat_natCast → vAz, mul_le_mul → vHz
open Option renaming some.inj → uzA, some.injEq → uzC, map_some → vlz, getD_some → vFz
open Prod renaming mk.injEq → uzB
open List renaming getElem?_eq_getElem → uzF, length_append → uzG, getElem?_set_self → uzH, getElem?_set_ne → uzI, getElem?_map → uzJ, mem_of_getElem? → uzK, length_map → uzL, length_cons → uzM, replicate → vaz, set_cons_zero → vbz, getD_eq_getElem?_getD → vcz, length_singleton → vdz, set_cons_succ → vez, getElem?_append_right → vfz, length_set → viz, length_nil → vkz, getElem?_eq_none → vmz, take_of_length_le → vnz, getElem?_take → voz, length_take → vqz, nil_append → vrz, append_nil → vtz, getElem?_append_left → vuz, append_assoc → vvz, drop_zero → vwz, mem_cons → vxz, mem_cons_self → vyz, cons_append → vCz, mem_or_eq_of_mem_set → vIz
namespace Go.Proofs.YtlakhgibjfmjjaaGreat.Can
open Go
attribute [local congr] u5 u4 l5 l8 r8 s9 u6 w9 u7
variable {Q : Value → Heap → Prop}
structure SV where
 keys:Nat->Option ByteArray
 fl:List Nat
 ns:List Int
 es:List Int
 ord:List Nat
 tot:Int
structure OrdOK(n:Nat)(keys:Nat->Option ByteArray)(fl:List Nat)(ord:List Nat)(os ws:List Int):Prop where
 at_:∀(j p:Nat),ord[j]? =some p->os[j]? =some (p:Int)/\ws[p]? =some (j:Int)
 mem:∀p,p∈ord↔p<n/\keys p≠none
 nd:ord.Nodup
 len:ord.length+fl.length=n
structure Sum(h:Heap)(a:SA)(u:SV):Prop where
 at_:∃tab os ws,SumAt h a u.keys u.fl tab u.ns u.es os ws u.tot/\TabOK (2*a.n+1) (hmI a.row a.n) a.n tab u.keys/\OrdOK a.n u.keys u.fl u.ord os ws
 row:a.row.OK
 bd:∀x∈u.ns,0<=x/\x<=u.tot
 tot:0<=u.tot/\u.tot<4611686018427387904
 be:∀x∈u.es,0<=x/\x<=u.tot
theorem Sum.keep{h h' :Heap}{a:SA}{u:SV}(P:Sum h a u)(hn:h.next<=h'.next)(ho:∀z∈a.own,h'.obj z=h.obj z):Sum h' a u:=
 let ⟨tab,os,ws,p,t,o⟩:=P.at_;⟨⟨tab,os,ws,p.keep hn ho,t,o⟩,P.row,P.bd,P.tot,P.be⟩
theorem Sum.lt{h:Heap}{a:SA}{u:SV}(P:Sum h a u):∀z∈a.own,z<h.next:=let ⟨_,_,_,p,_⟩:=P.at_;p.lt
theorem Sum.old{h h' :Heap}{a:SA}{u:SV}(P:Sum h a u)(o:Old h h'):Sum h' a u:=P.keep o.next fun z hz=>o.obj z (P.lt z hz)
theorem Sum.oldF{F:Nat->Prop}{h h' :Heap}{a:SA}{u:SV}(P:Sum h a u)(o:OldF F h h')(hF:∀z∈a.own,¬F z):Sum h' a u:=P.keep o.next fun z hz=>o.obj z (P.lt z hz) (hF z hz)
def F6(ns:List Int)(p:Nat):Int:=ns.getD p 0
theorem J0{ns:List Int}{p:Nat}(h:p<ns.length):ns[p]? =some (F6 ns p):=by unfold F6;rw[vcz,uzF h];rfl
section
variable {h:Heap} {a:SA} {u:SV}
theorem a5u(P:Sum h a u)(Q:Value->Heap->Prop):u9 cp 148 [.pointer (some ⟨a.p,0,none⟩)] h Q↔Q (.int .i64 (u.ord.length:Nat)) h:=by
 refine v9 ?_ Q
 rw[a8 cp e2v]
 obtain⟨tab,os,ws,p,t,o⟩:=P.at_
 have op:=p.op
 have len:=o.len
 have f:=fun Q=>Keys.st_used p.s.S Q
 have e:(a.n:Int)-u.fl.length=(u.ord.length:Nat):=by omega
 rw[e]at f
 simp(disch:=omega)only[d0X,↓e4Q,op,f,E5,↓l9,m9,zA,zB,zC,zD,zE,zF,zG,zH,zI,reduceCtorEq,zJ,zK,zL,zM]
theorem b1m(P:Sum h a u){key:ByteArray}(hs:key.size<=140737488355328)
  (hQ:∀h',Old h h' ->Q (match plK a.n u.keys key with|none=> .tuple #[.int .i64 0,.int .i64 0,.bool false]|some k=> .tuple #[.int .i64 (F6 u.ns k),.int .i64 (F6 u.es k),.bool true]) h'):
  u9 cp 169 [.pointer (some ⟨a.p,0,none⟩),.string key] h Q:=by
 rw[a8 cp e6i]
 obtain⟨tab,os,ws,p,t,o⟩:=P.at_
 have op:=p.op
 have hn:=p.hn
 obtain⟨tt,L⟩:=t.look' key
 simp(disch:=omega)only[c8f,↓e2V,op,E5,↓l9,m9,zA,zB,zC,zD,zE,zF,zG,zH,zI,reduceCtorEq,zJ,zK,zL,zM]
 refine b2h p.i p.s P.row (by omega) t hs L fun h1 o1=>?_
 have p1:=p.keep o1.next fun z hz=>o1.obj z (p.lt z hz)
 have op1:=p1.op
 have on1:=p1.on
 have oe1:=p1.oe
 have ln:=p.ln
 have le:=p.le
 cases hq:plK a.n u.keys key with
 |none=>
  rw[hq]at hQ
  simp(disch:=omega)only[c8f,↓e2V,plc,op1,↓l9,m9,zA,zB,zC,zD,zE,zF,zG,zH,zI,reduceCtorEq,zJ,zK,zL,zM]
  exact hQ _ o1
 |some k=>
  rw[hq]at hQ
  have hk:=(F9 hq).1
  have k2:decide ((k:Int)<0)=false:=dFz (by omega)
  have g1:=C5 .i64 u.ns (J0 (p:=k) (by omega))
  have g2:=C5 .i64 u.es (J0 (p:=k) (by omega))
  simp(disch:=omega)only[c8f,↓e2V,plc,k2,op1,on1,oe1,g1,g2,uzS,↓l9,m9,zA,zB,zC,zD,zE,zF,zG,zH,zI,reduceCtorEq,zJ,zK,zL,zM]
  exact hQ _ o1
def a3L(n:Nat)(u:SV):Int:=if u.ord.length<n then 0 else F6 u.ns (u.ord.getD (n-1) 0)
theorem c9F(P:Sum h a u)(Q:Value->Heap->Prop):u9 cp 170 [.pointer (some ⟨a.p,0,none⟩)] h Q↔Q (.int .i64 (a3L a.n u)) h:=by
 refine v9 ?_ Q
 rw[a8 cp e6j]
 obtain⟨tab,os,ws,p,t,o⟩:=P.at_
 have op:=p.op
 have on:=p.on
 have oo:=p.oo
 have hn:=p.hn
 have ln:=p.ln
 have lo:=p.lo
 have ol:=o.len
 have f:=fun Q=>a5u P Q
 by_cases hl:u.ord.length<a.n
 ·have b1:decide (((u.ord.length:Nat):Int)<(a.n:Int))=true:=dTz (by omega)
  simp(disch:=omega)only[d1x,↓e4V,op,f,b1,E5,↓l9,m9,zA,zB,zC,zD,zE,zF,zG,zH,zI,reduceCtorEq,zJ,zK,zL,zM]
  unfold a3L
  rw[if_pos hl]
 ·have b1:decide (((u.ord.length:Nat):Int)<(a.n:Int))=false:=dFz (by omega)
  have nx:(a.n:Int)-1=((a.n-1:Nat):Int):=by omega
  obtain⟨q,hq⟩:∃q,u.ord[a.n-1]? =some q:=⟨_,uzF (by omega)⟩
  have hqn:=((o.mem q).1 (uzK hq)).1
  have g1:=C5 .i32 os (o.at_ _ _ hq).1
  have g2:=C5 .i64 u.ns (J0 (p:=q) (by omega))
  simp(disch:=omega)only[d1x,↓e4V,op,on,oo,f,b1,nx,g1,g2,uzS,E5,↓l9,m9,zA,zB,zC,zD,zE,zF,zG,zH,zI,reduceCtorEq,zJ,zK,zL,zM]
  unfold a3L
  rw[if_neg hl,vcz,hq]
  rfl
def c6Y(u:SV)(pre:List Nat)(i:Nat):SV:={ u with keys:=Keys.kset u.keys i none,fl:=i::u.fl,ord:=pre }
theorem e0e(P:Sum h a u){pre:List Nat}{i:Nat}(ho:u.ord=pre++[i])
  (hQ:∀h',OldF (fun z=>z∈a.own) h h' ->Sum h' a (c6Y u pre i)->Q (.int .i64 (F6 u.ns i)) h'):
  u9 cp 149 [.pointer (some ⟨a.p,0,none⟩)] h Q:=by
 rw[a8 cp e5P]
 obtain⟨tab,os,ws,p,t,o⟩:=P.at_
 have op:=p.op
 have on:=p.on
 have oo:=p.oo
 have hn:=p.hn
 have ln:=p.ln
 have lo:=p.lo
 have ol:=o.len
 have f:=fun Q=>a5u P Q
 have hl:u.ord.length=pre.length+1:=by rw[ho];simp
 have nx:((u.ord.length:Nat):Int)-1=((pre.length:Nat):Int):=by omega
 have hq:u.ord[pre.length]? =some i:=by rw[ho,vfz (uzP _),vKz];rfl
 obtain⟨hin,hik⟩:=(o.mem i).1 (uzK hq)
 obtain⟨key,hkey⟩:=Option.ne_none_iff_exists'.1 hik
 have g1:=C5 .i32 os (o.at_ _ _ hq).1
 have g2:=C5 .i64 u.ns (J0 (p:=i) (by omega))
 have fk:=fun Q=>Keys.st_key p.s.S hin hkey Q
 have hks:key.size<=64:=by
  obtain⟨s0,_,_,hsn,_,hsg⟩:=p.s.S
  exact(hsg.held i key (by omega) hkey).2.1
 obtain⟨tt,L⟩:=t.look' key
 have hpl:=b6W hin hkey t.kinj
 rw[hpl]at L
 have nd:=p.nd
 simp only[SA.own,List.nodup_cons,vxz,not_or]at nd
 obtain⟨⟨d1,d2,d3,d4,d5,d6,d7⟩,⟨d8,d9,d10,d11,d12,d13⟩,⟨d14,d15,d16,d17,d18⟩,⟨d19,d20,d21,d22⟩,⟨d23,d24,d25⟩,⟨d26,d27⟩,d28,d29⟩:=nd
 have rl:pre.length<a.n:=by omega
 simp(disch:=omega)only[d0Y,↓e4R,op,on,oo,f,nx,g1,fk,uzS,E5,↓l9,m9,zA,zB,zC,zD,zE,zF,zG,zH,zI,reduceCtorEq,zJ,zK,zL,zM]
 refine a7W p.i p.s P.row (by omega) t hks L d27 d28 fun h2 tab2 o2 i2 s2 t2=>?_
 have own2:∀z,(z=a.tb\/z∈a.A)->z∈a.own:=fun z hz=>by
  rcases hz with rfl|hz
  ·simp[SA.own]
  ·simp[SA.own,hz]
 have hlt:=p.lt
 have keepO:∀z,z∈a.own->z≠a.tb->z∉a.A->h2.obj z=h.obj z:=fun z hz h1 h2=>o2.obj z (hlt z hz) (by rintro(he|he);exact h1 he;exact h2 he)
 have op2:=(keepO a.p (by simp[SA.own]) d6 d7).trans op
 have on2:=(keepO a.nb (by simp[SA.own]) d12 d13).trans on
 simp(disch:=omega)only[d0Y,↓e4R,op2,on2,g2,uzS,E5,↓l9,m9,zA,zB,zC,zD,zE,zF,zG,zH,zI,reduceCtorEq,zJ,zK,zL,zM]
 refine hQ _ (o2.mono own2) ⟨⟨tab2,os,ws,⟨op2,s2,i2,on2,(keepO a.eb (by simp[SA.own]) d17 d18).trans p.oe,(keepO a.ob (by simp[SA.own]) d21 d22).trans oo,(keepO a.wb (by simp[SA.own]) d24 d25).trans p.ow,p.ln,p.le,p.lo,p.lw,p.nd,fun z hz=>uzN (hlt z hz) o2.next,hn⟩,t2,?_⟩,P.row,P.bd,P.tot,P.be⟩
 have nd2:=o.nd
 rw[ho]at nd2
 have hni:i∉pre:=fun hm=>by
  rw[List.nodup_append]at nd2
  exact nd2.2.2 i hm i (by simp) rfl
 refine⟨fun j q hj=>?_,fun q=>?_,(List.nodup_append.1 nd2).1,?_⟩
 ·have hj:pre[j]? =some q:=hj
  have hjl:=(List.getElem?_eq_some_iff.1 hj).1
  exact o.at_ j q (by rw[ho,vuz hjl];exact hj)
 ·have:=o.mem q
  rw[ho]at this
  simp only[List.mem_append,List.mem_singleton]at this
  show q∈pre↔_/\Keys.kset u.keys i none q≠none
  unfold Keys.kset
  constructor
  ·intro hm
   have hqi:q≠i:=fun e=>hni (e▸hm)
   rw[if_neg hqi]
   exact this.1 (.inl hm)
  ·rintro⟨h1,h2⟩
   split at h2
   ·exact absurd rfl h2
   ·rename_i hqi
    rcases this.2 ⟨h1,h2⟩with h|h
    ·exact h
    ·exact absurd h hqi
 ·show pre.length+(i::u.fl).length=a.n
  simp only[uzM];omega
end
theorem b4U{l:List Nat}(nd:l.Nodup){i j x:Nat}(hi:l[i]? =some x)(hj:l[j]? =some x):i=j:=by
 obtain⟨a1,a2⟩:=List.getElem?_eq_some_iff.1 hi
 obtain⟨b1,b2⟩:=List.getElem?_eq_some_iff.1 hj
 have:=List.pairwise_iff_getElem.1 nd
 rcases Nat.lt_trichotomy i j with h|h|h
 ·exact absurd (a2.trans b2.symm) (this i j a1 b1 h)
 ·exact h
 ·exact absurd (b2.trans a2.symm) (this j i b1 a1 h)
def a0K(ns:List Int)(i:Nat):List Nat->List Nat->List Nat
 | [],m=>i::m
 |q::r,m=>if F6 ns q<F6 ns i then a0K ns i r (q::m)else(q::r).reverse++i::m
structure OrdH(n:Nat)(L:List Nat)(os ws:List Int)(hole:Nat):Prop where
 at_:∀(j p:Nat),L[j]? =some p->j≠hole->os[j]? =some (p:Int)/\ws[p]? =some (j:Int)
 lo:os.length=n
 lw:ws.length=n
theorem OrdH.step{n:Nat}{r:List Nat}{q i:Nat}{m:List Nat}{os ws:List Int}(H:OrdH n ((q::r).reverse++i::m) os ws (r.length+1))(nd:((q::r).reverse++i::m).Nodup)(hq:q<n)(hl:r.length+1<n):
  OrdH n (r.reverse++i::q::m) (os.set (r.length+1) (q:Int)) (ws.set q ((r.length+1:Nat):Int)) r.length:=by
 refine⟨fun j p hj hne=>?_,by rw[viz];exact H.lo,by rw[viz];exact H.lw⟩
 have hrl:r.reverse.length=r.length:=List.length_reverse
 by_cases h1:j=r.length+1
 ·subst h1
  rw[vfz (by omega),hrl,Nat.add_sub_cancel_left]at hj
  obtain rfl:q=p:=by simpa using hj
  exact⟨by rw[uzH (by rw[H.lo];exact hl)],by rw[uzH (by rw[H.lw];exact hq)]⟩
 ·have hj2:((q::r).reverse++i::m)[j]? =some p:=by
   rw[List.reverse_cons,vvz]
   by_cases h2:j<r.length
   ·rw[vuz (by omega)]at hj ⊢;exact hj
   ·obtain⟨k,rfl⟩:∃k,j=r.length+2+k:=⟨j-(r.length+2),by omega⟩
    rw[vfz (by omega),hrl,show r.length+2+k-r.length=k+2 by omega]at hj ⊢
    simpa using hj
  have hpq:p≠q:=fun e=>by
   subst e
   have hq2:((p::r).reverse++i::m)[r.length]? =some p:=by
    rw[List.reverse_cons,vvz,vfz (by omega),hrl,vKz];rfl
   have:=b4U nd hj2 hq2
   omega
  obtain⟨g1,g2⟩:=H.at_ j p hj2 h1
  exact⟨by rw[uzI (by omega)];exact g1,by rw[uzI (Ne.symm hpq)];exact g2⟩
theorem OrdH.fin{n:Nat}{r:List Nat}{i:Nat}{m:List Nat}{os ws:List Int}(H:OrdH n (r.reverse++i::m) os ws r.length)(nd:(r.reverse++i::m).Nodup)(hi:i<n)(hl:r.length<n):
  ∀(j p:Nat),(r.reverse++i::m)[j]? =some p->(os.set r.length (i:Int))[j]? =some (p:Int)/\(ws.set i ((r.length:Nat):Int))[p]? =some (j:Int):=by
 intro j p hj
 have hi2:(r.reverse++i::m)[r.length]? =some i:=by
  rw[vfz (by rw[List.length_reverse];omega),List.length_reverse,vKz];rfl
 by_cases h1:j=r.length
 ·subst h1
  rw[hi2]at hj
  obtain rfl:=uzA hj
  exact⟨by rw[uzH (by rw[H.lo];exact hl)],by rw[uzH (by rw[H.lw];exact hi)]⟩
 ·obtain⟨g1,g2⟩:=H.at_ j p hj h1
  have hpi:i≠p:=fun e=>by
   subst e
   have:=b4U nd hj hi2
   omega
  exact⟨by rw[uzI (by omega)];exact g1,by rw[uzI hpi];exact g2⟩
theorem SumAt.order{h:Heap}{a:SA}{keys:Nat->Option ByteArray}{fl:List Nat}{tab ns es os ws:List Int}{tot:Int}(P:SumAt h a keys fl tab ns es os ws tot){os' ws' :List Int}(lo:os'.length=a.n)(lw:ws'.length=a.n):
  SumAt ((h.upd a.ob (.cells (ints .i32 os') 21 .grow)).upd a.wb (.cells (ints .i32 ws') 21 .grow)) a keys fl tab ns es os' ws' tot:=by
 have nd0:=P.nd
 simp only[SA.own,List.nodup_cons,vxz,not_or]at nd0
 obtain⟨⟨d1,d2,d3,d4,d5,d6,d7⟩,⟨d8,d9,d10,d11,d12,d13⟩,⟨d14,d15,d16,d17,d18⟩,⟨d19,d20,d21,d22⟩,⟨d23,d24,d25⟩,⟨d26,d27⟩,d28,d29⟩:=nd0
 have upd:∀z,z≠a.ob->z≠a.wb->((h.upd a.ob (.cells (ints .i32 os') 21 .grow)).upd a.wb (.cells (ints .i32 ws') 21 .grow)).obj z=h.obj z:=fun z h1 h2=>by rw[a6 _ _ h2,a6 _ _ h1]
 refine⟨(upd _ d3 d4).trans P.op,P.s.keep (uzP _) fun z hz=>upd z (fun e=>d22 (e▸hz)) (fun e=>d25 (e▸hz)),P.i.keep (uzP _) (upd _ (Ne.symm d20) (Ne.symm d23)) (upd _ (Ne.symm d21) (Ne.symm d24)),(upd _ d9 d10).trans P.on,(upd _ d14 d15).trans P.oe,?_,a9 _ _ _,P.ln,P.le,lo,lw,P.nd,P.lt,P.hn⟩
 rw[a6 _ _ d19];exact a9 _ _ _
theorem OldF.order{a:SA}(h:Heap)(o1 o2:Obj):OldF (fun z=>z∈a.own) h ((h.upd a.ob o1).upd a.wb o2):=(OldF.upd h a.ob o1 (by simp[SA.own])).trans (OldF.upd _ a.wb o2 (by simp[SA.own]))
section
variable {h:Heap} {a:SA} {keys:Nat->Option ByteArray} {fl:List Nat} {tab ns es os ws:List Int} {tot:Int}
theorem e2a(P:SumAt h a keys fl tab ns es os ws tot){pre post:List Nat}{i:Nat}(hat:∀(j p:Nat),(pre++i::post)[j]? =some p->os[j]? =some (p:Int)/\ws[p]? =some (j:Int))(hlt:∀p∈pre++i::post,p<a.n)(nd:(pre++i::post).Nodup)(hle:(pre++i::post).length<=a.n)
  (hQ:∀h' os' ws',OldF (fun z=>z∈a.own) h h' ->SumAt h' a keys fl tab ns es os' ws' tot->(∀(j p:Nat),(a0K ns i pre.reverse post)[j]? =some p->os'[j]? =some (p:Int)/\ws'[p]? =some (j:Int))->Q (.tuple #[]) h'):
  u9 cp 151 [.pointer (some ⟨a.p,0,none⟩),.int .i64 i] h Q:=by
 rw[a8 cp e5R]
 have op:=P.op
 have ow:=P.ow
 have hn:=P.hn
 have hi:i<a.n:=hlt i (by simp)
 have hl:pre.length<a.n:=by simp only[uzG,uzM]at hle;omega
 have hpi:(pre++i::post)[pre.length]? =some i:=by rw[vfz (uzP _),vKz];rfl
 have gw:=C5 .i32 ws (hat _ _ hpi).2
 have lw:=P.lw
 have ln:=P.ln
 have nd0:=P.nd
 simp only[SA.own,List.nodup_cons,vxz,not_or]at nd0
 obtain⟨⟨d1,d2,d3,d4,d5,d6,d7⟩,⟨d8,d9,d10,d11,d12,d13⟩,⟨d14,d15,d16,d17,d18⟩,⟨d19,d20,d21,d22⟩,⟨d23,d24,d25⟩,⟨d26,d27⟩,d28,d29⟩:=nd0
 simp(disch:=omega)only[b6h,↓e0K,op,ow,gw,uzS,E5,↓l9,m9,zA,zB,zC,zD,zE,zF,zG,zH,zI,reduceCtorEq,zJ,zK,zL,zM]
 refine A6 cp a2Q _ (fun d e hh=>∃r m os' ws',d=r.length/\OldF (fun z=>z∈a.own) h hh/\SumAt hh a keys fl tab ns es os' ws' tot/\OrdH a.n (r.reverse++i::m) os' ws' r.length/\(r.reverse++i::m).Nodup/\(∀p∈r.reverse++i::m,p<a.n)/\(r.reverse++i::m).length<=a.n/\a0K ns i pre.reverse post=a0K ns i r m/\
   e 0=.pointer (some ⟨a.p,0,none⟩)/\e 1=.int .i64 i/\e 4=.int .i64 (r.length:Nat)) ?_ pre.length _ _
  ⟨pre.reverse,post,os,ws,by simp,OldF.refl _ _,P,⟨fun j p hj _=>hat j p (by rw[List.reverse_reverse]at hj;exact hj),P.lo,P.lw⟩,by rw[List.reverse_reverse];exact nd,by rw[List.reverse_reverse];exact hlt,by rw[List.reverse_reverse];exact hle,rfl,rfl,rfl,by rw[List.length_reverse];rfl⟩
 rintro d e hh ⟨r,m,os',ws',rfl,of,P',H,nd',hlt',hle',hr,e0,e1,e4⟩
 have op' :=P'.op
 have on' :=P'.on
 have oo' :=P'.oo
 have ow' :=P'.ow
 have lo' :=P'.lo
 have lw' :=P'.lw
 have hrl:r.length<a.n:=by simp only[uzG,uzM,List.length_reverse]at hle';omega
 have gi:=C5 .i64 ns (J0 (ns:=ns) (p:=i) (by omega))
 have fin:a0K ns i pre.reverse post=r.reverse++i::m->Q (.tuple #[]) ((hh.upd a.ob (.cells (ints .i32 (os'.set r.length (i:Int))) 21 .grow)).upd a.wb (.cells (ints .i32 (ws'.set i ((r.length:Nat):Int))) 21 .grow)):=fun he=>by
  have F:=H.fin nd' hi hrl
  exact hQ _ _ _ (of.trans (OldF.order _ _ _)) (P'.order (by rw[viz];exact lo') (by rw[viz];exact lw')) (by rw[he];exact F)
 cases r with
 |nil=>
  have b1:decide (((0:Nat):Int)>0)=false:=by decide
  have hr0:0<a.n:=hrl
  simp only[vkz]at e4 fin
  simp(disch:=omega)only[a2Q,b6h,↓e0K,e0,e1,e4,b1,op',oo',ow',a9,a6,D8,H7,C6,lo',lw',uzS,E5,↓l9,m9,zA,zB,zC,zD,zE,zF,zG,zH,zI,reduceCtorEq,zJ,zK,zL,zM]
  exact fin hr
 |cons q r=>
  have hlc:(q::r).length=r.length+1:=rfl
  rw[hlc]at e4 H hrl fin
  have b1:decide (((r.length+1:Nat):Int)>0)=true:=dTz (by omega)
  have nx:((r.length+1:Nat):Int)-1=((r.length:Nat):Int):=by omega
  have hq:((q::r).reverse++i::m)[r.length]? =some q:=by
   rw[List.reverse_cons,vvz,vfz (by rw[List.length_reverse];omega),List.length_reverse,vKz];rfl
  have hqn:=hlt' q (uzK hq)
  have go:=C5 .i32 os' (H.at_ _ _ hq (by omega)).1
  have gq:=C5 .i64 ns (J0 (ns:=ns) (p:=q) (by omega))
  by_cases hlt2:F6 ns q<F6 ns i
  ·have b2:=dTz hlt2
   have g3:(ints .i32 (os'.set (r.length+1) (q:Int)))[r.length+1]? =some (.int .i32 (q:Int)):=C5 .i32 _ (by rw[uzH (by rw[lo'];exact hrl)])
   simp(disch:=omega)only[a2Q,b6h,↓e0K,e0,e1,e4,b1,b2,nx,op',on',oo',ow',gi,go,gq,g3,a9,a6,D8,H7,C6,lo',lw',uzS,E5,↓l9,m9,zA,zB,zC,zD,zE,zF,zG,zH,zI,reduceCtorEq,zJ,zK,zL,zM]
   have pm:((q::r).reverse++i::m).Perm (r.reverse++i::q::m):=by
    rw[List.reverse_cons,vvz]
    exact List.Perm.append_left _ (List.Perm.swap _ _ _)
   refine⟨r.length,by omega,r,q::m,_,_,rfl,of.trans (OldF.order _ _ _),P'.order (by rw[viz];exact lo') (by rw[viz];exact lw'),H.step nd' hqn hrl,pm.nodup_iff.1 nd',fun p hp=>hlt' p (pm.mem_iff.2 hp),by rw[<-pm.length_eq];exact hle',hr.trans ?_,rfl⟩
   rw[a0K,if_pos hlt2]
  ·have b2:=dFz hlt2
   simp(disch:=omega)only[a2Q,b6h,↓e0K,e0,e1,e4,b1,b2,nx,op',on',oo',ow',gi,go,gq,a9,a6,D8,H7,C6,lo',lw',uzS,E5,↓l9,m9,zA,zB,zC,zD,zE,zF,zG,zH,zI,reduceCtorEq,zJ,zK,zL,zM]
   refine fin (hr.trans ?_)
   rw[a0K,if_neg hlt2]
end
def b2T(u:SV)(i:Nat)(w:Int):SV:=
 { u with ns:=u.ns.set i (F6 u.ns i+w),ord:=a0K (u.ns.set i (F6 u.ns i+w)) i (u.ord.takeWhile (· !=i)).reverse (u.ord.dropWhile (· !=i)).tail }
def b2u(u:SV)(key:ByteArray)(i:Nat)(least:Int):SV:=
 { u with keys:=Keys.kset u.keys i (some key),fl:=u.fl.tail,ns:=u.ns.set i least,es:=u.es.set i least,ord:=u.ord++[i] }
def Y5(n:Nat)(u0:SV)(key:ByteArray)(w:Int):SV:=
 let u:={ u0 with tot:=u0.tot+w }
 match plK n u.keys key with
 |some i=>b2T u i w
 |none=>match u.fl with
  |i::_=>b2T (b2u u key i 0) i w
  | []=>let i:=u.ord.getD (n-1) 0;b2T (b2u (c6Y u u.ord.dropLast i) key i (F6 u.ns i)) i w
theorem e0n{l:List Nat}{i:Nat}(h:i∈l)(nd:l.Nodup):l=l.takeWhile (· !=i)++i::(l.dropWhile (· !=i)).tail:=by
 induction l with
 |nil=>cases h
 |cons x l ih=>
  by_cases hx:x=i
  ·subst hx;simp
  ·have hi:i∈l:=by
    rcases List.mem_cons.1 h with h|h
    ·exact absurd h.symm hx
    ·exact h
   have e:=ih hi (List.nodup_cons.1 nd).2
   have hb:(x !=i)=true:=by simp[hx]
   rw[List.takeWhile_cons,List.dropWhile_cons,if_pos hb,if_pos hb,vCz,<-e]
theorem a8q(ns:List Int)(i:Nat):∀r m:List Nat,(a0K ns i r m).Perm (r.reverse++i::m)
 | [],m=>List.Perm.refl _
 |q::r,m=>by
  unfold a0K
  split
  ·refine(a8q ns i r (q::m)).trans ?_
   rw[List.reverse_cons,vvz]
   exact List.Perm.append_left _ (List.Perm.swap _ _ _)
  ·exact List.Perm.refl _
section
variable {h:Heap} {a:SA}
theorem SumAt.setTot{keys:Nat->Option ByteArray}{fl:List Nat}{tab ns es os ws:List Int}{tot:Int}(P:SumAt h a keys fl tab ns es os ws tot)(t:Int):SumAt (h.upd a.p (.cells (e2l a t) 169 .fix)) a keys fl tab ns es os ws t:=by
 have nd0:=P.nd
 simp only[SA.own,List.nodup_cons,vxz,not_or]at nd0
 obtain⟨⟨d1,d2,d3,d4,d5,d6,d7⟩,_⟩:=nd0
 exact⟨a9 _ _ _,P.s.keep (uzP _) fun z hz=>a6 _ _ fun e=>d7 (e▸hz),P.i.keep (uzP _) (a6 _ _ (Ne.symm d5)) (a6 _ _ (Ne.symm d6)),(a6 _ _ (Ne.symm d1)).trans P.on,(a6 _ _ (Ne.symm d2)).trans P.oe,(a6 _ _ (Ne.symm d3)).trans P.oo,(a6 _ _ (Ne.symm d4)).trans P.ow,P.ln,P.le,P.lo,P.lw,P.nd,P.lt,P.hn⟩
theorem SumAt.setN{keys:Nat->Option ByteArray}{fl:List Nat}{tab ns es os ws:List Int}{tot:Int}(P:SumAt h a keys fl tab ns es os ws tot){ns' :List Int}(ln:ns'.length=a.n):SumAt (h.upd a.nb (.cells (ints .i64 ns') 2 .grow)) a keys fl tab ns' es os ws tot:=by
 have nd0:=P.nd
 simp only[SA.own,List.nodup_cons,vxz,not_or]at nd0
 obtain⟨⟨d1,d2,d3,d4,d5,d6,d7⟩,⟨d8,d9,d10,d11,d12,d13⟩,_⟩:=nd0
 exact⟨(a6 _ _ d1).trans P.op,P.s.keep (uzP _) fun z hz=>a6 _ _ fun e=>d13 (e▸hz),P.i.keep (uzP _) (a6 _ _ (Ne.symm d11)) (a6 _ _ (Ne.symm d12)),a9 _ _ _,(a6 _ _ (Ne.symm d8)).trans P.oe,(a6 _ _ (Ne.symm d9)).trans P.oo,(a6 _ _ (Ne.symm d10)).trans P.ow,ln,P.le,P.lo,P.lw,P.nd,P.lt,P.hn⟩
theorem SumAt.setE{keys:Nat->Option ByteArray}{fl:List Nat}{tab ns es os ws:List Int}{tot:Int}(P:SumAt h a keys fl tab ns es os ws tot){es' :List Int}(le:es'.length=a.n):SumAt (h.upd a.eb (.cells (ints .i64 es') 2 .grow)) a keys fl tab ns es' os ws tot:=by
 have nd0:=P.nd
 simp only[SA.own,List.nodup_cons,vxz,not_or]at nd0
 obtain⟨⟨d1,d2,d3,d4,d5,d6,d7⟩,⟨d8,d9,d10,d11,d12,d13⟩,⟨d14,d15,d16,d17,d18⟩,_⟩:=nd0
 exact⟨(a6 _ _ d2).trans P.op,P.s.keep (uzP _) fun z hz=>a6 _ _ fun e=>d18 (e▸hz),P.i.keep (uzP _) (a6 _ _ (Ne.symm d16)) (a6 _ _ (Ne.symm d17)),(a6 _ _ d8).trans P.on,a9 _ _ _,(a6 _ _ (Ne.symm d14)).trans P.oo,(a6 _ _ (Ne.symm d15)).trans P.ow,P.ln,le,P.lo,P.lw,P.nd,P.lt,P.hn⟩
theorem b7A{u:SV}(P:Sum h a u){i:Nat}(hi:i∈u.ord){w:Int}(hw:1<=w)(hb:F6 u.ns i+w<=u.tot)
  (hQ:∀h',OldF (fun z=>z∈a.own) h h' ->Sum h' a (b2T u i w)->Q (.tuple #[]) h'):
  u9 cp 151 [.pointer (some ⟨a.p,0,none⟩),.int .i64 i] (h.upd a.nb (.cells (ints .i64 (u.ns.set i (F6 u.ns i+w))) 2 .grow)) Q:=by
 obtain⟨tab,os,ws,p,t,o⟩:=P.at_
 have ln:=p.ln
 have hin:=((o.mem i).1 hi).1
 have hbi:=P.bd (F6 u.ns i) (uzK (J0 (p:=i) (by omega)))
 have hs:=e0n hi o.nd
 have pm:(a0K (u.ns.set i (F6 u.ns i+w)) i (u.ord.takeWhile (· !=i)).reverse (u.ord.dropWhile (· !=i)).tail).Perm u.ord:=by
  have:=a8q (u.ns.set i (F6 u.ns i+w)) i (u.ord.takeWhile (· !=i)).reverse (u.ord.dropWhile (· !=i)).tail
  rw[List.reverse_reverse,<-hs]at this
  exact this
 have ol:=o.len
 refine e2a (p.setN (ns' :=u.ns.set i (F6 u.ns i+w)) (by rw[viz];exact ln)) (pre:=u.ord.takeWhile (· !=i)) (post:=(u.ord.dropWhile (· !=i)).tail) (by rw[<-hs];exact o.at_) (by rw[<-hs];exact fun q hq=>((o.mem q).1 hq).1) (by rw[<-hs];exact o.nd) (by rw[<-hs];omega) fun h' os' ws' of p' hat=>?_
 refine hQ h' ((OldF.upd _ _ _ (by simp[SA.own])).trans of) ⟨⟨tab,os',ws',p',t,⟨hat,fun q=>(pm.mem_iff).trans (o.mem q),pm.nodup_iff.2 o.nd,by show(a0K _ _ _ _).length+_=_;rw[pm.length_eq];exact ol⟩⟩,P.row,fun x hx=>?_,P.tot,P.be⟩
 rcases vIz hx with hx|rfl
 ·exact P.bd x hx
 ·exact⟨by omega,hb⟩
theorem e4D{keys:Nat->Option ByteArray}{fl:List Nat}{tab ns es os ws:List Int}{tot:Int}(p:SumAt h a keys fl tab ns es os ws tot)(Q:Value->Heap->Prop):u9 cp 148 [.pointer (some ⟨a.p,0,none⟩)] h Q↔Q (.int .i64 ((a.n:Int)-fl.length)) h:=by
 refine v9 ?_ Q
 rw[a8 cp e2v]
 have op:=p.op
 have f:=fun Q=>Keys.st_used p.s.S Q
 simp(disch:=omega)only[d0X,↓e4Q,op,f,E5,↓l9,m9,zA,zB,zC,zD,zE,zF,zG,zH,zI,reduceCtorEq,zJ,zK,zL,zM]
theorem c7t{u:SV}(P:Sum h a u){key:ByteArray}(hs:key.size<=64)(hno:plK a.n u.keys key=none){i:Nat}{fl:List Nat}(hf:u.fl=i::fl){least w:Int}(hl:0<=least/\least+w<=u.tot)(hw:1<=w){e:a7}(e0:e 0=.pointer (some ⟨a.p,0,none⟩))(e1:e 1=.string key)(e2:e 2=.int .i64 w)(e7:e 7=.int .i64 least)
  (hQ:∀h',OldF (fun z=>z∈a.own) h h' ->Sum h' a (b2T (b2u u key i least) i w)->Q (.tuple #[]) h'):
  u9 cp 150 [.pointer (some ⟨a.x,0,none⟩),.string key] h (a0G cp (fun t64=> .op (.mv t64) fun t6=> .done (e.upd 6 t6)) (a1X cp (.seq (.region a6a) (.seq (.region a6b) (.region a6c)))
   (a1X cp (.seq (.region a6d) (.region a6e)) (a1t [] Q)))):=by
 obtain⟨tab,os,ws,p,t,o⟩:=P.at_
 have hn:=p.hn
 have ht0:=P.tot
 obtain⟨tt,L⟩:=t.look' key
 rw[hno]at L
 have nd:=p.nd
 simp only[SA.own,List.nodup_cons,vxz,not_or]at nd
 obtain⟨⟨d1,d2,d3,d4,d5,d6,d7⟩,⟨d8,d9,d10,d11,d12,d13⟩,⟨d14,d15,d16,d17,d18⟩,⟨d19,d20,d21,d22⟩,⟨d23,d24,d25⟩,⟨d26,d27⟩,d28,d29⟩:=nd
 have s1:=p.s
 rw[hf]at s1
 have hin:i<a.n:=by
  obtain⟨s0,_,_,hsn,_,hsg⟩:=s1.S
  have:=hsg.lt i vyz
  omega
 have hfree:u.keys i=none:=by
  obtain⟨s0,_,_,hsn,_,hsg⟩:=s1.S
  exact(hsg.free i (by omega)).1 vyz
 refine c7j p.i s1 P.row (by omega) t hs L d27 d28 fun h2 o2 i2 s2 t2=>?_
 have own2:∀z,(z=a.tb\/z∈a.A)->z∈a.own:=fun z hz=>by
  rcases hz with rfl|hz
  ·simp[SA.own]
  ·simp[SA.own,hz]
 have hlt:=p.lt
 have keepO:∀z,z∈a.own->z≠a.tb->z∉a.A->h2.obj z=h.obj z:=fun z hz h1 h2=>o2.obj z (hlt z hz) (by rintro(he|he);exact h1 he;exact h2 he)
 have p2:SumAt h2 a (Keys.kset u.keys i (some key)) fl _ u.ns u.es os ws u.tot:=⟨(keepO a.p (by simp[SA.own]) d6 d7).trans p.op,s2,i2,(keepO a.nb (by simp[SA.own]) d12 d13).trans p.on,(keepO a.eb (by simp[SA.own]) d17 d18).trans p.oe,(keepO a.ob (by simp[SA.own]) d21 d22).trans p.oo,(keepO a.wb (by simp[SA.own]) d24 d25).trans p.ow,p.ln,p.le,p.lo,p.lw,p.nd,fun z hz=>uzN (hlt z hz) o2.next,hn⟩
 have ol:=o.len
 rw[hf]at ol
 simp only[uzM]at ol
 have ln:=p.ln
 have le:=p.le
 have lo:=p.lo
 have lw:=p.lw
 have p3:=(p2.setN (ns' :=u.ns.set i least) (by rw[viz];exact ln)).setE (es' :=u.es.set i least) (by rw[viz];exact le)
 obtain⟨h3,h3d⟩:∃h3,h3=(h2.upd a.nb (.cells (ints .i64 (u.ns.set i least)) 2 .grow)).upd a.eb (.cells (ints .i64 (u.es.set i least)) 2 .grow):=⟨_,rfl⟩
 rw[<-h3d]at p3
 have o3:OldF (fun z=>z∈a.own) h2 h3:=by rw[h3d];exact(OldF.upd _ _ _ (by simp[SA.own])).trans (OldF.upd _ _ _ (by simp[SA.own]))
 have fl3:=fun Q=>e4D p3 Q
 have nx:(a.n:Int)-(fl.length:Nat)-1=((u.ord.length:Nat):Int):=by omega
 have op2:=p2.op
 have on2:=p2.on
 have oe2:=p2.oe
 have op3:=p3.op
 have oo3:=p3.oo
 have ow3:=p3.ow
 have on3:=p3.on
 obtain⟨h4,h4d⟩:∃h4,h4=(h3.upd a.ob (.cells (ints .i32 (os.set u.ord.length (i:Int))) 21 .grow)).upd a.wb (.cells (ints .i32 (ws.set i ((u.ord.length:Nat):Int))) 21 .grow):=⟨_,rfl⟩
 have p4:=p3.order (os' :=os.set u.ord.length (i:Int)) (ws' :=ws.set i ((u.ord.length:Nat):Int)) (by rw[viz];exact lo) (by rw[viz];exact lw)
 rw[<-h4d]at p4
 have op4:=p4.op
 have on4:=p4.on
 have g4:=C5 .i64 (u.ns.set i least) (i:=i) (x:=least) (by rw[uzH (by omega)])
 have hol:u.ord.length<a.n:=by omega
 simp(disch:=omega)only[b1C,↓c7H,e0,e1,e2,e7,op2,on2,oe2,a9,a6,d1,d2,Ne.symm d8,d8,D8,H7,C6,ln,le,lo,lw,<-h3d,fl3,nx,op3,oo3,ow3,d19,Ne.symm d19,d3,d4,<-h4d,op4,on4,g4,uzS,E5,↓l9,m9,zA,zB,zC,zD,zE,zF,zG,zH,zI,reduceCtorEq,zJ,zK,zL,zM]
 have en:F6 (u.ns.set i least) i=least:=by unfold F6;rw[vcz,uzH (by omega)];rfl
 have hft:u.fl.tail=fl:=by rw[hf];rfl
 have hni:i∉u.ord:=fun hm=>((o.mem i).1 hm).2 hfree
 have P4:Sum h4 a (b2u u key i least):=by
  refine⟨⟨_,_,_,by unfold b2u;rw[hft];exact p4,t2,⟨fun j q hj=>?_,fun q=>?_,?_,?_⟩⟩,P.row,fun x hx=>?_,P.tot,fun x hx=>?_⟩
  ·have hj:(u.ord++[i])[j]? =some q:=hj
   by_cases hjl:j<u.ord.length
   ·rw[vuz hjl]at hj
    obtain⟨g1,g2⟩:=o.at_ j q hj
    have hqi:i≠q:=fun e=>hni (e▸uzK hj)
    exact⟨by rw[uzI (by omega)];exact g1,by rw[uzI hqi];exact g2⟩
   ·have hj2:j=u.ord.length:=by
     have:=(List.getElem?_eq_some_iff.1 hj).1
     simp only[uzG,vdz]at this
     omega
    subst hj2
    rw[vfz (uzP _),vKz]at hj
    obtain rfl:i=q:=by simpa using hj
    exact⟨by rw[uzH (by omega)],by rw[uzH (by omega)]⟩
  ·show q∈u.ord++[i]↔q<a.n/\Keys.kset u.keys i (some key) q≠none
   rw[List.mem_append,List.mem_singleton,o.mem]
   unfold Keys.kset
   constructor
   ·rintro(⟨g1,g2⟩|rfl)
    ·refine⟨g1,?_⟩
     split
     ·simp
     ·exact g2
    ·exact⟨hin,by simp⟩
   ·rintro⟨g1,g2⟩
    by_cases hqi:q=i
    ·exact .inr hqi
    ·rw[if_neg hqi]at g2;exact .inl ⟨g1,g2⟩
  ·exact List.nodup_append.2 ⟨o.nd,by simp,fun x hx y hy=>by
    rw[List.mem_singleton]at hy
    subst hy
    exact fun e=>hni (e▸hx)⟩
  ·show(u.ord++[i]).length+u.fl.tail.length=a.n
   rw[hft]
   simp only[uzG,vdz]
   omega
  ·rcases vIz hx with hx|rfl
   ·exact P.bd x hx
   ·exact⟨hl.1,by show _<=u.tot;omega⟩
  ·rcases vIz hx with hx|rfl
   ·exact P.be x hx
   ·exact⟨hl.1,by show _<=u.tot;omega⟩
 have hmem:i∈(b2u u key i least).ord:=by show i∈u.ord++[i];simp
 have main:=b7A P4 hmem hw (by show F6 (u.ns.set i least) i+w<=u.tot;rw[en];exact hl.2) (Q:=a0G cp (fun t110=>Reg.done ((e.upd 6 (Value.int IntKind.i64 ↑i)).upd 8 (Value.int IntKind.i64 ↑u.ord.length))) (a1t [] Q)) fun h' o' P' =>by
  simp(disch:=omega)only[↓l9,m9,zA,zB,zC,zD,zE,zF,zG,zH,zI,reduceCtorEq,zJ,zK,zL,zM]
  exact hQ h' ((o2.mono own2).trans (o3.trans ((by rw[h4d];exact OldF.order _ _ _:OldF (fun z=>z∈a.own) h3 h4).trans o'))) P'
 have e5:(b2u u key i least).ns=u.ns.set i least:=rfl
 rw[e5,en]at main
 exact main
theorem d9D{u:SV}(P:Sum h a u){key:ByteArray}(hs:key.size<=64){w:Int}(hw:1<=w)(ht:u.tot+w<4611686018427387904)
  (hQ:∀h',OldF (fun z=>z∈a.own) h h' ->Sum h' a (Y5 a.n u key w)->Q (.tuple #[]) h'):
  u9 cp 130 [.pointer (some ⟨a.p,0,none⟩),.string key,.int .i64 w] h Q:=by
 rw[a8 cp e5z]
 have ht0:=P.tot
 obtain⟨tab,os,ws,p,t,o⟩:=P.at_
 have op:=p.op
 have hn:=p.hn
 have b1:decide (w<1)=false:=dFz (by omega)
 have b2:decide (w>=4611686018427387904)=false:=dFz (by omega)
 have b3:decide ((key.size:Int)>64)=false:=dFz (by omega)
 have b4:decide (u.tot>=4611686018427387904-w)=false:=dFz (by omega)
 obtain⟨h1,h1d⟩:∃h1,h1=h.upd a.p (.cells (e2l a (u.tot+w)) 169 .fix):=⟨_,rfl⟩
 have P1:Sum h1 a { u with tot:=u.tot+w }:=by
  rw[h1d]
  exact⟨⟨tab,os,ws,p.setTot _,t,o⟩,P.row,fun x hx=>by have:=P.bd x hx;show 0<=x/\x<=u.tot+w;omega,by show 0<=u.tot+w/\u.tot+w<_;omega,fun x hx=>by have:=P.be x hx;show 0<=x/\x<=u.tot+w;omega⟩
 have o1:OldF (fun z=>z∈a.own) h h1:=by rw[h1d];exact OldF.upd _ _ _ (by simp[SA.own])
 have p1:=p.setTot (h:=h) (u.tot+w)
 rw[<-h1d]at p1
 have op1:=p1.op
 obtain⟨tt,L⟩:=t.look' key
 simp(disch:=omega)only[b1C,↓c7H,op,b1,b2,b3,b4,setAt,vbz,vez,<-h1d,op1,E5,↓l9,m9,zA,zB,zC,zD,zE,zF,zG,zH,zI,reduceCtorEq,zJ,zK,zL,zM]
 refine b2h p1.i p1.s P.row (by omega) t (by omega) L fun h2 o2=>?_
 have P2:=P1.old o2
 have of2:=o1.trans (o2.f _)
 have p2:=p1.keep o2.next fun z hz=>o2.obj z (p1.lt z hz)
 have op2:=p2.op
 have on2:=p2.on
 have ln:=p.ln
 have hb' :=fun(k:Nat) (hk:k<a.n)=>P.bd (F6 u.ns k) (uzK (J0 (p:=k) (by omega)))
 cases hq:plK a.n u.keys key with
 |some k=>
  obtain⟨hk,hkey⟩:=F9 hq
  have k2:decide ((k:Int)<0)=false:=dFz (by omega)
  have g1:=C5 .i64 u.ns (J0 (p:=k) (by omega))
  have hbk:=hb' k hk
  have hu:Y5 a.n u key w=b2T { u with tot:=u.tot+w } k w:=by unfold Y5;simp only[hq]
  rw[hu]at hQ
  simp(disch:=omega)only[b1C,↓c7H,plc,k2,op2,on2,g1,D8,H7,C6,ln,uzS,E5,↓l9,m9,zA,zB,zC,zD,zE,zF,zG,zH,zI,reduceCtorEq,zJ,zK,zL,zM]
  refine b7A P2 ((o.mem k).2 ⟨hk,by rw[hkey];simp⟩) hw (by show F6 u.ns k+w<=u.tot+w;omega) fun h3 o3 P3=>?_
  simp(disch:=omega)only[↓l9,m9,zA,zB,zC,zD,zE,zF,zG,zH,zI,reduceCtorEq,zJ,zK,zL,zM]
  exact hQ _ (of2.trans o3) P3
 |none=>
  have fl2:=fun Q=>a5u P2 Q
  have ol:=o.len
  cases hfl:u.fl with
  |cons i fl=>
   rw[hfl]at ol
   simp only[uzM]at ol
   have b5:(((u.ord.length:Nat):Int)==(a.n:Int))=false:=by rw[beq_eq_false_iff_ne];omega
   have hu:Y5 a.n u key w=b2T (b2u { u with tot:=u.tot+w } key i 0) i w:=by unfold Y5;simp only[hq,hfl]
   rw[hu]at hQ
   simp(disch:=omega)only[b1C,↓c7H,plc,op2,fl2,b5,E5,↓l9,m9,zA,zB,zC,zD,zE,zF,zG,zH,zI,reduceCtorEq,zJ,zK,zL,zM]
   refine c7t P2 hs hq hfl (least:=0) (by show _/\_<=u.tot+w;omega) hw rfl rfl rfl rfl fun h3 o3 P3=>?_
   exact hQ _ (of2.trans o3) P3
  |nil=>
   rw[hfl]at ol
   simp only[vkz]at ol
   have b5:(((u.ord.length:Nat):Int)==(a.n:Int))=true:=by rw[beq_iff_eq];omega
   obtain⟨pre,i,hord⟩:∃pre i,u.ord=pre++[i]:=by
    rcases List.eq_nil_or_concat u.ord with h0| ⟨pre,i,h0⟩
    ·rw[h0]at ol;simp only[vkz]at ol;omega
    ·exact⟨pre,i,by rw[h0,List.concat_eq_append]⟩
   have hpl:pre.length+1=a.n:=by rw[hord]at ol;simp only[uzG,vdz]at ol;omega
   have hi:u.ord.getD (a.n-1) 0=i:=by
    rw[vcz,hord,vfz (by omega),show a.n-1-pre.length=0 by omega];rfl
   have hdl:u.ord.dropLast=pre:=by rw[hord,List.dropLast_concat]
   have hin:i<a.n:=((o.mem i).1 (by rw[hord];simp)).1
   have hbi:=hb' i hin
   have hu:Y5 a.n u key w=b2T (b2u (c6Y { u with tot:=u.tot+w } pre i) key i (F6 u.ns i)) i w:=by unfold Y5;simp only[hq,hfl,hi,hdl]
   rw[hu]at hQ
   simp(disch:=omega)only[b1C,↓c7H,plc,op2,fl2,b5,E5,↓l9,m9,zA,zB,zC,zD,zE,zF,zG,zH,zI,reduceCtorEq,zJ,zK,zL,zM]
   refine e0e P2 (pre:=pre) (i:=i) hord fun h3 o3 P3=>?_
   have hno:plK a.n (Keys.kset u.keys i none) key=none:=by
    cases hq2:plK a.n (Keys.kset u.keys i none) key with
    |none=>rfl
    |some l=>
     obtain⟨g1,g2⟩:=F9 hq2
     unfold Keys.kset at g2
     split at g2
     ·cases g2
     ·exact absurd g2 (a8k hq l g1)
   obtain⟨tab3,os3,ws3,p3,_⟩:=P3.at_
   have op3:=p3.op
   simp(disch:=omega)only[b1C,↓c7H,plc,op3,E5,↓l9,m9,zA,zB,zC,zD,zE,zF,zG,zH,zI,reduceCtorEq,zJ,zK,zL,zM]
   refine c7t P3 hs hno (show(c6Y { u with tot:=u.tot+w } pre i).fl=i::u.fl from rfl) (least:=F6 u.ns i) (by show _/\_<=u.tot+w;omega) hw rfl rfl rfl rfl fun h4 o4 P4=>?_
   exact hQ _ (of2.trans (o3.trans o4)) P4
end
structure RuleV where
 L:Int
 Wd:Int
 B:Int
 S:Nat
 C:Nat
 R:Nat
 W:Nat
 T:Nat
 sm:Bool
structure RuleV.OK(r:RuleV):Prop where
 L:1<=r.L/\r.L<=32
 Wd:1<=r.Wd/\r.Wd<=256
 B:1<=r.B/\r.B<=r.L
 S:1<=r.S/\r.S<=8
 Sd:r.Wd % (r.S:Int)=0
 C:1<=r.C/\r.C<=8
 R:1<=r.R/\r.R<=4
 W:1<=r.W/\r.W<=16
 T:1<=r.T/\r.T<=8
 sm:r.sm=true->2<=r.S
abbrev RuleV.c(r:RuleV):List Value:=b5m r.L r.Wd r.B r.S r.C r.R r.W r.T r.sm
def RuleV.u(r:RuleV):Int:=T3 r.Wd (r.L+1-r.B)
theorem c8u(h:Heap)(r:RuleV)(ok:r.OK)(hQ:∀h',Old h h' ->Q (.agg #[.int .i64 r.u,.int .i64 r.Wd,.int .i64 r.B,.int .i64 r.L]) h'):
  u9 cp 79 [.agg r.c.toArray] h Q:=by
 rw[a8 cp f1c]
 have h1:=ok.L
 have h2:=ok.Wd
 have h3:=ok.B
 have f:=fun h=>c6S h r.Wd (r.L+1-r.B) (by unfold D5;omega) (by omega) (by unfold D5;omega) (by omega)
 simp(disch:=first|omega| (simp only[j0,r9,ne_eq];omega))only[c79,↓R79,f,y6,↓l9,m9,zA,zB,zC,zD,zE,zF,zG,zH,zI,reduceCtorEq,zJ,zK,zL,zM]
 exact hQ _ ⟨by simp only[r9,j0];omega,fun z hz=>by rw[a6 _ _ (by omega),f4 _ _ (by simp only[j0];omega),f4 _ _ (by omega)]⟩
def RP.own(r:RP):Nat->Prop:=fun z=>z=r.x\/z=r.sb\/z=r.tb\/∃i,i<r.N/\(z=r.ps i\/z=r.nbs i)
theorem SlotAt.keep{h h' :Heap}{p nb rb w:Nat}{rv:Value}{rows:List M7}{c:List Int}(S:SlotAt h p nb rv rb rows w c)(hn:h.next<=h'.next)(h1:h'.obj p=h.obj p)(h2:h'.obj nb=h.obj nb)(h3:h'.obj rb=h.obj rb):SlotAt h' p nb rv rb rows w c:=
 { S with op:=h1.trans S.op,lp:=uzN S.lp hn,on:=h2.trans S.on,ln:=uzN S.ln hn,v:=S.v.keep hn fun _=>h3 }
theorem RingAt.keep{h h' :Heap}{r:RP}{now:Int}{st:List Int}{cs:Nat->List Int}(R:RingAt h r now st cs)(hn:h.next<=h'.next)(ho:∀z,r.own z\/z=r.rb->h'.obj z=h.obj z):RingAt h' r now st cs:=
 { R with
   ox:=(ho _ (.inl (.inl rfl))).trans R.ox
   lx:=uzN R.lx hn
   os:=(ho _ (.inl (.inr (.inl rfl)))).trans R.os
   ls:=uzN R.ls hn
   ot:=(ho _ (.inl (.inr (.inr (.inl rfl))))).trans R.ot
   lt:=uzN R.lt hn
   sl:=fun i hi=>(R.sl i hi).keep hn (ho _ (.inl (.inr (.inr (.inr ⟨i,hi,.inl rfl⟩))))) (ho _ (.inl (.inr (.inr (.inr ⟨i,hi,.inr rfl⟩))))) (ho _ (.inr rfl)) }
theorem RingAt.ltn{h:Heap}{r:RP}{now:Int}{st:List Int}{cs:Nat->List Int}(R:RingAt h r now st cs){z:Nat}(hz:r.own z):z<h.next:=by
 rcases hz with rfl|rfl|rfl| ⟨i,hi,rfl|rfl⟩
 ·exact R.lx
 ·exact R.ls
 ·exact R.lt
 ·exact(R.sl i hi).lp
 ·exact(R.sl i hi).ln
structure LA where
 p:Nat
 pa:PA
 rp:RP
 sa:SA
 R:RuleV
 b0:Nat
 b1:Nat
 b2:Nat
 b3:Nat
 b4:Nat
 b5:Nat
structure PoolV where
 keys:Nat->Option ByteArray
 fl:List Nat
 tab:List Int
 cells:List F1
structure RingV where
 now:Int
 st:List Int
 cs:Nat->List Int
structure SumV where
 keys:Nat->Option ByteArray
 fl:List Nat
 tab:List Int
 ns:List Int
 es:List Int
 os:List Int
 ws:List Int
 tot:Int
structure LimV where
 P:PoolV
 G:RingV
 U:SumV
 al:Int
 de:Int
 bd:Int
abbrev d9u(a:LA)(v:LimV):List Value:=[.int .i64 a.R.L,.int .i64 a.R.Wd,.int .i64 a.R.B,.int .i64 a.R.S,.int .i64 a.R.C,.int .i64 a.R.R,.int .i64 a.R.W,.int .i64 a.R.T,.bool a.R.sm,
 .int .i64 a.R.u,.int .i64 a.R.Wd,.int .i64 a.R.B,.int .i64 a.R.L,.pointer (some ⟨a.pa.p,0,none⟩),.pointer (some ⟨a.rp.x,0,none⟩),.pointer (some ⟨a.sa.p,0,none⟩),.int .i64 v.al,.int .i64 v.de,.int .i64 v.bd,.int .i64 0,.int .i64 0]
structure LimAt(h:Heap)(a:LA)(v:LimV):Prop where
 ol:h.obj a.p=.cells (d9u a v) 131 .fix
 P:PoolAt h a.pa v.P.keys v.P.fl v.P.tab v.P.cells
 G:RingAt h a.rp v.G.now v.G.st v.G.cs
 U:SumAt h a.sa v.U.keys v.U.fl v.U.tab v.U.ns v.U.es v.U.os v.U.ws v.U.tot
 ok:a.R.OK
 ip:∀z∈a.pa.own,a.b1<=z/\z<a.b2
 ig:∀z,a.rp.own z->a.b2<=z/\z<a.b3
 iu:∀z∈a.sa.own,a.b3<=z/\z<a.b4
 ir:a.b0<=a.rp.rb/\a.rp.rb<a.b1
 il:a.b4<=a.p/\a.p<a.b5
 ib:a.b0<=a.b1/\a.b1<=a.b2/\a.b2<=a.b3/\a.b3<=a.b4/\a.b4<=a.b5
 lt:a.b5<=h.next
 pn:a.pa.n=a.R.C
 un:a.sa.n=a.R.T
 gN:a.rp.N=a.R.S+1
 gw:a.rp.w=a.R.W
 gW:a.rp.W=a.R.Wd / (a.R.S:Int)
 gL:a.rp.L=a.R.L
 gs:a.rp.part=a.R.sm
 gr:a.rp.rows.length=a.R.R
def LA.own(a:LA):Nat->Prop:=fun z=>a.b0<=z/\z<a.b5
theorem LimAt.keep{h h' :Heap}{a:LA}{v:LimV}(L:LimAt h a v)(hn:h.next<=h'.next)(ho:∀z,a.own z->h'.obj z=h.obj z):LimAt h' a v:=by
 have b:=L.ib
 have ir:=L.ir
 have il:=L.il
 exact { L with
  ol:=(ho _ (by unfold LA.own;omega)).trans L.ol
  P:=L.P.keep hn fun z hz=>ho z (by have:=L.ip z hz;unfold LA.own;omega)
  G:=L.G.keep hn fun z hz=>ho z (by
   unfold LA.own
   rcases hz with hz|rfl
   ·have:=L.ig z hz;omega
   ·omega)
  U:=L.U.keep hn fun z hz=>ho z (by have:=L.iu z hz;unfold LA.own;omega)
  lt:=uzR L.lt hn }
theorem LimAt.old{h h' :Heap}{a:LA}{v:LimV}(L:LimAt h a v)(o:Old h h'):LimAt h' a v:=L.keep o.next fun z hz=>o.obj z (uzN hz.2 L.lt)
def a2d(r:RuleV):LimV:=⟨⟨fun _=>none,List.range r.C,vaz (2*r.C+1) 0,vaz r.C (0,0,0,0)⟩,⟨0,vaz (r.S+1) 0,fun _=>vaz (r.R*r.W) 0⟩,
 ⟨fun _=>none,List.range r.T,vaz (2*r.T+1) 0,vaz r.T 0,vaz r.T 0,vaz r.T 0,vaz r.T 0,0⟩,0,0,0⟩
theorem c9s(l:List Int)(n i:Nat)(h:i<n):(O2 l n)[i]? =some (W9 l i):=by
 unfold O2;rw[uzJ,List.getElem?_range h];rfl
theorem c8Y(h:Heap)(r:RuleV)(ok:r.OK)(dr:List Int)(hd:c7S dr)(dv:Value)(sd:Lst h (Enc.int .u64) dv dr)
  (hQ:∀h' a,Old h h' ->LimAt h' a (a2d r)->a.R=r->h.next<=a.b0->a.rp.rows=O2 dr r.R->a.pa.row=W9 dr r.R->a.sa.row=W9 dr r.R->Q (.pointer (some ⟨a.p,0,none⟩)) h'):
  u9 cp 59 [.agg r.c.toArray,dv] h Q:=by
 rw[a8 cp f0M]
 have hR:=ok.R
 have hS:=ok.S
 have hW:=ok.W
 have hWd:=ok.Wd
 have hL:=ok.L
 have hC:=ok.C
 have hT:=ok.T
 obtain⟨h1,h1d,o1,n1,g1⟩:=K2 h (.cells r.c 34 .fix)
 have k1:(r.R:Int)+1=((r.R+1:Nat):Int):=by omega
 have k1t:(((r.R+1:Nat):Int)).toNat=r.R+1:=vAz _
 simp(disch:=omega)only[c59,↓R59,<-h1d,g1,k1,↓l9,m9,zA,zB,zC,zD,zE,zF,zG,zH,zI,reduceCtorEq,zJ,zK,zL,zM]
 refine e2d h1 dr hd dv (sd.old o1) _ (by omega) fun h2 rv rb o2 V2 hrb=>?_
 rw[k1t]at V2
 have n2:=o2.next
 have g2:=(o2.obj h.next (by omega)).trans g1
 have rl:=a1N dr (r.R+1)
 obtain⟨cap,rest,hrv,hb2,ob2,_,hcap⟩:=V2.at (by omega)
 obtain⟨_,hrv',hrd⟩:=V2.read (c9s dr (r.R+1) r.R (by omega))
 rw[rl]at hrv hcap
 subst hrv
 rw[vsz]at hrd
 have hrd:(h2.obj rb).read (r.R*3) 3=some [.int .u64 (W9 dr r.R).1,.int .u64 (W9 dr r.R).2.1,.int .u64 (W9 dr r.R).2.2]:=hrd
 have k2:((r.R+1:Nat):Int)-1=(r.R:Int):=by omega
 obtain⟨h3,h3d,o3,n3,q3⟩:=T9 h2 (.cells [.int .u64 0,.int .u64 0,.int .u64 0] 182 .fix) (.cells [.int .u64 (W9 dr r.R).1,.int .u64 (W9 dr r.R).2.1,.int .u64 (W9 dr r.R).2.2] 182 .fix)
 have g3:=(o3.obj h.next (by omega)).trans g2
 have ob3:=(o3.obj rb hb2).trans ob2
 simp(disch:=omega)only[c59,↓R59,k2,hrd,<-h3d,g3,q3,uzS,↓l9,m9,zA,zB,zC,zD,zE,zF,zG,zH,zI,reduceCtorEq,zJ,zK,zL,zM]
 refine c8u h3 r ok fun h4 o4=>?_
 have n4:=o4.next
 have g4:=(o4.obj h.next (by omega)).trans g3
 have q4:=(o4.obj _ (by omega)).trans q3
 have ob4:=(o4.obj rb (by omega)).trans ob3
 simp(disch:=omega)only[c59,↓R59,g3,g4,q3,q4,↓l9,m9,zA,zB,zC,zD,zE,zF,zG,zH,zI,reduceCtorEq,zJ,zK,zL,zM]
 refine b6Z h4 r.C (by omega) (W9 dr r.R) fun h5 pa o5 P5 pn prow plo=>?_
 have n5:=o5.next
 have g5:=(o5.obj h.next (by omega)).trans g4
 have q5:=(o5.obj _ (by omega)).trans q4
 have ob5:=(o5.obj rb (by omega)).trans ob4
 simp(disch:=omega)only[c59,↓R59,g3,g4,g5,q3,q4,q5,ob3,ob4,ob5,Nat.sub_zero,↓l9,m9,zA,zB,zC,zD,zE,zF,zG,zH,zI,reduceCtorEq,zJ,zK,zL,zM]
 have hrows:(O2 dr (r.R+1)).take r.R=O2 dr r.R:=by
  unfold O2
  rw[<-List.map_take,List.take_range,Nat.min_eq_left (by omega)]
 have V5:E3 h5 182 a0i (.slice (some ⟨rb,0,none⟩) r.R cap) (O2 dr r.R) rb:=by
  have:=(V2.keep (h' :=h5) (by omega) fun hl=>by rw[o5.obj _ (by omega),o4.obj _ (by omega),o3.obj _ hb2]).cut r.R (by rw[rl];omega)
  rw[hrows]at this
  exact this
 have rl2:=a1N dr r.R
 have hq:1<=r.Wd / (r.S:Int)/\r.Wd / (r.S:Int)<=1099511627776:=by
  have e:=Int.mul_ediv_add_emod r.Wd (r.S:Int)
  rw[ok.Sd,Int.add_zero]at e
  have h0:0<=r.Wd / (r.S:Int):=Int.ediv_nonneg (by omega) (by omega)
  have h2:r.Wd / (r.S:Int)<=r.Wd:=Int.ediv_le_self _ (by omega)
  refine⟨?_,by omega⟩
  rcases Int.lt_or_eq_of_le h0 with h|h
  ·omega
  ·rw[<-h,Int.mul_zero]at e;omega
 refine e2b h5 _ rb (O2 dr r.R) V5 (e0c dr r.R) (by omega) r.L r.Wd r.B r.C r.R r.T r.S r.W r.sm (by omega) (by omega) (by omega) hq (by unfold D5;omega) fun h6 rp o6 G6 gN gw gW gL gs gr glx glt gln gls glp grb=>?_
 have n6:=o6.next
 have g6:=(o6.obj h.next (by omega)).trans g5
 have q6:=(o6.obj _ (by omega)).trans q5
 simp(disch:=omega)only[c59,↓R59,g3,g4,g5,g6,q3,q4,q5,q6,Nat.sub_zero,↓l9,m9,zA,zB,zC,zD,zE,zF,zG,zH,zI,reduceCtorEq,zJ,zK,zL,zM]
 refine c9L h6 r.T (by omega) (W9 dr r.R) fun h7 sa o7 U7 un urow ulo=>?_
 have n7:=o7.next
 have g7:=(o7.obj h.next (by omega)).trans g6
 simp(disch:=omega)only[c59,↓R59,g7,y6,↓l9,m9,zA,zB,zC,zD,zE,zF,zG,zH,zI,reduceCtorEq,zJ,zK,zL,zM]
 have o8:Old h7 (h7.new (.cells (d9u ⟨h7.next,pa,rp,sa,r,h1.next,h4.next,h5.next,h6.next,h7.next,h7.next+1⟩ (a2d r)) 131 .fix)):=(Old.refl h7).more _
 have P7:=P5.keep (h' :=h7) (by omega) fun z hz=>by
  have:=P5.lt z hz
  rw[o7.obj z (by omega),o6.obj z this]
 have G7:=G6.keep (h' :=h7) n7 fun z hz=>by
  rcases hz with hz|rfl
  ·exact o7.obj z (G6.ltn hz)
  ·rw[grb];exact o7.obj _ (by omega)
 have q:=hQ _ ⟨h7.next,pa,rp,sa,r,h1.next,h4.next,h5.next,h6.next,h7.next,h7.next+1⟩ (((((((o1.trans o2).trans o3).trans o4).trans o5).trans o6).trans o7).trans o8) ⟨f9 _ _,P7.keep o8.next fun z hz=>o8.obj z (P7.lt z hz),?_,U7.keep o8.next fun z hz=>o8.obj z (U7.lt z hz),ok,fun z hz=>⟨plo z hz,P5.lt z hz⟩,fun z hz=>⟨?_,G6.ltn hz⟩,fun z hz=>⟨ulo z hz,U7.lt z hz⟩,?_,⟨uzP _,vpz _⟩,?_,uzP _,pn,un,gN,gw,gW,gL,gs,?_⟩ rfl ?_ gr prow urow
 ·exact q
 ·have e:G7=G7:=rfl
  rw[rl2]at G7
  refine RingAt.keep (now:=0) (st:=vaz (r.S+1) 0) G7 o8.next fun z hz=>?_
  rcases hz with hz|rfl
  ·exact o8.obj z (uzN (G6.ltn hz) n7)
  ·rw[grb];exact o8.obj _ (by omega)
 ·rcases hz with rfl|rfl|rfl| ⟨i,hi,rfl|rfl⟩
  ·exact glx
  ·exact gls
  ·exact glt
  ·exact glp i hi
  ·exact gln i hi
 ·show h1.next<=rp.rb/\rp.rb<h4.next
  rw[grb];omega
 ·show h1.next<=h4.next/\h4.next<=h5.next/\h5.next<=h6.next/\h6.next<=h7.next/\h7.next<=h7.next+1
  omega
 ·show rp.rows.length=r.R
  rw[gr];exact rl2
 ·show h.next<=h1.next
  omega
structure LV where
 P:PV
 G:RingV
 U:SV
 al:Int
 de:Int
 bd:Int
abbrev e8e(a:LA)(al de bd:Int):List Value:=[.int .i64 a.R.L,.int .i64 a.R.Wd,.int .i64 a.R.B,.int .i64 a.R.S,.int .i64 a.R.C,.int .i64 a.R.R,.int .i64 a.R.W,.int .i64 a.R.T,.bool a.R.sm,
 .int .i64 a.R.u,.int .i64 a.R.Wd,.int .i64 a.R.B,.int .i64 a.R.L,.pointer (some ⟨a.pa.p,0,none⟩),.pointer (some ⟨a.rp.x,0,none⟩),.pointer (some ⟨a.sa.p,0,none⟩),.int .i64 al,.int .i64 de,.int .i64 bd,.int .i64 0,.int .i64 0]
structure LGeo(a:LA)(nx:Nat):Prop where
 ok:a.R.OK
 ip:∀z∈a.pa.own,a.b1<=z/\z<a.b2
 ig:∀z,a.rp.own z->a.b2<=z/\z<a.b3
 iu:∀z∈a.sa.own,a.b3<=z/\z<a.b4
 ir:a.b0<=a.rp.rb/\a.rp.rb<a.b1
 il:a.b4<=a.p/\a.p<a.b5
 ib:a.b0<=a.b1/\a.b1<=a.b2/\a.b2<=a.b3/\a.b3<=a.b4/\a.b4<=a.b5
 lt:a.b5<=nx
 pn:a.pa.n=a.R.C
 un:a.sa.n=a.R.T
 gN:a.rp.N=a.R.S+1
 gw:a.rp.w=a.R.W
 gW:a.rp.W=a.R.Wd / (a.R.S:Int)
 gL:a.rp.L=a.R.L
 gs:a.rp.part=a.R.sm
 gr:a.rp.rows.length=a.R.R
structure Lmt(h:Heap)(a:LA)(v:LV):Prop where
 ol:h.obj a.p=.cells (e8e a v.al v.de v.bd) 131 .fix
 P:Pool h a.pa v.P
 G:RingAt h a.rp v.G.now v.G.st v.G.cs
 U:Sum h a.sa v.U
 geo:LGeo a h.next
theorem LGeo.mono{a:LA}{n m:Nat}(g:LGeo a n)(h:n<=m):LGeo a m:={ g with lt:=uzR g.lt h }
theorem Lmt.keep{h h' :Heap}{a:LA}{v:LV}(L:Lmt h a v)(hn:h.next<=h'.next)(ho:∀z,a.own z->h'.obj z=h.obj z):Lmt h' a v:=by
 have b:=L.geo.ib
 have ir:=L.geo.ir
 have il:=L.geo.il
 exact⟨(ho _ (by unfold LA.own;omega)).trans L.ol,L.P.keep hn fun z hz=>ho z (by have:=L.geo.ip z hz;unfold LA.own;omega),L.G.keep hn fun z hz=>ho z (by
   unfold LA.own
   rcases hz with hz|rfl
   ·have:=L.geo.ig z hz;omega
   ·omega),L.U.keep hn fun z hz=>ho z (by have:=L.geo.iu z hz;unfold LA.own;omega),L.geo.mono hn⟩
theorem Lmt.old{h h' :Heap}{a:LA}{v:LV}(L:Lmt h a v)(o:Old h h'):Lmt h' a v:=L.keep o.next fun z hz=>o.obj z (uzN hz.2 L.geo.lt)
theorem Lmt.oldF{F:Nat->Prop}{h h' :Heap}{a:LA}{v:LV}(L:Lmt h a v)(o:OldF F h h')(hF:∀z,a.own z->¬F z):Lmt h' a v:=L.keep o.next fun z hz=>o.obj z (uzN hz.2 L.geo.lt) (hF z hz)
section
variable {h h' :Heap} {a:LA} {v:LV}
theorem Lmt.setP(L:Lmt h a v){p:PV}(o:OldF (fun z=>z∈a.pa.own) h h')(P:Pool h' a.pa p):Lmt h' a { v with P:=p }:=by
 have b:=L.geo.ib
 have ir:=L.geo.ir
 have il:=L.geo.il
 have lt:=L.geo.lt
 have ob:∀z,z<a.b1\/a.b2<=z->z<a.b5->h'.obj z=h.obj z:=fun z hz h5=>o.obj z (by omega) fun hm=>by have:=L.geo.ip z hm;omega
 exact⟨(ob _ (.inr (by omega)) (by omega)).trans L.ol,P,L.G.keep o.next fun z hz=>by
  rcases hz with hz|rfl
  ·have:=L.geo.ig z hz;exact ob z (.inr (by omega)) (by omega)
  ·exact ob _ (.inl (by omega)) (by omega),L.U.keep o.next fun z hz=>by have:=L.geo.iu z hz;exact ob z (.inr (by omega)) (by omega),L.geo.mono o.next⟩
theorem Lmt.setU(L:Lmt h a v){u:SV}(o:OldF (fun z=>z∈a.sa.own) h h')(U:Sum h' a.sa u):Lmt h' a { v with U:=u }:=by
 have b:=L.geo.ib
 have ir:=L.geo.ir
 have il:=L.geo.il
 have lt:=L.geo.lt
 have ob:∀z,z<a.b3\/a.b4<=z->z<a.b5->h'.obj z=h.obj z:=fun z hz h5=>o.obj z (by omega) fun hm=>by have:=L.geo.iu z hm;omega
 exact⟨(ob _ (.inr (by omega)) (by omega)).trans L.ol,L.P.keep o.next fun z hz=>by have:=L.geo.ip z hz;exact ob z (.inl (by omega)) (by omega),L.G.keep o.next fun z hz=>by
  rcases hz with hz|rfl
  ·have:=L.geo.ig z hz;exact ob z (.inl (by omega)) (by omega)
  ·exact ob _ (.inl (by omega)) (by omega),U,L.geo.mono o.next⟩
theorem Lmt.setG(L:Lmt h a v){g:RingV}(o:OldF a.rp.own h h')(G:RingAt h' a.rp g.now g.st g.cs):Lmt h' a { v with G:=g }:=by
 have b:=L.geo.ib
 have ir:=L.geo.ir
 have il:=L.geo.il
 have lt:=L.geo.lt
 have ob:∀z,z<a.b2\/a.b3<=z->z<a.b5->h'.obj z=h.obj z:=fun z hz h5=>o.obj z (by omega) fun hm=>by have:=L.geo.ig z hm;omega
 exact⟨(ob _ (.inr (by omega)) (by omega)).trans L.ol,L.P.keep o.next fun z hz=>by have:=L.geo.ip z hz;exact ob z (.inl (by omega)) (by omega),G,L.U.keep o.next fun z hz=>by have:=L.geo.iu z hz;exact ob z (.inr (by omega)) (by omega),L.geo.mono o.next⟩
end
def pv0(n:Nat):PV:=⟨fun _=>none,List.range n,vaz n (0,0,0,0)⟩
def sv0(n:Nat):SV:=⟨fun _=>none,List.range n,vaz n 0,vaz n 0,[],0⟩
def lv0(r:RuleV):LV:=⟨pv0 r.C,⟨0,vaz (r.S+1) 0,fun _=>vaz (r.R*r.W) 0⟩,sv0 r.T,0,0,0⟩
theorem c7v{n:Nat}{x:Int}{i:Nat}{v:Int}(h:(vaz n x)[i]? =some v):v=x:=by
 obtain⟨h1,h2⟩:=List.getElem?_eq_some_iff.1 h
 rw[List.getElem_replicate]at h2
 exact h2.symm
theorem e9J(n:Nat)(hm:ByteArray->Nat)(hh:∀s,hm s<2*n+1):TabOK (2*n+1) hm n (vaz (2*n+1) 0) (fun _=>none) where
 len:=by simp
 big:=by omega
 home:=hh
 val:=fun j v hv hv0=>absurd (c7v hv) hv0
 there:=fun k key _ h=>by cases h
 inj:=fun i j v hv _ hv0=>absurd (c7v hv) hv0
 kinj:=fun k l key _ _ h _=>by cases h
theorem Lmt.new{h:Heap}{a:LA}{r:RuleV}(L:LimAt h a (a2d r))(hR:a.R=r)(h1:a.pa.row.OK)(h2:a.sa.row.OK):Lmt h a (lv0 r):=by
 subst hR
 have hp:=L.pn
 have hu:=L.un
 have t1:=e9J a.R.C (hmI a.pa.row a.R.C) fun s=>b5X _ s (by omega)
 have t2:=e9J a.R.T (hmI a.sa.row a.R.T) fun s=>b5X _ s (by omega)
 have oo:OrdOK a.R.T (fun _=>none) (List.range a.R.T) [] (vaz a.R.T 0) (vaz a.R.T 0):={
  at_:=fun j p hj=>by simp at hj
  mem:=fun p=>by simp
  nd:=List.nodup_nil
  len:=by simp }
 refine⟨L.ol,⟨⟨_,L.P,?_⟩,h1⟩,L.G,⟨⟨_,_,_,L.U,?_,?_⟩,h2,fun x hx=>?_,?_,fun x hx=>?_⟩,⟨L.ok,L.ip,L.ig,L.iu,L.ir,L.il,L.ib,L.lt,L.pn,L.un,L.gN,L.gw,L.gW,L.gL,L.gs,L.gr⟩⟩
 ·rw[hp];exact t1
 ·rw[hu];exact t2
 ·rw[hu];exact oo
 ·have:=(List.mem_replicate.1 hx).2;subst this;exact⟨uzQ _,uzQ _⟩
 ·exact⟨uzQ 0,show(0:Int)<4611686018427387904 by decide⟩
 ·have:=(List.mem_replicate.1 hx).2;subst this;exact⟨uzQ _,uzQ _⟩
def wgt(n:Nat)(u:SV)(k:ByteArray):Int:=match plK n u.keys k with
 |some p=>F6 u.ns p
 |none=>a3L n u
def X7(wt:ByteArray->Int)(v:PV):Nat->Nat->ByteArray×Int×Bool->ByteArray×Int×Bool
 |_,0,acc=>acc
 |i,d+1,acc=>match v.keys i with
  |some k=>X7 wt v (i+1) d (if wt k<acc.2.1 then(k,wt k,true)else acc)
  |none=>X7 wt v (i+1) d acc
def a1i(C T:Nat)(v:LV)(key:ByteArray):ByteArray×Bool:=match plK T v.U.keys key with
 |none=>(.empty,false)
 |some p=>((X7 (wgt T v.U) v.P 0 C (.empty,F6 v.U.ns p-F6 v.U.es p,false)).1,(X7 (wgt T v.U) v.P 0 C (.empty,F6 v.U.ns p-F6 v.U.es p,false)).2.2)
section
variable {h:Heap} {a:LA} {v:LV}
theorem c8z(L:Lmt h a v){key:ByteArray}(hs:key.size<=140737488355328)
  (hQ:∀h',Old h h' ->Q (.tuple #[.string (a1i a.R.C a.R.T v key).1,.bool (a1i a.R.C a.R.T v key).2]) h'):
  u9 cp 152 [.pointer (some ⟨a.p,0,none⟩),.string key] h Q:=by
 rw[a8 cp e5S]
 refine a5G cp _ _ _ _ _ _ _ _ _ _ ?_
 obtain⟨h1,h1d,o1,n1,q1⟩:=K2 h (.cells [.pointer (some ⟨a.p,0,none⟩)] 94 .fix)
 have L1:=L.old o1
 have ol1:=L1.ol
 have un:=L.geo.un
 have pn:=L.geo.pn
 simp(disch:=omega)only[a3v,↓a8I,<-h1d,q1,ol1,↓l9,m9,zA,zB,zC,zD,zE,zF,zG,zH,zI,reduceCtorEq,zJ,zK,zL,zM]
 refine b1m L1.U hs fun h2 o2=>?_
 have q2:=(o2.obj _ (by omega)).trans q1
 have L2:=L1.old o2
 have ol2:=L2.ol
 have n2:=o2.next
 cases hq:plK a.sa.n v.U.keys key with
 |none=>
  have hc:a1i a.R.C a.R.T v key=(.empty,false):=by unfold a1i;rw[<-un,hq]
  rw[hc]at hQ
  simp(disch:=omega)only[a3v,↓a8I,e9F,↓l9,m9,zA,zB,zC,zD,zE,zF,zG,zH,zI,reduceCtorEq,zJ,zK,zL,zM]
  exact hQ _ (o1.trans o2)
 |some k=>
  have hc:a1i a.R.C a.R.T v key=((X7 (wgt a.sa.n v.U) v.P 0 a.pa.n (.empty,F6 v.U.ns k-F6 v.U.es k,false)).1,(X7 (wgt a.sa.n v.U) v.P 0 a.pa.n (.empty,F6 v.U.ns k-F6 v.U.es k,false)).2.2):=by unfold a1i;rw[<-un,hq,<-pn]
  rw[hc]at hQ
  have hk:=(F9 hq).1
  have hln:v.U.ns.length=a.sa.n:=by obtain⟨_,_,_,p,_⟩:=L.U.at_;exact p.ln
  have hle:v.U.es.length=a.sa.n:=by obtain⟨_,_,_,p,_⟩:=L.U.at_;exact p.le
  have b1:=L.U.bd (F6 v.U.ns k) (uzK (J0 (p:=k) (by omega)))
  have b2:=L.U.be (F6 v.U.es k) (uzK (J0 (p:=k) (by omega)))
  have bt:=L.U.tot
  obtain⟨x0,hx0⟩:∃x0,x0=F6 v.U.ns k-F6 v.U.es k:=⟨_,rfl⟩
  rw[<-hx0]at hQ
  have gw:(((((h2.new (.cells [.string ⟨#[]⟩] 9 .fix)).new (.cells [.int .i64 0] 2 .fix)).upd h2.next (.cells [.string ⟨#[]⟩] 9 .fix)).upd (h2.next+1) (.cells [.int .i64 x0] 2 .fix)).new (.cells [.bool false] 4 .fix)).obj (h2.next+1+1)=.cells [.bool false] 4 .fix:=f9 _ _
  obtain⟨h3,h3d⟩:∃h3,h3=(((((h2.new (.cells [.string ⟨#[]⟩] 9 .fix)).new (.cells [.int .i64 0] 2 .fix)).upd h2.next (.cells [.string ⟨#[]⟩] 9 .fix)).upd (h2.next+1) (.cells [.int .i64 x0] 2 .fix)).new (.cells [.bool false] 4 .fix)).upd (h2.next+1+1) (.cells [.bool false] 4 .fix):=⟨_,rfl⟩
  have n3:h3.next=h2.next+3:=by rw[h3d];rfl
  have o3:Old h2 h3:=⟨by omega,fun z hz=>by
   rw[h3d,a6 _ _ (by omega),f4 _ _ (by simp only[j0,r9];omega),a6 _ _ (by omega),a6 _ _ (by omega),f4 _ _ (by simp only[j0];omega),f4 _ _ (by omega)]⟩
  have r0:h3.obj h2.next=.cells [.string ⟨#[]⟩] 9 .fix:=by
   rw[h3d,a6 _ _ (by omega),f4 _ _ (by simp only[j0,r9];omega),a6 _ _ (by omega)];exact a9 _ _ _
  have r1:h3.obj (h2.next+1)=.cells [.int .i64 x0] 2 .fix:=by
   rw[h3d,a6 _ _ (by omega),f4 _ _ (by simp only[j0,r9];omega)];exact a9 _ _ _
  have r2:h3.obj (h2.next+2)=.cells [.bool false] 4 .fix:=by rw[h3d];exact a9 _ _ _
  have q3:=(o3.obj _ (by omega)).trans q2
  have L3:=L2.old o3
  have ol3:=L3.ol
  simp(disch:=omega)only[a3v,↓a8I,ol2,q2,<-hx0,gw,setAt,vbz,<-h3d,q3,ol3,↓l9,m9,zA,zB,zC,zD,zE,zF,zG,zH,zI,reduceCtorEq,zJ,zK,zL,zM]
  generalize he1:((((((((((((T6 _).upd 2 _).upd 4 _).upd 5 _).upd 6 _).upd 7 _).upd 8 _).upd 27 _).upd 9 _).upd 10 _).upd 11 _).upd 35 _:a7)=e1
  have e2:e1 2=.pointer (some ⟨h.next,0,none⟩):=by rw[<-he1];rfl
  have e9:e1 9=.pointer (some ⟨h2.next,0,none⟩):=by rw[<-he1];rfl
  have e10:e1 10=.pointer (some ⟨h2.next+1,0,none⟩):=by rw[<-he1];rfl
  have e11:e1 11=.pointer (some ⟨h2.next+2,0,none⟩):=by rw[<-he1];rfl
  have e35:e1 35=.func (.func 162) #[.pointer (some ⟨a.pa.p,0,none⟩)] #[]:=by rw[<-he1];rfl
  clear he1
  obtain⟨h4,h4d,o4,n4,ql⟩:=K2 h3 (.loop 0 none)
  have oA:Old h h4:=((o1.trans o2).trans o3).trans o4
  show b0Y cp (a5a cp h3.next [36,37] e1 b6i a2o) h3.next (e1 35) (h3.new (.loop 0 none)) _
  rw[e35,<-h4d]
  refine(c7p (L.P.old oA) (b:=h3.next) (Q:=fun hh=>a4Y cp 0 b6j e1 h3.next (a1t [.t 4,.t 5] Q) hh)
   (J:=fun i hh=>Old h hh/\h3.next<hh.next/\hh.obj h.next=.cells [.pointer (some ⟨a.p,0,none⟩)] 94 .fix/\hh.obj h3.next=.loop 0 none/\∃acc:ByteArray×Int×Bool,D5 acc.2.1/\hh.obj h2.next=.cells [.string acc.1] 9 .fix/\hh.obj (h2.next+1)=.cells [.int .i64 acc.2.1] 2 .fix/\hh.obj (h2.next+2)=.cells [.bool acc.2.2] 4 .fix/\
    X7 (wgt a.sa.n v.U) v.P 0 a.pa.n (.empty,x0,false)=X7 (wgt a.sa.n v.U) v.P i (a.pa.n-i) acc) ?_ ?_ ?_ ?_ ?_ ?_)
  ·exact⟨oA,by omega,(o4.obj _ (by omega)).trans q3,ql,(.empty,x0,false),by unfold D5;simp only;omega,(o4.obj _ (by omega)).trans r0,(o4.obj _ (by omega)).trans r1,(o4.obj _ (by omega)).trans r2,rfl⟩
  ·rintro i hh hh' ⟨j1,j2,j3,j4,acc,j5,j6,j7,j8,j9⟩ o
   exact⟨j1.trans o,uzN j2 o.next,(o.obj _ (by omega)).trans j3,(o.obj _ (by omega)).trans j4,acc,j5,(o.obj _ (by omega)).trans j6,(o.obj _ (by omega)).trans j7,(o.obj _ (by omega)).trans j8,j9⟩
  ·exact fun i hh j=>L.P.old j.1
  ·rintro i hh hi hkn ⟨j1,j2,j3,j4,acc,j5,j6,j7,j8,j9⟩
   refine⟨j1,j2,j3,j4,acc,j5,j6,j7,j8,j9.trans ?_⟩
   rw[show a.pa.n-i=(a.pa.n-(i+1))+1 by omega,X7,hkn]
  ·rintro i hh kk c hi hkk hcc ⟨j1,j2,j3,j4,acc,j5,j6,j7,j8,j9⟩
   rw[show a.pa.n-i=(a.pa.n-(i+1))+1 by omega,X7,hkk]at j9
   simp only at j9
   refine a4a cp rfl (by rw[j4];rfl) ?_
   simp(disch:=omega)only[b6i,a3v,↓a8I,a3h,↓l9,m9,zA,zB,zC,zD,zE,zF,zG,zH,zI,reduceCtorEq,zJ,zK,zL,zM]
   refine⟨by rw[j4];rfl,?_⟩
   obtain⟨h5,h5d⟩:∃h5,h5=hh.upd h3.next (.loop 1 none):=⟨_,rfl⟩
   have n5:h5.next=hh.next:=by rw[h5d];rfl
   have k5:∀z,z≠h3.next->h5.obj z=hh.obj z:=fun z hz=>by rw[h5d];exact a6 _ _ hz
   have kb:h5.obj h3.next=.loop 1 none:=by rw[h5d];exact a9 _ _ _
   have o5:Old h h5:=⟨by rw[n5];exact j1.next,fun b hb=>by rw[k5 b (by omega)];exact j1.obj b hb⟩
   have L5:=L.old o5
   have ol5:=L5.ol
   have m0:=(k5 h.next (by omega)).trans j3
   have kks:kk.size<=64:=L.P.ok.size i kk hi hkk
   rw[<-h5d]
   simp(disch:=omega)only[a2o,a3v,↓a8I,e2,e9,e10,e11,m0,ol5,↓l9,m9,zA,zB,zC,zD,zE,zF,zG,zH,zI,reduceCtorEq,zJ,zK,zL,zM]
   refine b1m L5.U (by omega) fun h6 o6=>?_
   have L6:=L5.old o6
   have ol6:=L6.ol
   have n6:=o6.next
   have p0:=(o6.obj _ (by omega)).trans m0
   have pb:=(o6.obj _ (by omega)).trans kb
   have p1:=(o6.obj _ (by omega)).trans ((k5 h2.next (by omega)).trans j6)
   have p2:=(o6.obj _ (by omega)).trans ((k5 (h2.next+1) (by omega)).trans j7)
   have p3:=(o6.obj _ (by omega)).trans ((k5 (h2.next+2) (by omega)).trans j8)
   have oh6:∀b,b<h.next->h6.obj b=h.obj b:=fun b hb=>by rw[o6.obj b (by omega)];exact o5.obj b hb
   obtain⟨y,hy⟩:∃y,y=wgt a.sa.n v.U kk:=⟨_,rfl⟩
   rw[<-hy]at j9
   have hyi:D5 y:=by
    rw[hy]
    unfold wgt a3L
    have bdd:∀p,p<a.sa.n->D5 (F6 v.U.ns p):=fun p hp=>by
     have:=L.U.bd (F6 v.U.ns p) (uzK (J0 (p:=p) (by omega)))
     unfold D5;omega
    have hun:1<=a.sa.n:=by obtain⟨_,_,_,p,_⟩:=L.U.at_;exact p.hn.1
    split
    ·rename_i p hp;exact bdd p (F9 hp).1
    ·split
     ·unfold D5;omega
     ·obtain⟨_,_,_,p,_,oo⟩:=L.U.at_
      rw[vcz]
      cases hz:v.U.ord[a.sa.n-1]? with
      |none=>exact bdd 0 (by omega)
      |some z=>exact bdd z ((oo.mem z).1 (uzK hz)).1
   have fl6:=fun Q=>c9F L6.U Q
   have oF2:Old h (h6.upd h3.next (.loop 0 none)):=⟨by show h.next<=h6.next;omega,fun b hb=>by rw[a6 _ _ (by omega)];exact oh6 b hb⟩
   have oF1:Old h ((((h6.upd h2.next (.cells [.string kk] 9 .fix)).upd (h2.next+1) (.cells [.int .i64 y] 2 .fix)).upd (h2.next+2) (.cells [.bool true] 4 .fix)).upd h3.next (.loop 0 none)):=⟨by show h.next<=h6.next;omega,fun b hb=>by
    rw[a6 _ _ (by omega),a6 _ _ (by omega),a6 _ _ (by omega),a6 _ _ (by omega)];exact oh6 b hb⟩
   have bz:b2X (h6.obj h3.next)=true:=by rw[pb];rfl
   cases hqk:plK a.sa.n v.U.keys kk with
   |some p=>
    have hyp:F6 v.U.ns p=y:=by rw[hy];unfold wgt;rw[hqk]
    by_cases hlt:y<acc.2.1
    ·rw[if_pos hlt]at j9
     have b9:=dTz hlt
     simp(disch:=omega)only[a2o,a3v,↓a8I,hyp,e2,e9,e10,e11,p1,p2,p3,b9,setAt,vbz,a9,a6,↓l9,m9,zA,zB,zC,zD,zE,zF,zG,zH,zI,reduceCtorEq,zJ,zK,zL,zM]
     exact⟨bz,.inl ⟨oF1,by omega,p0,(kk,y,true),hyi,rfl,rfl,rfl,j9⟩⟩
    ·rw[if_neg hlt]at j9
     have b9:=dFz hlt
     simp(disch:=omega)only[a2o,a3v,↓a8I,hyp,e2,e9,e10,e11,p1,p2,p3,b9,setAt,vbz,a9,a6,↓l9,m9,zA,zB,zC,zD,zE,zF,zG,zH,zI,reduceCtorEq,zJ,zK,zL,zM]
     exact⟨bz,.inl ⟨oF2,by omega,p0,acc,j5,rfl,rfl,rfl,j9⟩⟩
   |none=>
    have hyp:a3L a.sa.n v.U=y:=by rw[hy];unfold wgt;rw[hqk]
    by_cases hlt:y<acc.2.1
    ·rw[if_pos hlt]at j9
     have b9:=dTz hlt
     simp(disch:=omega)only[a2o,a3v,↓a8I,hyp,fl6,p0,ol6,e2,e9,e10,e11,p1,p2,p3,b9,setAt,vbz,a9,a6,↓l9,m9,zA,zB,zC,zD,zE,zF,zG,zH,zI,reduceCtorEq,zJ,zK,zL,zM]
     exact⟨bz,.inl ⟨oF1,by omega,(kk,y,true),hyi,rfl,rfl,rfl,j9⟩⟩
    ·rw[if_neg hlt]at j9
     have b9:=dFz hlt
     simp(disch:=omega)only[a2o,a3v,↓a8I,hyp,fl6,p0,ol6,e2,e9,e10,e11,p1,p2,p3,b9,setAt,vbz,a9,a6,↓l9,m9,zA,zB,zC,zD,zE,zF,zG,zH,zI,reduceCtorEq,zJ,zK,zL,zM]
     exact⟨bz,.inl ⟨oF2,by omega,acc,j5,rfl,rfl,rfl,j9⟩⟩
  ·rintro hh ⟨j1,j2,j3,j4,acc,j5,j6,j7,j8,j9⟩
   rw[vKz,X7]at j9
   rw[j9]at hQ
   refine a8r j4 ?_
   simp(disch:=omega)only[b6j,a3v,↓a8I,e9,e10,e11,j6,j8,a6,↓l9,m9,zA,zB,zC,zD,zE,zF,zG,zH,zI,reduceCtorEq,zJ,zK,zL,zM]
   refine hQ _ ⟨j1.next,fun b hb=>?_⟩
   rw[a6 _ _ (by omega)];exact j1.obj b hb
end
theorem c9e{a b:Int}(h:a<=b):O4 a<=O4 b:=by
 unfold O4
 split
 ·split
  ·omega
  ·split<;>omega
 ·split
  ·split
   ·omega
   ·split<;>omega
  ·split
   ·omega
   ·split<;>omega
theorem a8l(h:Heap)(a b:Int)(ha:D5 a)(hb:D5 b)(hp:D5 (a*b))(Q:Value->Heap->Prop):u9 cp 161 [.int .i64 a,.int .i64 b] h Q↔Q (.int .i64 (a*b)) h:=by
 refine v9 ?_ Q
 rw[a8 cp e6b]
 have f:=fun h=>d9A h a b ha hb
 have w:=a2Y _ hp
 have a1:=dTz hp
 simp(disch:=omega)only[e1h,↓e9X,f,w,a1,↓l9,m9,zA,zB,zC,zD,zE,zF,zG,zH,zI,reduceCtorEq,zJ,zK,zL,zM]
def a3n(r:RP)(st:List Int)(cs:Nat->List Int)(key:ByteArray)(cost n:Int):Nat->Nat->Int
 |0,k=>n+r.N
 |d+1,k=>if O4 (J7 r st cs key (n+k) 0 r.N+cost)<=r.L then n+k else a3n r st cs key cost n d (k+1)
def a0c(r:RP)(now:Int)(st:List Int)(cs:Nat->List Int)(key:ByteArray)(cost:Int):Int:=
 if O4 (a1T r now st cs key+cost)<=r.L then 0 else a3n r st cs key cost (now / r.W) r.N 1*r.W-now
theorem b4M(r:RP)(st:List Int)(cs:Nat->List Int)(key:ByteArray)(n:Int)(into k:Nat):D5 (J7 r st cs key n into k):=by
 cases k with
 |zero=>exact(by unfold J7 D5;omega)
 |succ k=>exact a3d _
section
variable {h h' :Heap} {r:RP} {now:Int} {st:List Int} {cs:Nat->List Int}
theorem e2h(R:RingAt h r now st cs)(hnow:0<=now/\now<=4611686018427387904)(k:Nat)(hk:k<=r.N):(now / r.W+k)*r.W=(now / r.W)*r.W+k*r.W/\0<=(now / r.W)*r.W/\(now / r.W)*r.W<=now/\now<(now / r.W)*r.W+r.W/\0<=k*r.W/\k*r.W<=71468255805440:=by
 have hN:=R.hN
 have hW:=R.hW
 have h1:=Int.ediv_mul_add_emod now r.W
 have h2:=Int.emod_nonneg now (show r.W≠0 by omega)
 have h3:=Int.emod_lt_of_pos now (show 0<r.W by omega)
 have h4:(k:Int)*r.W<=65*1099511627776:=vHz (by omega) hW.2 (by omega) (by omega)
 have h5:0<=(k:Int)*r.W:=uzO (by omega) (by omega)
 have h6:0<=now / r.W:=Int.ediv_nonneg hnow.1 (by omega)
 have h7:0<=(now / r.W)*r.W:=uzO h6 (by omega)
 refine⟨Int.add_mul _ _ _,h7,by omega,by omega,h5,by omega⟩
theorem c7E(R:RingAt h r now st cs)(hnow:0<=now/\now<=4611686018427387904)(key:ByteArray)(hs:key.size<=140737488355328)(cost:Int)(hc:D5 cost)
  (pos:∀i,0<=H0 r st cs key i/\H0 r st cs key i<=9223372036854775807) {Q:Value->Heap->Prop}
  (hQ:∀h',Old h h' ->Q (.int .i64 (a0c r now st cs key cost)) h'):u9 cp 137 [.pointer (some ⟨r.x,0,none⟩),.string key,.int .i64 cost] h Q:=by
 rw[a8 cp e5F]
 simp(disch:=omega)only[a8M,↓b5P,E5,↓l9,m9,zA,zB,zC,zD,zE,zF,zG,zH,zI,reduceCtorEq,zJ,zK,zL,zM]
 refine K3 R (by omega) key hs pos fun h1 o1=>?_
 have R1:=R.old o1
 have ox0:=R.ox
 have ox:=R1.ox
 have hN:=R.hN
 have hW:=R.hW
 have hL:=R.hL
 have ei:D5 (a1T r now st cs key):=b4M _ _ _ _ _ _ _
 have fs:=fun h=>P6 h (a1T r now st cs key) cost ei hc
 unfold a0c at hQ
 by_cases c:O4 (a1T r now st cs key+cost)<=r.L
 ·have a1:=dTz c
  rw[if_pos c]at hQ
  simp(disch:=omega)only[a8M,↓b5P,ox0,ox,fs,a1,E5,↓l9,m9,zA,zB,zC,zD,zE,zF,zG,zH,zI,reduceCtorEq,zJ,zK,zL,zM]
  exact hQ _ o1
 have a1:=dFz c
 rw[if_neg c]at hQ
 have fn:=fun Q=>a3M R1 now (by omega) Q
 obtain⟨n,hn⟩:∃n,n=now / r.W:=⟨_,rfl⟩
 have q0:0<=n:=by rw[hn];exact Int.ediv_nonneg hnow.1 (by omega)
 have q1:n<=now:=by rw[hn];exact Int.ediv_le_self r.W hnow.1
 have sa:=fun k hk=>e2h R1 hnow k hk
 rw[<-hn]at fn hQ sa
 simp(disch:=omega)only[a8M,↓b5P,ox0,ox,fs,a1,fn,E5,↓l9,m9,zA,zB,zC,zD,zE,zF,zG,zH,zI,reduceCtorEq,zJ,zK,zL,zM]
 refine A6 cp a5i _ (fun d e hh=>∃k:Nat,k+d=r.N+1/\1<=k/\Old h hh/\a3n r st cs key cost n d k=a3n r st cs key cost n r.N 1/\e 0=.pointer (some ⟨r.x,0,none⟩)/\e 1=.string key/\e 2=.int .i64 cost/\e 7=.int .i64 n/\e 8=.int .i64 k) ?_ r.N _ _
  ⟨1,by omega,by omega,o1,rfl,rfl,rfl,rfl,rfl,rfl⟩
 rintro d e hh ⟨k,hk,hk1,o,wk,e0,e1,e2,e7,e8⟩
 have R1:=R.old o
 have ox:=R1.ox
 by_cases ck:k<=r.N
 ·have b1:decide ((k:Int)<=(r.N:Int))=true:=dTz (by omega)
  obtain⟨s1,s2,s3,s4,s5,s6⟩:=sa k ck
  simp(disch:=omega)only[a5i,a8M,↓b5P,e0,e1,e2,e7,e8,b1,ox,E5,↓l9,m9,zA,zB,zC,zD,zE,zF,zG,zH,zI,reduceCtorEq,zJ,zK,zL,zM]
  refine c7e R1 (n+k) (by omega) 0 (by omega) key hs pos fun h2 o2=>?_
  have R2:=R1.old o2
  have ox0:=R1.ox
  have ox:=R2.ox
  have fs:=fun h=>P6 h (J7 r st cs key (n+k) 0 r.N) cost (b4M _ _ _ _ _ _ _) hc
  have nx:(k:Int)+1=((k+1:Nat):Int):=by omega
  obtain⟨d,rfl⟩:∃d',d=d' +1:=⟨d-1,by omega⟩
  simp only[a3n]at wk
  by_cases c2:O4 (J7 r st cs key (n+k) 0 r.N+cost)<=r.L
  ·have a2:=dTz c2
   rw[if_pos c2]at wk
   rw[<-wk]at hQ
   have hp:D5 ((n+k)*r.W):=by unfold D5;omega
   have fp:=fun h=>a8l h (n+k) r.W (by unfold D5;omega) (by unfold D5;omega) hp
   have fm:=fun h=>P6 h ((n+k)*r.W) (0-now) hp (by unfold D5;omega)
   have ne:O4 ((n+k)*r.W+(0-now))=(n+k)*r.W-now:=by rw[S8 (by unfold D5;omega)];omega
   rw[ne]at fm
   simp(disch:=omega)only[a8M,↓b5P,e0,e1,e2,e7,e8,ox0,ox,fs,a2,fp,fm,E5,↓l9,m9,zA,zB,zC,zD,zE,zF,zG,zH,zI,reduceCtorEq,zJ,zK,zL,zM]
   exact hQ _ (o.trans o2)
  ·have a2:=dFz c2
   rw[if_neg c2]at wk
   simp(disch:=omega)only[a8M,↓b5P,e0,e1,e2,e7,e8,ox0,ox,fs,a2,nx,E5,↓l9,m9,zA,zB,zC,zD,zE,zF,zG,zH,zI,reduceCtorEq,zJ,zK,zL,zM]
   refine⟨d,by omega,k+1,by omega,by omega,o.trans o2,wk,?_⟩
   repeat' first|assumption|rfl|apply And.intro
 ·have b1:decide ((k:Int)<=(r.N:Int))=false:=dFz (by omega)
  obtain rfl:d=0:=by omega
  simp only[a3n]at wk
  rw[<-wk]at hQ
  obtain⟨s1,s2,s3,s4,s5,s6⟩:=sa r.N (uzP _)
  have hp:D5 ((n+r.N)*r.W):=by unfold D5;omega
  have fp:=fun h=>a8l h (n+r.N) r.W (by unfold D5;omega) (by unfold D5;omega) hp
  have fm:=fun h=>P6 h ((n+r.N)*r.W) (0-now) hp (by unfold D5;omega)
  have ne:O4 ((n+r.N)*r.W+(0-now))=(n+r.N)*r.W-now:=by rw[S8 (by unfold D5;omega)];omega
  rw[ne]at fm
  simp(disch:=omega)only[a5i,a8M,↓b5P,e0,e1,e2,e7,e8,b1,ox,fp,fm,E5,↓l9,m9,zA,zB,zC,zD,zE,zF,zG,zH,zI,reduceCtorEq,zJ,zK,zL,zM]
  exact hQ _ o
end
def Pos(cs:Nat->List Int):Prop:=∀i j,0<=X8 (cs i) j/\X8 (cs i) j<=9223372036854775807
theorem a2T(n j:Nat):X8 (vaz n 0) j=0:=by
 unfold X8
 rw[List.getElem?_replicate]
 split<;>rfl
theorem Pos.zero(n:Nat):Pos fun _=>vaz n 0:=fun i j=>by rw[a2T];omega
theorem d0i{c:List Int}(h:∀j,0<=X8 c j/\X8 c j<=9223372036854775807)(f:Nat->Nat)(R:Nat)(cost:Int)(j:Nat):0<=X8 (a2J c f R cost) j/\X8 (a2J c f R cost) j<=9223372036854775807:=by
 have h1:=e0P c f R cost j
 have h0:=h j
 refine⟨by omega,?_⟩
 unfold a2J
 split
 ·exact h0.2
 ·have h2:=a2K c f (O4 (N1 c f (R-1)+cost)) R j
  have h3:=a3d (N1 c f (R-1)+cost)
  unfold D5 at h3
  omega
theorem c7W{cs:Nat->List Int}(h:Pos cs)(r:RP)(st:List Int)(n:Int)(j:Nat):0<=X8 (Z3 r st cs n) j/\X8 (Z3 r st cs n) j<=9223372036854775807:=by
 unfold Z3
 split
 ·exact h _ _
 ·rw[a2T];omega
theorem Pos.put{cs:Nat->List Int}(h:Pos cs)(i:Nat){c:List Int}(hc:∀j,0<=X8 c j/\X8 c j<=9223372036854775807):Pos (a2z cs i c):=fun k j=>by
 unfold a2z
 split
 ·exact hc j
 ·exact h k j
theorem Pos.add{cs:Nat->List Int}(h:Pos cs)(r:RP)(st:List Int)(n:Int)(f:Nat->Nat)(cost:Int):Pos (a2z cs (pl r n) (a2J (Z3 r st cs n) f r.rows.length cost)):=h.put _ (d0i (c7W h r st n) _ _ _)
theorem Pos.least{cs:Nat->List Int}(h:Pos cs)(r:RP)(st:List Int)(key:ByteArray):∀i,0<=H0 r st cs key i/\H0 r st cs key i<=9223372036854775807:=fun i=>by
 unfold H0
 split
 ·obtain⟨k,_,e⟩:=a0o (cs (pl r i)) (ix r.rows r.w key) (r.rows.length-1)
  rw[e];exact h _ _
 ·omega
def b5A(f:Nat->Int):Nat->Int
 |0=>0
 |k+1=>b5A f k+f k
theorem b2L{f:Nat->Int}{M:Int}(hM:0<=M):∀K:Nat,(∀k,k<K->0<=f k/\f k<=M)->0<=b5A f K/\b5A f K<=K*M
 |0,_=>by simp[b5A]
 |K+1,h=>by
  have h1:=b2L hM K fun k hk=>h k (by omega)
  have h2:=h K (by omega)
  have e:((K+1:Nat):Int)*M=K*M+M:=by rw[Int.natCast_add,Int.add_mul];simp
  simp only[b5A];rw[e];omega
theorem b0T(r:RP)(st:List Int)(cs:Nat->List Int)(key:ByteArray)(n:Int)(into:Nat){M:Int}(hM:0<=M):∀K:Nat,K*M<=9223372036854775807->(∀k,k<K->0<=a2j r st cs key n into k/\a2j r st cs key n into k<=M)->J7 r st cs key n into K=b5A (a2j r st cs key n into) K
 |0,_,_=>rfl
 |K+1,hK,h=>by
  have e:((K+1:Nat):Int)*M=K*M+M:=by rw[Int.natCast_add,Int.add_mul];simp
  have ih:=b0T r st cs key n into hM K (by omega) fun k hk=>h k (by omega)
  have h1:=b2L hM K fun k hk=>h k (by omega)
  have h2:=h K (by omega)
  simp only[J7,b5A]
  rw[ih,S8 (by unfold D5;omega)]
theorem d8r(m w W:Nat)(hw:w<=W)(hW:1<=W):a1g (m*w) W<=m:=by
 have hmul:m*w<=m*W:=Nat.mul_le_mul_left m hw
 have hq:m*w / W<=m:=Nat.div_le_of_le_mul (by rw[Nat.mul_comm W];exact hmul)
 unfold a1g
 split
 ·exact hq
 ·rename_i hne
  have h1:=Nat.div_add_mod (m*w) W
  have h2:W*(m*w / W)<W*m:=by rw[Nat.mul_comm W m];omega
  have:=Nat.lt_of_mul_lt_mul_left h2
  omega
theorem eldN_le'(r:RP)(hW:1<=r.W)(m into:Nat):b2c r m into<=m:=by
 unfold b2c
 split
 ·exact d8r _ _ _ (by omega) (by omega)
 ·omega
def Bd(cs:Nat->List Int)(M:Int):Prop:=∀i j,X8 (cs i) j<=M
theorem Bd.zero(n:Nat){M:Int}(hM:0<=M):Bd (fun _=>vaz n 0) M:=fun i j=>by rw[a2T];exact hM
theorem Bd.least{cs:Nat->List Int}{M:Int}(hM:0<=M)(b:Bd cs M)(r:RP)(st:List Int)(key:ByteArray)(n:Int):H0 r st cs key n<=M:=by
 unfold H0
 split
 ·obtain⟨k,_,e⟩:=a0o (cs (pl r n)) (ix r.rows r.w key) (r.rows.length-1)
  rw[e];exact b _ _
 ·exact hM
theorem Bd.add{cs:Nat->List Int}{M:Int}(hM:0<=M)(b:Bd cs M)(r:RP)(st:List Int)(n:Int)(f:Nat->Nat)(cost:Int)(hc:0<=cost/\M+cost<=9223372036854775807):Bd (a2z cs (pl r n) (a2J (Z3 r st cs n) f r.rows.length cost)) (M+cost):=fun i j=>by
 have hb:∀j,X8 (Z3 r st cs n) j<=M:=fun j=>by
  unfold Z3
  split
  ·exact b _ _
  ·rw[a2T];exact hM
 unfold a2z
 split
 ·unfold a2J
  split
  ·have:=hb j;omega
  ·have h2:=a2K (Z3 r st cs n) f (O4 (N1 (Z3 r st cs n) f (r.rows.length-1)+cost)) r.rows.length j
   obtain⟨k,_,e⟩:=a0o (Z3 r st cs n) f (r.rows.length-1)
   have h3:=hb (f k)
   have h4:=hb j
   have h5:=c9e (show N1 (Z3 r st cs n) f (r.rows.length-1)+cost<=M+cost by omega)
   rw[S8 (show D5 (M+cost) by unfold D5;omega)]at h5
   omega
 ·have:=b i j;omega
theorem Bd.mono{cs:Nat->List Int}{M M' :Int}(b:Bd cs M)(h:M<=M'):Bd cs M' :=fun i j=>Int.le_trans (b i j) h
section
variable {r:RP} {now:Int} {st:List Int} {cs:Nat->List Int}
theorem c7B(hW:1<=r.W)(k0:Pos cs){M:Int}(hM:0<=M)(b:Bd cs M)(key:ByteArray)(n:Int)(into k:Nat):0<=a2j r st cs key n into k/\a2j r st cs key n into k<=M:=by
 have h1:=(k0.least r st key (n-r.N+1+k)).1
 have h2:=b.least hM r st key (n-r.N+1+k)
 have h3:=eldN_le' r hW (H0 r st cs key (n-r.N+1+k)).toNat into
 unfold a2j
 split<;>omega
theorem c7b(hW:1<=r.W)(hN:r.N<=65)(k0:Pos cs){M:Int}(hM:0<=M/\M<=141898031336227320)(b:Bd cs M)(key:ByteArray)(n:Int)(into:Nat):
  J7 r st cs key n into r.N=b5A (a2j r st cs key n into) r.N/\0<=J7 r st cs key n into r.N/\J7 r st cs key n into r.N<=65*M:=by
 have h1:(r.N:Int)*M<=65*M:=Int.mul_le_mul_of_nonneg_right (by omega) hM.1
 have e:=b0T r st cs key n into hM.1 r.N (by omega) fun k _=>c7B hW k0 hM.1 b key n into k
 have h2:=b2L hM.1 r.N fun k _=>c7B hW k0 hM.1 b key n into k (r:=r) (st:=st)
 rw[e];exact⟨rfl,h2.1,by omega⟩
end
end Go.Proofs.YtlakhgibjfmjjaaGreat.Can
namespace Go.Proofs.YtlakhgibjfmjjaaGreat.Can
open Go
abbrev EvT' :=Int×ByteArray×Bool×Int
def V9(rp:RP)(g:RingV)(key:ByteArray):Int:=a1T rp g.now g.st g.cs key
def a0e(rp:RP)(g:RingV)(key:ByteArray)(cost:Int):RingV:=
 ⟨g.now,g.st.set (pl rp (g.now / rp.W)) (g.now / rp.W+1),a2z g.cs (pl rp (g.now / rp.W)) (a2J (Z3 rp g.st g.cs (g.now / rp.W)) (ix rp.rows rp.w key) rp.rows.length cost)⟩
def a8S(R:RuleV)(v:LV)(now:Int)(key:ByteArray):Option ByteArray:=match Y1 R.Wd now v.P 0 R.C with
 |some o=>some o
 |none=>if(a1i R.C R.T v key).2 then some (a1i R.C R.T v key).1 else none
def A5(v:LV)(i:Nat):F1:=v.P.cells.getD i (0,0,0,0)
def F8(R:RuleV)(rp:RP)(v:LV)(now:Int)(key:ByteArray):Option Nat×List EvT' ×LV:=
 match plK R.C v.P.keys key with
 |some k=>(some k,[],v)
 |none=>match v.P.fl with
  |i::fl=>(some i,[(0,key,true,now)],{ v with P:=⟨Keys.kset v.P.keys i (some key),fl,v.P.cells.set i (now,now,V9 rp v.G key,0)⟩ })
  | []=>match a8S R v now key with
   |none=>(none,[],v)
   |some out=>match plK R.C v.P.keys out with
    |none=>(none,[],v)
    |some i=>
     let c:=A5 v i
     let g:=a0e rp v.G out (Cl.bdN c.1 c.2.1 c.2.2.2 R.u R.Wd R.L now)
     (some i,[(0,out,false,now),(0,key,true,now)],{ v with G:=g,P:=⟨Keys.kset (Keys.kset v.P.keys i none) i (some key),[],v.P.cells.set i (now,now,V9 rp g key,0)⟩ })
theorem a7U{W now:Int}{v:PV}:∀(d i:Nat) {key:ByteArray},Y1 W now v i d=some key->∃k,i<=k/\k<i+d/\v.keys k=some key
 |0,i,key,h=>by cases h
 |d+1,i,key,h=>by
  unfold Y1 at h
  split at h
  ·rename_i ky c h1 h2
   split at h
   ·obtain rfl:=uzA h;exact⟨i,uzP _,by omega,h1⟩
   ·obtain⟨k,h3,h4,h5⟩:=a7U d (i+1) h;exact⟨k,by omega,by omega,h5⟩
  ·obtain⟨k,h3,h4,h5⟩:=a7U d (i+1) h;exact⟨k,by omega,by omega,h5⟩
theorem a7G{wt:ByteArray->Int}{v:PV}:∀(d i:Nat) {acc:ByteArray×Int×Bool},(X7 wt v i d acc).2.2=true->(acc.2.2=true/\(X7 wt v i d acc).1=acc.1)\/∃k,i<=k/\k<i+d/\v.keys k=some (X7 wt v i d acc).1
 |0,i,acc,h=> .inl ⟨h,rfl⟩
 |d+1,i,acc,h=>by
  unfold X7 at h ⊢
  split
  ·rename_i k hk
   simp only[hk]at h
   rcases a7G d (i+1) h with⟨h1,h2⟩| ⟨k',h3,h4,h5⟩
   ·split at h1
    ·rename_i hlt
     right
     refine⟨i,uzP _,by omega,?_⟩
     rw[h2,if_pos hlt];exact hk
    ·rename_i hlt
     left
     refine⟨h1,?_⟩
     rw[h2,if_neg hlt]
   ·exact .inr ⟨k',by omega,by omega,h5⟩
  ·rename_i hk
   simp only[hk]at h
   rcases a7G d (i+1) h with h1| ⟨k',h3,h4,h5⟩
   ·exact .inl h1
   ·exact .inr ⟨k',by omega,by omega,h5⟩
theorem e1W{R:RuleV}{v:LV}{now:Int}{key out:ByteArray}(h:a8S R v now key=some out)(hi:∀(k l:Nat) (key:ByteArray),k<R.C->l<R.C->v.P.keys k=some key->v.P.keys l=some key->k=l):∃i,plK R.C v.P.keys out=some i:=by
 have fin:∀k,0<=k->k<0+R.C->v.P.keys k=some out->∃i,plK R.C v.P.keys out=some i:=fun k _ h2 h3=>⟨k,b6W (by omega) h3 hi⟩
 unfold a8S at h
 split at h
 ·rename_i o ho
  obtain rfl:=uzA h
  obtain⟨k,h1,h2,h3⟩:=a7U _ _ ho
  exact fin k h1 h2 h3
 ·split at h
  ·rename_i hc
   obtain rfl:=uzA h
   unfold a1i at hc fin ⊢
   split at hc
   ·cases hc
   ·rename_i p hp
    simp only[hp]at hc fin ⊢
    rcases a7G _ _ hc with⟨h1,_⟩| ⟨k,h1,h2,h3⟩
    ·cases h1
    ·exact fin k h1 h2 h3
  ·cases h
structure LB(k tm:Int)(v:LV):Prop where
 k0:0<=k/\k<=1000000000
 t0:0<=tm/\tm<=1000000000000000000
 cells:∀(i:Nat) (c:F1),v.P.cells[i]? =some c->(0<=c.1/\c.1<=tm+8192)/\(0<=c.2.1/\c.2.1<=tm)/\(0<=c.2.2.1/\c.2.2.1<=5000*k)/\(0<=c.2.2.2/\c.2.2.2<=32*k)
 pos:Pos v.G.cs
 bd:Bd v.G.cs (64*k)
 now:0<=v.G.now/\v.G.now<=tm
 tot:v.U.tot<=32*k
theorem e1J{rp:RP}{g:RingV}{k:Int}(hW:1<=rp.W)(hN:rp.N<=65)(hp:Pos g.cs)(hb:Bd g.cs (64*k))(hk:0<=k/\k<=1000000000)(key:ByteArray):0<=V9 rp g key/\V9 rp g key<=65*(64*k):=
 (c7b hW hN hp (M:=64*k) (by omega) hb key (g.now / rp.W) (g.now % rp.W).toNat).2
theorem d0r{F S U T W L now:Int}(hU:0<=U)(hL:0<=L):0<=Cl.bdN F S U T W L now/\Cl.bdN F S U T W L now<=L:=by
 unfold Cl.bdN
 split<;>omega
end Go.Proofs.YtlakhgibjfmjjaaGreat.Can
namespace Go.Proofs.YtlakhgibjfmjjaaGreat.Can
open Go
attribute [local congr] u5 u4 l5 l8 r8 s9 u6 w9 u7
variable {Q : Value → Heap → Prop}
abbrev EvE' :Enc EvT' :=Enc.pair (Enc.int .i64) (Enc.pair Enc.str (Enc.pair Enc.bool (Enc.int .i64)))
def e2O(h h' :Heap)(ev:Value)(l:List EvT'):Prop:=(l=[]/\ev=.slice none 0 0)\/∃b,h.next<=b/\b<h'.next/\ev=.slice (some ⟨b,0,none⟩) l.length l.length/\h'.obj b=.cells (EvE'.all l) 123 .grow
theorem OldR.f{r:RP}{h h' :Heap}(o:OldR r h h'):OldF r.own h h' :=⟨o.next,fun x hx hn=>o.obj x hx (fun e=>hn (.inl e)) (fun e=>hn (.inr (.inr (.inl e)))) (fun i hi e=>hn (.inr (.inr (.inr ⟨i,hi,.inr e⟩))))⟩
theorem RuleV.pace{R:RuleV}(ok:R.OK):Cl.PaceOk R.u R.Wd R.B R.L:=Cl.pace_of ok.Wd.1 ok.Wd.2 ok.B.1 ok.B.2 ok.L.2
theorem b7c:G0 1 [Value.int .i64 0,.string ⟨#[]⟩,.bool false,.int .i64 0]=[Value.int .i64 0,.string ⟨#[]⟩,.bool false,.int .i64 0]:=rfl
theorem b4x{h:Heap}{b:Nat}{c:List Value}(hb:h.obj b=.cells c 123 .grow)(hc:c.length=4):C7 (.append 123 4 40 (.slice none 0 0) (.slice (some ⟨b,0,none⟩) 1 1)) h=some (.slice (some ⟨h.next,0,none⟩) 1 1,h.new (.cells c 123 .grow)):=by
 simp[C7,M8,D1,hb,Obj.src,hc]
 rw[vnz (by omega)]
theorem d8B{h:Heap}{b b' :Nat}{c c' :List Value}(hb:h.obj b=.cells c 123 .grow)(hc:c.length=4)(hb' :h.obj b' =.cells c' 123 .grow)(hc' :c'.length=4):
  C7 (.append 123 4 40 (.slice (some ⟨b',0,none⟩) 1 1) (.slice (some ⟨b,0,none⟩) 1 1)) h=some (.slice (some ⟨h.next,0,none⟩) 2 2,(h.upd b' .gone).new (.cells (c' ++c) 123 .grow)):=by
 simp[C7,M8,D1,hb,hb',Obj.src,hc,hc']
 rw[vnz (by omega),vnz (by omega)]
section
variable {h:Heap} {a:LA} {v:LV}
theorem Lmt.pOwn(L:Lmt h a v){z:Nat}(hz:z∈a.pa.own):a.own z:=by
 have:=L.geo.ip z hz;have:=L.geo.ib;unfold LA.own;omega
theorem Lmt.uOwn(L:Lmt h a v){z:Nat}(hz:z∈a.sa.own):a.own z:=by
 have:=L.geo.iu z hz;have:=L.geo.ib;unfold LA.own;omega
theorem Lmt.gOwn(L:Lmt h a v){z:Nat}(hz:a.rp.own z):a.own z:=by
 have:=L.geo.ig z hz;have:=L.geo.ib;unfold LA.own;omega
theorem b5k(L:Lmt h a v){k tm:Int}(B:LB k tm v){now:Int}(hnow:0<=now/\now<=tm){key:ByteArray}(hs:key.size<=64)
  (hQ:∀h' ev,OldF a.own h h' ->Lmt h' a (F8 a.R a.rp v now key).2.2->e2O h h' ev (F8 a.R a.rp v now key).2.1->Q (.tuple #[.pointer ((F8 a.R a.rp v now key).1.map fun i=>⟨a.pa.cb,i*4,none⟩),ev]) h'):
  u9 cp 131 [.pointer (some ⟨a.p,0,none⟩),.int .i64 now,.string key] h Q:=by
 rw[a8 cp e5A]
 have ol:=L.ol
 have pn:=L.geo.pn
 have t0:=B.t0
 simp(disch:=omega)only[a0l,↓a0R,ol,↓l9,m9,zA,zB,zC,zD,zE,zF,zG,zH,zI,reduceCtorEq,zJ,zK,zL,zM]
 refine b5b L.P (by omega) fun h1 o1=>?_
 have L1:=L.old o1
 have ol1:=L1.ol
 cases hq:plK a.pa.n v.P.keys key with
 |some i=>
  have hr:F8 a.R a.rp v now key=(some i,[],v):=by unfold F8;rw[<-pn,hq]
  rw[hr]at hQ
  simp(disch:=omega)only[a0l,↓a0R,vlz,E5,↓l9,m9,zA,zB,zC,zD,zE,zF,zG,zH,zI,reduceCtorEq,zJ,zK,zL,zM]
  exact hQ _ _ (o1.f _) L1 (.inl ⟨rfl,rfl⟩)
 |none=>
  have ff:=fun Q=>b5c L1.P Q
  have hW:=L.G.hW
  have hN:=L.G.hN
  have est:=fun(g:RingV) (hp:Pos g.cs) (hb:Bd g.cs (64*k))=>e1J (rp:=a.rp) hW.1 hN.2 hp hb B.k0
  cases hfl:v.P.fl with
  |cons i fl=>
   have hr:F8 a.R a.rp v now key=(some i,[(0,key,true,now)],{ v with P:=⟨Keys.kset v.P.keys i (some key),fl,v.P.cells.set i (now,now,V9 a.rp v.G key,0)⟩ }):=by unfold F8;rw[<-pn,hq,hfl]
   rw[hr]at hQ
   have b1:decide (v.P.fl=[])=false:=by rw[hfl];simp
   simp(disch:=omega)only[a0l,↓a0R,Option.map_none,ff,b1,ol1,E5,↓l9,m9,zA,zB,zC,zD,zE,zF,zG,zH,zI,reduceCtorEq,zJ,zK,zL,zM]
   have hb:=B.now
   refine K3 L1.G (by omega) key (by omega) (fun i=>B.pos.least a.rp v.G.st key i) fun h2 o2=>?_
   have L2:=L1.old o2
   have ol2:=L2.ol
   simp(disch:=omega)only[a0l,↓a0R,ol1,ol2,E5,↓l9,m9,zA,zB,zC,zD,zE,zF,zG,zH,zI,reduceCtorEq,zJ,zK,zL,zM]
   refine Cl.cnew_ok h2 now (a1T a.rp v.G.now v.G.st v.G.cs key) fun h3 o3=>?_
   have L3:=L2.old o3
   have ol3:=L3.ol
   simp(disch:=omega)only[a0l,↓a0R,ol1,ol2,ol3,E5,↓l9,m9,zA,zB,zC,zD,zE,zF,zG,zH,zI,reduceCtorEq,zJ,zK,zL,zM]
   refine c7r L3.P hs (now,now,a1T a.rp v.G.now v.G.st v.G.cs key,0) hfl hq fun h4 o4 P4=>?_
   have L4:=L3.setP o4 P4
   obtain⟨h5,h5d,o5,_,g5⟩:=K2 h4 (.cells [.int .i64 0,.string key,.bool true,.int .i64 now] 123 .grow)
   have ap:=b4x g5 rfl
   simp(disch:=omega)only[a0l,↓a0R,b7c,y6,setAt,vbz,vez,<-h5d,↓ap,E5,↓l9,m9,zA,zB,zC,zD,zE,zF,zG,zH,zI,reduceCtorEq,zJ,zK,zL,zM]
   have o6:Old h5 (h5.new (.cells [.int .i64 0,.string key,.bool true,.int .i64 now] 123 .grow)):=(Old.refl h5).more _
   have x1:=o1.next
   have x2:=o2.next
   have x3:=o3.next
   have x4:=o4.next
   have x5:=o5.next
   refine hQ _ _ (((((o1.trans o2).trans o3).f _).trans (o4.mono fun z hz=>L3.pOwn hz)).trans ((o5.trans o6).f _)) ((L4.old o5).old o6) (.inr ⟨h5.next,by omega,vpz _,rfl,f9 _ _⟩)
  |nil=>
   have b1:decide (v.P.fl=[])=true:=by rw[hfl];simp
   have hi:=L.P.ok
   have pk:=RuleV.pace L.geo.ok
   have okL:=L.geo.ok.L
   have evict:∀(hh:Heap) (e:a7) (out:ByteArray),Lmt hh a v->OldF a.own h hh->a8S a.R v now key=some out->e 0=.pointer (some ⟨a.p,0,none⟩)->e 1=.int .i64 now->e 2=.string key->e 9=.slice none 0 0->e 10=.string out->
     u9 cp 153 [.pointer (some ⟨a.pa.p,0,none⟩),.string out] hh (a0G cp (fun t58=> .op (.mv t58) fun t52=> .op (.extract t52 0) fun t59=>a1d e t52 t59)
      (a1X cp (.seq (.region a6f) (.region a6g)) (a1X cp (.seq (.region a6h) (.seq (.region a6i) .ret)) (a1t [.t 6,.t 7] Q)))):=by
    intro hh e out LH oh hout e0 e1 e2 e9 e10
    obtain⟨i,hpi⟩:=e1W hout (by rw[<-pn];exact hi.inj)
    have hpi' :plK a.pa.n v.P.keys out=some i:=by rw[pn];exact hpi
    obtain⟨hin,hkey⟩:=F9 hpi'
    have hosz:=hi.size i out hin hkey
    have hcl:=hi.len
    have hci:v.P.cells[i]? =some (A5 v i):=by unfold A5;rw[vcz,uzF (by omega)];rfl
    obtain⟨c1,c2,c3,c4⟩:=B.cells i _ hci
    have k0:=B.k0
    refine b7a LH.P hosz hpi' hci fun h2 o2 P2=>?_
    have L2:=LH.setP o2 P2
    have ol2:=L2.ol
    obtain⟨h3,h3d,o3,_,g3⟩:=T9 h2 (.cells [.int .i64 0,.int .i64 0,.int .i64 0,.int .i64 0] 250 .fix) (.cells (G8.enc (A5 v i)) 250 .fix)
    have L3:=L2.old o3
    have ol3:=L3.ol
    rw[F2]at h3d g3
    simp(disch:=omega)only[a0l,↓a0R,F2,e0,e1,e2,e9,e10,setAt,vbz,vez,<-h3d,g3,ol3,List.drop_succ_cons,vwz,List.take_succ_cons,List.take_zero,E5,↓l9,m9,zA,zB,zC,zD,zE,zF,zG,zH,zI,reduceCtorEq,zJ,zK,zL,zM]
    have sm:∀z,0<=z->z<=tm+8192\/z<=32*k->Cl.Small z:=fun z h1 h2=>by unfold Cl.Small;omega
    refine Cl.bound_ok (F:=(A5 v i).1) (S:=(A5 v i).2.1) (C:=(A5 v i).2.2.1) (U:=(A5 v i).2.2.2) h3 pk (sm _ c1.1 (.inl c1.2)) (sm _ c2.1 (.inl (by omega))) (sm _ c4.1 (.inr c4.2)) (sm _ hnow.1 (.inl (by omega))) fun h4 o4=>?_
    have L4:=L3.old o4
    have ol4:=L4.ol
    have g4:=(o4.obj _ (by have:=o3.next;rw[h3d];exact vpz _)).trans g3
    obtain⟨y,hy⟩:∃y,y=Cl.bdN (A5 v i).1 (A5 v i).2.1 (A5 v i).2.2.2 a.R.u a.R.Wd a.R.L now:=⟨_,rfl⟩
    have yin:=d0r (F:=(A5 v i).1) (S:=(A5 v i).2.1) (T:=a.R.u) (W:=a.R.Wd) (now:=now) c4.1 (show 0<=a.R.L by omega)
    rw[<-hy]at yin
    rw[<-hy]
    have hb:=B.now
    simp(disch:=omega)only[a0l,↓a0R,e0,e1,e2,e9,e10,ol4,g4,E5,↓l9,m9,zA,zB,zC,zD,zE,zF,zG,zH,zI,reduceCtorEq,zJ,zK,zL,zM]
    refine c7u L4.G (by show 0<=v.G.now/\v.G.now<=9223372036854770000;omega) out (by omega) y (by unfold D5;omega) fun h5 o5 G5=>?_
    have L5:=L4.setG (g:=a0e a.rp v.G out y) o5.f G5
    have ol5:=L5.ol
    obtain⟨h6,h6d,o6,_,g6⟩:=K2 h5 (.cells [.int .i64 0,.string out,.bool false,.int .i64 now] 123 .grow)
    have ap:=b4x g6 rfl
    obtain⟨h7,h7d,o7,n7,g7⟩:=K2 h6 (.cells [.int .i64 0,.string out,.bool false,.int .i64 now] 123 .grow)
    have L7:=(L5.old o6).old o7
    have ol7:=L7.ol
    simp(disch:=omega)only[a0l,↓a0R,e0,e1,e2,e9,e10,b7c,y6,setAt,vbz,vez,<-h6d,↓ap,<-h7d,ol7,E5,↓l9,m9,zA,zB,zC,zD,zE,zF,zG,zH,zI,reduceCtorEq,zJ,zK,zL,zM]
    have p7:Pos (a0e a.rp v.G out y).cs:=B.pos.add a.rp v.G.st _ _ _
    refine K3 L7.G (by show 0<=v.G.now/\v.G.now<=9223372036854770000;omega) key (by omega) (fun j=>p7.least a.rp _ key j) fun h8 o8=>?_
    have L8:=L7.old o8
    have ol8:=L8.ol
    simp(disch:=omega)only[a0l,↓a0R,ol7,ol8,E5,↓l9,m9,zA,zB,zC,zD,zE,zF,zG,zH,zI,reduceCtorEq,zJ,zK,zL,zM]
    refine Cl.cnew_ok h8 now _ fun h9 o9=>?_
    have L9:=L8.old o9
    have ol9:=L9.ol
    simp(disch:=omega)only[a0l,↓a0R,ol7,ol8,ol9,E5,↓l9,m9,zA,zB,zC,zD,zE,zF,zG,zH,zI,reduceCtorEq,zJ,zK,zL,zM]
    have hno:plK a.pa.n (Keys.kset v.P.keys i none) key=none:=by
     cases hq2:plK a.pa.n (Keys.kset v.P.keys i none) key with
     |none=>rfl
     |some l=>
      obtain⟨g1,g2⟩:=F9 hq2
      unfold Keys.kset at g2
      split at g2
      ·cases g2
      ·exact absurd g2 (a8k hq l g1)
    refine c7r L9.P hs (now,now,V9 a.rp (a0e a.rp v.G out y) key,0) (fl:=v.P.fl) rfl hno fun h10 o10 P10=>?_
    have L10:=L9.setP o10 P10
    have lt7:a.b5<=h6.next:=(L5.old o6).geo.lt
    have x8:=o8.next
    have x9:=o9.next
    have x10:=o10.next
    have g10:h10.obj h6.next=.cells [.int .i64 0,.string out,.bool false,.int .i64 now] 123 .grow:=by
     rw[o10.obj _ (by omega) (fun hm=>by have:=L9.geo.ip _ hm;have:=L9.geo.ib;omega),o9.obj _ (by omega),o8.obj _ (by omega)];exact g7
    obtain⟨h11,h11d,o11,n11,g11⟩:=K2 h10 (.cells [.int .i64 0,.string key,.bool true,.int .i64 now] 123 .grow)
    have ap2:=d8B g11 rfl ((o11.obj _ (by omega)).trans g10) rfl
    simp(disch:=omega)only[a0l,↓a0R,e0,e1,e2,e9,e10,b7c,y6,setAt,vbz,vez,<-h11d,↓ap2,E5,↓l9,m9,zA,zB,zC,zD,zE,zF,zG,zH,zI,reduceCtorEq,zJ,zK,zL,zM]
    have hr:F8 a.R a.rp v now key=(some i,[(0,out,false,now),(0,key,true,now)],{ v with G:=a0e a.rp v.G out y,P:=⟨Keys.kset (Keys.kset v.P.keys i none) i (some key),v.P.fl,v.P.cells.set i (now,now,V9 a.rp (a0e a.rp v.G out y) key,0)⟩ }):=by
     unfold F8
     rw[<-pn,hq]
     simp only[hfl,hout,hpi',<-hy]
    rw[hr]at hQ
    have oA:OldF a.own h h11:=oh.trans ((o2.mono fun z hz=>L.pOwn hz).trans (((o3.trans o4).f _).trans ((o5.f.mono fun z hz=>L.gOwn hz).trans (((((o6.trans o7).trans o8).trans o9).f _).trans ((o10.mono fun z hz=>L.pOwn hz).trans (o11.f _))))))
    have x6:h.next<=h6.next:=uzR oh.next (uzR o2.next (uzR (o3.trans o4).next (uzR o5.next o6.next)))
    have oZ:OldF (fun z=>z=h6.next) h11 ((h11.upd h6.next .gone).new (.cells ([.int .i64 0,.string out,.bool false,.int .i64 now]++[.int .i64 0,.string key,.bool true,.int .i64 now]) 123 .grow)):=⟨vLz _,fun b hb hn=>by rw[f4 _ _ (by show b≠h11.next;omega),a6 _ _ hn]⟩
    refine hQ _ _ ⟨uzR oA.next oZ.next,fun b hb hn=>?_⟩ ((L10.old o11).oldF oZ fun z hz he=>by have:=hz.2;omega) (.inr ⟨h11.next,by have:=oA.next;omega,vpz _,rfl,f9 _ _⟩)
    rw[oZ.obj b (uzN hb oA.next) (by omega)];exact oA.obj b hb hn
   have ol1' :=L1.ol
   simp(disch:=omega)only[a0l,↓a0R,Option.map_none,ff,b1,ol1,E5,List.drop_succ_cons,vwz,List.take_succ_cons,List.take_zero,↓l9,m9,zA,zB,zC,zD,zE,zF,zG,zH,zI,reduceCtorEq,zJ,zK,zL,zM]
   refine b5e L1.P pk (fun j c hj=>by obtain⟨_,c2,_⟩:=B.cells j c hj;unfold Cl.Small;omega) (by unfold Cl.Small;omega) fun h2 o2=>?_
   have L2:=L1.old o2
   have ol2:=L2.ol
   cases hid:Y1 a.R.Wd now v.P 0 a.pa.n with
   |some out=>
    have hout:a8S a.R v now key=some out:=by unfold a8S;rw[<-pn,hid]
    simp(disch:=omega)only[a0l,↓a0R,c7i,vFz,Option.isSome_some,ol2,E5,↓l9,m9,zA,zB,zC,zD,zE,zF,zG,zH,zI,reduceCtorEq,zJ,zK,zL,zM]
    exact evict h2 _ out L2 ((o1.trans o2).f _) hout rfl rfl rfl rfl rfl
   |none=>
    simp(disch:=omega)only[a0l,↓a0R,c7i,Option.getD_none,Option.isSome_none,ol2,E5,↓l9,m9,zA,zB,zC,zD,zE,zF,zG,zH,zI,reduceCtorEq,zJ,zK,zL,zM]
    refine c8z L2 (by omega) fun h3 o3=>?_
    have L3:=L2.old o3
    have ol3:=L3.ol
    cases hck:(a1i a.R.C a.R.T v key).2 with
    |false=>
     have hout:a8S a.R v now key=none:=by unfold a8S;rw[<-pn,hid];simp only[pn,hck];rfl
     have hr:F8 a.R a.rp v now key=(none,[],v):=by
      unfold F8
      rw[<-pn,hq]
      simp only[hfl,hout]
     rw[hr]at hQ
     simp(disch:=omega)only[a0l,↓a0R,ol3,E5,↓l9,m9,zA,zB,zC,zD,zE,zF,zG,zH,zI,reduceCtorEq,zJ,zK,zL,zM]
     exact hQ _ _ (((o1.trans o2).trans o3).f _) L3 (.inl ⟨rfl,rfl⟩)
    |true=>
     have hout:a8S a.R v now key=some (a1i a.R.C a.R.T v key).1:=by unfold a8S;rw[<-pn,hid];simp only[pn,hck];rfl
     simp(disch:=omega)only[a0l,↓a0R,ol3,E5,↓l9,m9,zA,zB,zC,zD,zE,zF,zG,zH,zI,reduceCtorEq,zJ,zK,zL,zM]
     exact evict h3 _ _ L3 (((o1.trans o2).trans o3).f _) hout rfl rfl rfl rfl rfl
end
abbrev rc(L W B S C R D T:Int)(m:Bool):List Value:=[.int .i64 L,.int .i64 W,.int .i64 B,.int .i64 S,.int .i64 C,.int .i64 R,.int .i64 D,.int .i64 T,.bool m]
def K8(L W B S C R D T:Int)(m:Bool):Prop:=
 (1<=L/\L<=2147483648)/\(1<=W/\W<=1099511627776)/\(1<=B/\B<=L)/\(1<=S/\S<=64)/\(W % S=0)/\(1<=C/\C<=1024)/\(1<=R/\R<=8)/\(1<=D/\D<=4096)/\(1<=T/\T<=64)/\(m=true->2<=S)/\(B*T3 W (L+1-B)<=1152921504606846976)
instance (L W B S C R D T:Int) (m:Bool):Decidable (K8 L W B S C R D T m):=by unfold K8;infer_instance
theorem a4C(W D:Int)(hW:1<=W)(hD:1<=D):1<=T3 W D/\T3 W D<=W:=by
 have h1:=Int.mul_ediv_add_emod W D
 have h4:=Int.emod_nonneg W (show D≠0 by omega)
 have h5:=Int.emod_lt_of_pos W (show 0<D by omega)
 have h0:0<=W / D:=Int.ediv_nonneg (by omega) (by omega)
 have h2:W / D<=W:=Int.ediv_le_self D (by omega)
 unfold T3
 split
 ·rename_i hr
  rw[hr,Int.add_zero]at h1
  refine⟨?_,h2⟩
  rcases Int.lt_or_eq_of_le h0 with h|h
  ·omega
  ·rw[<-h]at h1;simp at h1;omega
 ·refine⟨by omega,?_⟩
  by_cases hd:D=1
  ·subst hd;omega
  ·have:=Int.ediv_lt_self_of_pos_of_ne_one (x:=W) (y:=D) (by omega) hd
   omega
theorem b1t(h:Heap)(n m:Int)(Q:Value->Heap->Prop):u9 cp 54 [.int .i64 n,.int .i64 m] h Q↔Q (.bool (decide (1<=n/\n<=m))) h:=by
 refine v9 ?_ Q
 rw[a8 cp f0H]
 by_cases c:1<=n
 ·have a1:decide (n>=1)=true:=dTz c
  simp(disch:=omega)only[c54,↓R54,a1,↓l9,m9,zA,zB,zC,zD,zE,zF,zG,zH,zI,reduceCtorEq,zJ,zK,zL,zM]
  exact(by simp[c])
 ·have a1:decide (n>=1)=false:=dFz c
  simp(disch:=omega)only[c54,↓R54,a1,↓l9,m9,zA,zB,zC,zD,zE,zF,zG,zH,zI,reduceCtorEq,zJ,zK,zL,zM]
  exact(by simp[c])
theorem b2w(h:Heap)(L W B S C R D T:Int)(m:Bool)(Q:Value->Heap->Prop):
  u9 cp 55 [.agg #[.int .i64 L,.int .i64 W,.int .i64 B,.int .i64 S,.int .i64 C,.int .i64 R,.int .i64 D,.int .i64 T,.bool m]] h Q↔Q (.bool (decide (K8 L W B S C R D T m))) (h.new (.cells (rc L W B S C R D T m) 34 .fix)):=by
 refine v9 ?_ Q
 rw[a8 cp f0I]
 have f:=b1t (h.new (.cells (rc L W B S C R D T m) 34 .fix))
 by_cases c0:1<=L/\L<=2147483648
 rotate_left
 ·have w:=dFz c0
  cases z:(L==0 && (W==0 && (B==0 && (S==0 && (C==0 && (R==0 && (D==0 && (T==0 && m==false))))))))
  all_goals
   simp(disch:=omega)only[c55,↓R55,eqL,E5,f,z,w,↓l9,m9,zA,zB,zC,zD,zE,zF,zG,zH,zI,reduceCtorEq,zJ,zK,zL,zM]
   exact(by rw[show decide (K8 L W B S C R D T m)=false from dFz fun q=>c0 q.1])
 have z:(L==0)=false:=beq_eq_false_iff_ne.2 (by omega)
 have w0:=dTz c0
 by_cases c1:1<=W/\W<=1099511627776
 rotate_left
 ·have w:=dFz c1
  simp(disch:=omega)only[c55,↓R55,eqL,E5,f,z,Bool.false_and,w0,w,↓l9,m9,zA,zB,zC,zD,zE,zF,zG,zH,zI,reduceCtorEq,zJ,zK,zL,zM]
  exact(by rw[show decide (K8 L W B S C R D T m)=false from dFz fun q=>c1 q.2.1])
 have w1:=dTz c1
 by_cases c2:1<=B/\B<=L
 rotate_left
 ·have w:=dFz c2
  simp(disch:=omega)only[c55,↓R55,eqL,E5,f,z,Bool.false_and,w0,w1,w,↓l9,m9,zA,zB,zC,zD,zE,zF,zG,zH,zI,reduceCtorEq,zJ,zK,zL,zM]
  exact(by rw[show decide (K8 L W B S C R D T m)=false from dFz fun q=>c2 q.2.2.1])
 have w2:=dTz c2
 by_cases c3:1<=S/\S<=64
 rotate_left
 ·have w:=dFz c3
  simp(disch:=omega)only[c55,↓R55,eqL,E5,f,z,Bool.false_and,w0,w1,w2,w,↓l9,m9,zA,zB,zC,zD,zE,zF,zG,zH,zI,reduceCtorEq,zJ,zK,zL,zM]
  exact(by rw[show decide (K8 L W B S C R D T m)=false from dFz fun q=>c3 q.2.2.2.1])
 have w3:=dTz c3
 have n0:(S=0)=False:=by simp;omega
 have t0:W.tmod S=W % S:=J8 W S (by omega)
 by_cases c4:W % S=0
 rotate_left
 ·have w:(W % S !=0)=true:=bne_iff_ne.2 c4
  simp(disch:=omega)only[c55,↓R55,eqL,E5,f,z,Bool.false_and,w0,w1,w2,w3,n0,t0,w,↓l9,m9,zA,zB,zC,zD,zE,zF,zG,zH,zI,reduceCtorEq,zJ,zK,zL,zM]
  exact(by rw[show decide (K8 L W B S C R D T m)=false from dFz fun q=>c4 q.2.2.2.2.1])
 have w4:(W % S !=0)=false:=by rw[c4];rfl
 by_cases c5:1<=C/\C<=1024
 rotate_left
 ·have w:=dFz c5
  simp(disch:=omega)only[c55,↓R55,eqL,E5,f,z,Bool.false_and,w0,w1,w2,w3,n0,t0,w4,w,↓l9,m9,zA,zB,zC,zD,zE,zF,zG,zH,zI,reduceCtorEq,zJ,zK,zL,zM]
  exact(by rw[show decide (K8 L W B S C R D T m)=false from dFz fun q=>c5 q.2.2.2.2.2.1])
 have w5:=dTz c5
 by_cases c6:1<=R/\R<=8
 rotate_left
 ·have w:=dFz c6
  simp(disch:=omega)only[c55,↓R55,eqL,E5,f,z,Bool.false_and,w0,w1,w2,w3,n0,t0,w4,w5,w,↓l9,m9,zA,zB,zC,zD,zE,zF,zG,zH,zI,reduceCtorEq,zJ,zK,zL,zM]
  exact(by rw[show decide (K8 L W B S C R D T m)=false from dFz fun q=>c6 q.2.2.2.2.2.2.1])
 have w6:=dTz c6
 by_cases c7:1<=D/\D<=4096
 rotate_left
 ·have w:=dFz c7
  simp(disch:=omega)only[c55,↓R55,eqL,E5,f,z,Bool.false_and,w0,w1,w2,w3,n0,t0,w4,w5,w6,w,↓l9,m9,zA,zB,zC,zD,zE,zF,zG,zH,zI,reduceCtorEq,zJ,zK,zL,zM]
  exact(by rw[show decide (K8 L W B S C R D T m)=false from dFz fun q=>c7 q.2.2.2.2.2.2.2.1])
 have w7:=dTz c7
 by_cases c8:1<=T/\T<=64
 rotate_left
 ·have w:=dFz c8
  simp(disch:=omega)only[c55,↓R55,eqL,E5,f,z,Bool.false_and,w0,w1,w2,w3,n0,t0,w4,w5,w6,w7,w,↓l9,m9,zA,zB,zC,zD,zE,zF,zG,zH,zI,reduceCtorEq,zJ,zK,zL,zM]
  exact(by rw[show decide (K8 L W B S C R D T m)=false from dFz fun q=>c8 q.2.2.2.2.2.2.2.2.1])
 have w8:=dTz c8
 have hD:1<=L+1-B:=by omega
 have cr:=a4C W (L+1-B) c1.1 hD
 have g1:=fun h=>c6S h W (L+1-B) (by unfold D5;omega) (by omega) (by unfold D5;omega) hD
 have g2:=fun h=>d9A h B (T3 W (L+1-B)) (by unfold D5;omega) (by unfold D5;omega)
 have hp:0<=B*T3 W (L+1-B):=uzO (by omega) (by omega)
 have ends:∀b:Bool,(m=true->2<=S)->b=decide (B*T3 W (L+1-B)<=1152921504606846976)->(Value.bool b=.bool (decide (K8 L W B S C R D T m))):=fun b c9 hb=>by
  rw[hb];congr 1;rw[decide_eq_decide];unfold K8
  exact⟨fun q=>⟨c0,c1,c2,c3,c4,c5,c6,c7,c8,c9,q⟩,fun q=>q.2.2.2.2.2.2.2.2.2.2⟩
 cases m with
 |false=>
  have c9:false=true->2<=S:=fun h=>absurd h Bool.false_ne_true
  by_cases ci:D5 (B*T3 W (L+1-B))
  ·have wi:=dTz ci
   have we:=a2Y _ ci
   simp(disch:=omega)only[c55,↓R55,eqL,E5,f,z,Bool.false_and,w0,w1,w2,w3,n0,t0,w4,w5,w6,w7,w8,g1,g2,wi,we,↓l9,m9,zA,zB,zC,zD,zE,zF,zG,zH,zI,reduceCtorEq,zJ,zK,zL,zM]
   exact ends _ c9 rfl
  ·have wi:=dFz ci
   simp(disch:=omega)only[c55,↓R55,eqL,E5,f,z,Bool.false_and,w0,w1,w2,w3,n0,t0,w4,w5,w6,w7,w8,g1,g2,wi,↓l9,m9,zA,zB,zC,zD,zE,zF,zG,zH,zI,reduceCtorEq,zJ,zK,zL,zM]
   exact ends _ c9 (dFz (by unfold D5 at ci;omega)).symm
 |true=>
  by_cases cs:S<2
  ·have c9:¬(true=true->2<=S):=fun h=>by have:=h rfl;omega
   have w:=dTz cs
   simp(disch:=omega)only[c55,↓R55,eqL,E5,f,z,Bool.false_and,w0,w1,w2,w3,n0,t0,w4,w5,w6,w7,w8,w,↓l9,m9,zA,zB,zC,zD,zE,zF,zG,zH,zI,reduceCtorEq,zJ,zK,zL,zM]
   exact(by rw[show decide (K8 L W B S C R D T true)=false from dFz fun q=>c9 q.2.2.2.2.2.2.2.2.2.1])
  ·have c9:true=true->2<=S:=fun _=>by omega
   have ws:=dFz cs
   by_cases ci:D5 (B*T3 W (L+1-B))
   ·have wi:=dTz ci
    have we:=a2Y _ ci
    simp(disch:=omega)only[c55,↓R55,eqL,E5,f,z,Bool.false_and,w0,w1,w2,w3,n0,t0,w4,w5,w6,w7,w8,ws,g1,g2,wi,we,↓l9,m9,zA,zB,zC,zD,zE,zF,zG,zH,zI,reduceCtorEq,zJ,zK,zL,zM]
    exact ends _ c9 rfl
   ·have wi:=dFz ci
    simp(disch:=omega)only[c55,↓R55,eqL,E5,f,z,Bool.false_and,w0,w1,w2,w3,n0,t0,w4,w5,w6,w7,w8,ws,g1,g2,wi,↓l9,m9,zA,zB,zC,zD,zE,zF,zG,zH,zI,reduceCtorEq,zJ,zK,zL,zM]
    exact ends _ c9 (dFz (by unfold D5 at ci;omega)).symm
def F7(S C R D T:Int):Int:=C*69+4*(2*C+1)+32*C+(S+1)*(16+8*(R*D))+(T*69+4*(2*T+1)+24*T)+24*(R+1)
structure Small(S C R D T:Int):Prop where
 s:1<=S/\S<=64
 c:1<=C/\C<=1024
 r:1<=R/\R<=8
 d:1<=D/\D<=4096
 t:1<=T/\T<=64
theorem Small.of{L W B S C R D T:Int}{m:Bool}(h:K8 L W B S C R D T m):Small S C R D T:=by
 obtain⟨_,_,_,h4,_,h6,h7,h8,h9,_⟩:=h
 exact⟨h4,h6,h7,h8,h9⟩
theorem Small.bounds{S C R D T:Int}(h:Small S C R D T):(0<=R*D/\R*D<=32768)/\(0<=(S+1)*(16+8*(R*D))/\(S+1)*(16+8*(R*D))<=17040400):=by
 obtain⟨s,c,r,d,t⟩:=h
 have p0:0<=R*D:=uzO (by omega) (by omega)
 have p1:R*D<=8*4096:=vHz r.2 d.2 (by omega) (by omega)
 have q0:0<=(S+1)*(16+8*(R*D)):=uzO (by omega) (by omega)
 have q1:(S+1)*(16+8*(R*D))<=65*262160:=vHz (by omega) (by omega) (by omega) (by omega)
 omega
theorem a0M{S C R D T:Int}(h:Small S C R D T):0<=F7 S C R D T/\F7 S C R D T<=20000000:=by
 obtain⟨⟨p0,p1⟩,q0,q1⟩:=h.bounds
 obtain⟨s,c,r,d,t⟩:=h
 unfold F7;omega
theorem b0Z(h:Heap)(n:Int)(Q:Value->Heap->Prop):u9 cp 96 [.int .i64 n] h Q↔Q (.int .i64 (IntKind.i64.wrap (n*69))) h:=by
 refine v9 ?_ Q
 rw[a8 cp f1t]
 simp(disch:=omega)only[c96,↓R96,↓l9,m9,zA,zB,zC,zD,zE,zF,zG,zH,zI,reduceCtorEq,zJ,zK,zL,zM]
theorem d9p(h:Heap)(n:Int)(hn:0<=n/\n<=100000)(Q:Value->Heap->Prop):u9 cp 99 [.int .i64 n] h Q↔Q (.int .i64 (2*n+1)) h:=by
 refine v9 ?_ Q
 rw[a8 cp e6F]
 simp(disch:=omega)only[c99,↓R99,↓l9,m9,zA,zB,zC,zD,zE,zF,zG,zH,zI,reduceCtorEq,zJ,zK,zL,zM]
theorem b0W(h:Heap)(n:Int)(hn:0<=n/\n<=100000)(Q:Value->Heap->Prop):u9 cp 97 [.int .i64 n] h Q↔Q (.int .i64 (4*(2*n+1))) h:=by
 refine v9 ?_ Q
 rw[a8 cp f1u]
 have f:=fun h=>d9p h n hn
 simp(disch:=omega)only[c97,↓R97,f,↓l9,m9,zA,zB,zC,zD,zE,zF,zG,zH,zI,reduceCtorEq,zJ,zK,zL,zM]
theorem c9v(h:Heap)(R D:Int)(hr:1<=R/\R<=8)(hp:0<=R*D/\R*D<=32768)(Q:Value->Heap->Prop):u9 cp 98 [.int .i64 R,.int .i64 D] h Q↔Q (.int .i64 (8*(R*D))) h:=by
 refine v9 ?_ Q
 rw[a8 cp f1v]
 have h8:8*R*D=8*(R*D):=Int.mul_assoc _ _ _
 simp(disch:=omega)only[c98,↓R98,h8,↓l9,m9,zA,zB,zC,zD,zE,zF,zG,zH,zI,reduceCtorEq,zJ,zK,zL,zM]
theorem c9j(h:Heap)(n:Int)(hn:0<=n/\n<=100000)(Q:Value->Heap->Prop):u9 cp 86 [.int .i64 n] h Q↔Q (.int .i64 (n*69+4*(2*n+1)+32*n)) h:=by
 refine v9 ?_ Q
 rw[a8 cp f1j]
 have f:=fun h=>b0W h n hn
 simp(disch:=omega)only[c86,↓R86,f,b0Z,↓l9,m9,zA,zB,zC,zD,zE,zF,zG,zH,zI,reduceCtorEq,zJ,zK,zL,zM]
theorem b5B(h:Heap)(n:Int)(hn:0<=n/\n<=100000)(Q:Value->Heap->Prop):u9 cp 88 [.int .i64 n] h Q↔Q (.int .i64 (n*69+4*(2*n+1)+n*24)) h:=by
 refine v9 ?_ Q
 rw[a8 cp f1l]
 have f:=fun h=>b0W h n hn
 simp(disch:=omega)only[c88,↓R88,f,b0Z,↓l9,m9,zA,zB,zC,zD,zE,zF,zG,zH,zI,reduceCtorEq,zJ,zK,zL,zM]
theorem c9o(h:Heap)(L W B S C R D T:Int)(m:Bool)(hs:Small S C R D T)(Q:Value->Heap->Prop):
  u9 cp 87 [.agg #[.int .i64 L,.int .i64 W,.int .i64 B,.int .i64 S,.int .i64 C,.int .i64 R,.int .i64 D,.int .i64 T,.bool m]] h Q↔Q (.int .i64 ((S+1)*(16+8*(R*D)))) (h.new (.cells (rc L W B S C R D T m) 34 .fix)):=by
 refine v9 ?_ Q
 rw[a8 cp f1k]
 obtain⟨⟨p0,p1⟩,q0,q1⟩:=hs.bounds
 obtain⟨s,c,r,d,t⟩:=hs
 have f:=fun h=>c9v h R D r ⟨p0,p1⟩
 simp(disch:=omega)only[c87,↓R87,f,↓l9,m9,zA,zB,zC,zD,zE,zF,zG,zH,zI,reduceCtorEq,zJ,zK,zL,zM]
theorem b4S(h:Heap)(L W B S C R D T:Int)(m:Bool)(hs:Small S C R D T)(Q:Value->Heap->Prop):
  u9 cp 76 [.agg #[.int .i64 L,.int .i64 W,.int .i64 B,.int .i64 S,.int .i64 C,.int .i64 R,.int .i64 D,.int .i64 T,.bool m]] h Q↔Q (.int .i64 (F7 S C R D T)) ((h.new (.cells (rc L W B S C R D T m) 34 .fix)).new (.cells (rc L W B S C R D T m) 34 .fix)):=by
 refine v9 ?_ Q
 rw[a8 cp f0Z]
 obtain⟨⟨p0,p1⟩,q0,q1⟩:=hs.bounds
 have f1:=fun h=>c9o h L W B S C R D T m hs
 obtain⟨s,c,r,d,t⟩:=hs
 have f2:=fun h=>c9j h C (by omega)
 have f3:=fun h=>b5B h T (by omega)
 simp(disch:=omega)only[c76,↓R76,f1,f2,f3,↓l9,m9,zA,zB,zC,zD,zE,zF,zG,zH,zI,reduceCtorEq,zJ,zK,zL,zM]
 congr 1
 unfold F7
 omega
abbrev F3:=Int×Int×Int×Int×Int×Int×Int×Int×Bool
abbrev RE:Enc F3:=Enc.pair (Enc.int .i64) (Enc.pair (Enc.int .i64) (Enc.pair (Enc.int .i64) (Enc.pair (Enc.int .i64) (Enc.pair (Enc.int .i64) (Enc.pair (Enc.int .i64) (Enc.pair (Enc.int .i64) (Enc.pair (Enc.int .i64) Enc.bool)))))))
def F3.OK(r:F3):Prop:=K8 r.1 r.2.1 r.2.2.1 r.2.2.2.1 r.2.2.2.2.1 r.2.2.2.2.2.1 r.2.2.2.2.2.2.1 r.2.2.2.2.2.2.2.1 r.2.2.2.2.2.2.2.2
def F3.T(r:F3):Int:=r.2.2.2.2.2.2.2.1
def F3.Sm(r:F3):Prop:=Small r.2.2.2.1 r.2.2.2.2.1 r.2.2.2.2.2.1 r.2.2.2.2.2.2.1 r.2.2.2.2.2.2.2.1
def F3.by_(r:F3):Int:=F7 r.2.2.2.1 r.2.2.2.2.1 r.2.2.2.2.2.1 r.2.2.2.2.2.2.1 r.2.2.2.2.2.2.2.1
instance (r:F3):Decidable r.OK:=by unfold F3.OK;infer_instance
theorem F3.OK.sm{r:F3}(h:r.OK):r.Sm:=Small.of h
def U1:List F3->Int
 | []=>0
 |r::l=>r.by_+U1 l
theorem b5z:∀(l m:List F3),U1 (l++m)=U1 l+U1 m
 | [],m=>by simp[U1]
 |r::l,m=>by simp only[vCz,U1,b5z l m];omega
theorem a8z:∀(l:List F3),(∀r∈l,r.Sm)->0<=U1 l/\U1 l<=20000000*l.length
 | [],_=>by simp[U1]
 |r::l,h=>by
  have h1:=a8z l fun x hx=>h x (List.mem_cons_of_mem _ hx)
  have h2:=a0M (h r vyz)
  simp only[U1,uzM]
  have:r.by_=F7 r.2.2.2.1 r.2.2.2.2.1 r.2.2.2.2.2.1 r.2.2.2.2.2.2.1 r.2.2.2.2.2.2.2.1:=rfl
  rw[this];omega
def mo:Int->List F3->Int
 |n,[]=>n
 |n,r::l=>mo (max n (max 46 (7+81*r.T))) l
theorem d9w:∀(l m:List F3) (n:Int),mo n (l++m)=mo (mo n l) m
 | [],m,n=>rfl
 |r::l,m,n=>d9w l m _
theorem e8g(l:List F3)(n k:Int):mo n l<=k↔n<=k/\(l=[]\/46<=k)/\∀r∈l,7+81*r.T<=k:=by
 induction l generalizing n with
 |nil=>simp[mo]
 |cons r l ih=>
  show mo (max n (max 46 (7+81*r.T))) l<=k↔_
  rw[ih]
  constructor
  ·rintro⟨h1,h2,h3⟩
   exact⟨by omega,.inr (by omega),fun x hx=>by
    rcases List.mem_cons.1 hx with rfl|hx
    ·omega
    ·exact h3 x hx⟩
  ·rintro⟨h1,h2,h3⟩
   have h4:=h3 r vyz
   have h5:46<=k:=h2.resolve_left (by simp)
   exact⟨by omega,.inr h5,fun x hx=>h3 x (List.mem_cons_of_mem _ hx)⟩
theorem rd9{ob:Obj}{o:Nat}{L W B S C R D T:Int}{m:Bool}(h:ob.read o 9=some (rc L W B S C R D T m)):ob.read o 9=some (rc L W B S C R D T m):=h
theorem c8t(h:Heap)(n:Int)(hn:D5 n)(Q:Value->Heap->Prop):u9 cp 75 [.int .i64 n] h Q↔Q (.int .i64 n) h:=by
 refine v9 ?_ Q
 rw[a8 cp f0Y]
 simp(disch:=omega)only[c75,↓R75,↓l9,m9,zA,zB,zC,zD,zE,zF,zG,zH,zI,reduceCtorEq,zJ,zK,zL,zM]
theorem e1Q(h:Heap)(bu co ou:Int)(v:Value)(l:List F3)(s:Lst h RE v l)(hl:l.length<=100)(hco:1<=co/\co<=16)(hou:0<=ou/\ou<=65536)(hsm:∀r∈l,r.Sm)
  (hQ:∀h',Old h h' ->Q (.int .i64 (co*ou+U1 l)) h'):u9 cp 57 [.agg #[.int .i64 bu,.int .i64 co,.int .i64 ou,v]] h Q:=by
 rw[a8 cp f0K]
 have p0:0<=co*ou:=uzO (by omega) (by omega)
 have p1:co*ou<=16*65536:=vHz hco.2 hou.2 (by omega) (by omega)
 have f1:=fun h=>c8t h ou (by unfold D5;omega)
 obtain⟨a,cap,rfl,hrd⟩:=s
 simp(disch:=omega)only[c57,↓R57,f1,↓l9,m9,zA,zB,zC,zD,zE,zF,zG,zH,zI,reduceCtorEq,zJ,zK,zL,zM]
 refine A6 cp b1P _ (fun d e hh=>∃j,j+d=l.length/\Old h hh/\e 3=.int .i64 (co*ou+U1 (l.take j))/\e 13=.slice a l.length cap/\e 14=.int .i64 l.length/\e 15=.int .i64 j) ?_ l.length _ _
  ⟨0,by omega,(Old.refl h).more _,by simp[U1,a7.upd],rfl,rfl,rfl⟩
 rintro d e hh ⟨j,hj,old,i3,i13,i14,i15⟩
 by_cases hjl:j<l.length
 ·have b1:decide ((j:Int)<l.length)=true:=dTz (by omega)
  have hx:l[j]? =some l[j]:=uzF hjl
  have hmem:l[j]∈l:=List.getElem_mem hjl
  obtain⟨b,o,rfl,hb,hr⟩:=hrd j l[j] hx
  rw[<-old.obj b hb]at hr
  have ht:=I7 hx
  have hs:=a8z (l.take j) fun r hr=>hsm r (List.mem_of_mem_take hr)
  have hlen:(l.take j).length<=100:=by rw[vqz];omega
  have hsr:=hsm _ hmem
  have hbr:=a0M hsr
  have hsum:U1 (l.take (j+1))=U1 (l.take j)+(l[j]).by_:=by rw[ht,b5z];simp[U1]
  generalize l[j]=x at hr hsum hsr hbr
  obtain⟨L,W,B,S,C,R,D,T,m⟩:=x
  have hr:(hh.obj b).read (o+j*9) 9=some (rc L W B S C R D T m):=hr
  have hsum:U1 (l.take (j+1))=U1 (l.take j)+F7 S C R D T:=hsum
  have hbr:0<=F7 S C R D T/\F7 S C R D T<=20000000:=hbr
  have f2:=fun h=>b4S h L W B S C R D T m hsr
  have w1:IntKind.i64.wrap (co*ou+U1 (l.take j)+F7 S C R D T)=co*ou+U1 (l.take (j+1)):=by rw[hsum,P9]<;>omega
  simp(disch:=omega)only[b1P,c57,↓R57,i3,i13,i14,i15,b1,hr,f2,w1,↓l9,m9,zA,zB,zC,zD,zE,zF,zG,zH,zI,reduceCtorEq,zJ,zK,zL,zM]
  exact⟨d-1,by omega,j+1,by omega,((old.put _ _).more _).more _,rfl,rfl⟩
 ·have b1:decide ((j:Int)<l.length)=false:=dFz (by omega)
  obtain rfl:j=l.length:=by omega
  rw[List.take_length]at i3
  simp(disch:=omega)only[b1P,c57,↓R57,i3,i13,i14,i15,b1,↓l9,m9,zA,zB,zC,zD,zE,zF,zG,zH,zI,reduceCtorEq,zJ,zK,zL,zM]
  exact hQ _ old
def a1K(op k t:Int):Int:=if op=3 then 46 else if op=4 then 7+min (max k 1) t*81 else 22
theorem b6J(h:Heap)(op ru co:Int)(key:ByteArray)(k t:Int)(ht:1<=t/\t<=64)(Q:Value->Heap->Prop):
  u9 cp 74 [.agg #[.int .i64 op,.int .i64 ru,.int .u32 co,.string key,.int .i64 k],.int .i64 t] h Q↔Q (.int .i64 (a1K op k t)) (h.new (.cells [.int .i64 op,.int .i64 ru,.int .u32 co,.string key,.int .i64 k] 61 .fix)):=by
 refine v9 ?_ Q
 rw[a8 cp e6E]
 unfold a1K
 by_cases h3:op=3
 ·have a1:(op==3)=true:=beq_iff_eq.2 h3
  rw[if_pos h3]
  simp(disch:=omega)only[c74,↓R74,a1,↓l9,m9,zA,zB,zC,zD,zE,zF,zG,zH,zI,reduceCtorEq,zJ,zK,zL,zM]
 ·have a1:(op==3)=false:=beq_eq_false_iff_ne.2 h3
  by_cases h4:op=4
  ·have a2:(op==4)=true:=beq_iff_eq.2 h4
   rw[if_neg h3,if_pos h4]
   simp(disch:=omega)only[c74,↓R74,a1,a2,S0,a1L,a2u,a7V,↓l9,m9,zA,zB,zC,zD,zE,zF,zG,zH,zI,reduceCtorEq,zJ,zK,zL,zM]
  ·have a2:(op==4)=false:=beq_eq_false_iff_ne.2 h4
   rw[if_neg h3,if_neg h4]
   simp(disch:=omega)only[c74,↓R74,a1,a2,↓l9,m9,zA,zB,zC,zD,zE,zF,zG,zH,zI,reduceCtorEq,zJ,zK,zL,zM]
theorem c9d(n T:Int)(hT:1<=T):max (max (max n 22) 46) (7+min (max T 1) T*81)=max n (max 46 (7+81*T)):=by omega
theorem most_ok(h:Heap)(bu co ou:Int)(v:Value)(l:List F3)(s:Lst h RE v l)(hl:l.length<=100)(hsm:∀r∈l,r.Sm)
  (hQ:∀h',Old h h' ->Q (.int .i64 (mo 6 l)) h'):u9 cp 56 [.agg #[.int .i64 bu,.int .i64 co,.int .i64 ou,v]] h Q:=by
 rw[a8 cp f0J]
 obtain⟨a,cap,rfl,hrd⟩:=s
 simp(disch:=omega)only[c56,↓R56,↓l9,m9,zA,zB,zC,zD,zE,zF,zG,zH,zI,reduceCtorEq,zJ,zK,zL,zM]
 refine A6 cp b1O _ (fun d e hh=>∃j,j+d=l.length/\Old h hh/\e 3=.int .i64 (mo 6 (l.take j))/\e 9=.slice a l.length cap/\e 10=.int .i64 l.length/\e 11=.int .i64 j) ?_ l.length _ _
  (by refine⟨0,by omega,(Old.refl h).more _,?_,?_,?_,?_⟩<;>rfl)
 rintro d e hh ⟨j,hj,old,i3,i9,i10,i11⟩
 by_cases hjl:j<l.length
 ·have b1:decide ((j:Int)<l.length)=true:=dTz (by omega)
  have hx:l[j]? =some l[j]:=uzF hjl
  have hmem:l[j]∈l:=List.getElem_mem hjl
  obtain⟨b,o,rfl,hb,hr⟩:=hrd j l[j] hx
  rw[<-old.obj b hb]at hr
  have ht:=I7 hx
  have hsr:=hsm _ hmem
  have hsum:mo 6 (l.take (j+1))=max (mo 6 (l.take j)) (max 46 (7+81*(l[j]).T)):=by rw[ht,d9w];rfl
  generalize l[j]=x at hr hsum hsr
  obtain⟨L,W,B,S,C,R,D,T,m⟩:=x
  have hr:(hh.obj b).read (o+j*9) 9=some (rc L W B S C R D T m):=hr
  have hT:1<=T/\T<=64:=hsr.t
  have hsum:mo 6 (l.take (j+1))=max (mo 6 (l.take j)) (max 46 (7+81*T)):=hsum
  have f1:=fun h op=>b6J h op 0 0 ⟨#[]⟩ T T hT
  have l1:a1K 1 T T=22:=rfl
  have l3:a1K 3 T T=46:=rfl
  have l4:a1K 4 T T=7+min (max T 1) T*81:=rfl
  have n1:(1:Int)+1=2:=rfl
  have n2:(2:Int)+1=3:=rfl
  simp(disch:=omega)only[b1O,c56,↓R56,i3,i9,i10,i11,b1,hr,↓l9,m9,zA,zB,zC,zD,zE,zF,zG,zH,zI,reduceCtorEq,zJ,zK,zL,zM]
  refine Z2 cp _ _ _ _ ?_
  simp(disch:=first|omega| (simp only[j0,r9,ne_eq];omega))only[d4e,c56,↓R56,i3,f1,l1,S0,a1L,a2u,a7V,↓l9,m9,zA,zB,zC,zD,zE,zF,zG,zH,zI,reduceCtorEq,zJ,zK,zL,zM]
  refine Z2 cp _ _ _ _ ?_
  simp(disch:=first|omega| (simp only[j0,r9,ne_eq];omega))only[c56,↓R56,i3,f1,l3,S0,a1L,a2u,a7V,↓l9,m9,zA,zB,zC,zD,zE,zF,zG,zH,zI,reduceCtorEq,zJ,zK,zL,zM]
  refine Z2 cp _ _ _ _ ?_
  simp(disch:=first|omega| (simp only[j0,r9,ne_eq];omega))only[c56,↓R56,i3,f1,l4,S0,a1L,a2u,a7V,↓l9,m9,zA,zB,zC,zD,zE,zF,zG,zH,zI,reduceCtorEq,zJ,zK,zL,zM]
  refine Z2 cp _ _ _ _ ?_
  simp(disch:=first|omega| (simp only[j0,r9,ne_eq];omega))only[c56,↓R56,i3,i11,↓l9,m9,zA,zB,zC,zD,zE,zF,zG,zH,zI,reduceCtorEq,zJ,zK,zL,zM]
  exact⟨d-1,by omega,j+1,by omega,(((old.put _ _).more _).more _).more _,by rw[hsum,c9d _ _ hT.1],i9,i10,rfl⟩
 ·have b1:decide ((j:Int)<l.length)=false:=dFz (by omega)
  obtain rfl:j=l.length:=by omega
  rw[List.take_length]at i3
  simp(disch:=omega)only[b1O,c56,↓R56,i3,i9,i10,i11,b1,↓l9,m9,zA,zB,zC,zD,zE,zF,zG,zH,zI,reduceCtorEq,zJ,zK,zL,zM]
  exact hQ _ old
def a2F(bu co ou:Int)(l:List F3):Prop:=(1<=co/\co<=16)/\(1<=(l.length:Int)/\(l.length:Int)<=8)/\(1<=bu/\bu<=4294967296)/\(46<=ou/\ou<=65536)/\(∀r∈l,r.OK/\7+81*r.T<=ou)/\co*ou+U1 l<=bu
instance (bu co ou:Int) (l:List F3):Decidable (a2F bu co ou l):=by unfold a2F;infer_instance
abbrev c8v(bu co ou:Int)(v:Value):List Value:=[.int .i64 bu,.int .i64 co,.int .i64 ou,v]
theorem d9X(h:Heap)(bu co ou:Int)(v:Value)(l:List F3)(s:Lst h RE v l)(hl:l.length<=100)
  (hQ:∀h',Old h h' ->Q (.bool (decide (a2F bu co ou l))) h'):u9 cp 31 [.agg #[.int .i64 bu,.int .i64 co,.int .i64 ou,v]] h Q:=by
 rw[a8 cp f0u]
 have no:¬a2F bu co ou l->∀h',Old h h' ->Q (.bool false) h' :=fun hn h' o=>by
  have:=hQ h' o
  rwa [dFz hn]at this
 have s0:=s
 obtain⟨a,cap,rfl,hrd⟩:=s
 have old1:Old h (h.new (.cells (c8v bu co ou (.slice a l.length cap)) 30 .fix)):=(Old.refl h).more _
 have f:=b1t (h.new (.cells (c8v bu co ou (.slice a l.length cap)) 30 .fix))
 by_cases c0:1<=co/\co<=16
 rotate_left
 ·have w:=dFz c0
  simp(disch:=omega)only[c31,↓R31,f,w,↓l9,m9,zA,zB,zC,zD,zE,zF,zG,zH,zI,reduceCtorEq,zJ,zK,zL,zM]
  exact no (fun q=>c0 q.1) _ old1
 have w0:=dTz c0
 by_cases c1:1<=(l.length:Int)/\(l.length:Int)<=8
 rotate_left
 ·have w:=dFz c1
  simp(disch:=omega)only[c31,↓R31,f,w0,w,↓l9,m9,zA,zB,zC,zD,zE,zF,zG,zH,zI,reduceCtorEq,zJ,zK,zL,zM]
  exact no (fun q=>c1 q.2.1) _ old1
 have w1:=dTz c1
 by_cases c2:1<=bu/\bu<=4294967296
 rotate_left
 ·have w:=dFz c2
  simp(disch:=omega)only[c31,↓R31,f,w0,w1,w,↓l9,m9,zA,zB,zC,zD,zE,zF,zG,zH,zI,reduceCtorEq,zJ,zK,zL,zM]
  exact no (fun q=>c2 q.2.2.1) _ old1
 have w2:=dTz c2
 by_cases c3:ou>65536
 ·have w:=dTz c3
  simp(disch:=omega)only[c31,↓R31,f,w0,w1,w2,w,↓l9,m9,zA,zB,zC,zD,zE,zF,zG,zH,zI,reduceCtorEq,zJ,zK,zL,zM]
  exact no (fun q=>by have:=q.2.2.2.1;omega) _ old1
 have w3:=dFz c3
 simp(disch:=omega)only[c31,↓R31,f,w0,w1,w2,w3,↓l9,m9,zA,zB,zC,zD,zE,zF,zG,zH,zI,reduceCtorEq,zJ,zK,zL,zM]
 refine A6 cp a7u _ (fun d e hh=>∃j,j+d=l.length/\Old (h.new (.cells (c8v bu co ou (.slice a l.length cap)) 30 .fix)) hh/\(∀r∈l.take j,r.OK)/\e 1=.pointer (some ⟨h.next,0,none⟩)/\e 28=.slice a l.length cap/\e 29=.int .i64 l.length/\e 30=.int .i64 j) ?_ l.length _ _
  ⟨0,by omega,Old.refl _,fun r hr=>by simp at hr,rfl,rfl,rfl,rfl⟩
 rintro d e hh ⟨j,hj,old,hok,i1,i28,i29,i30⟩
 have g0:hh.obj h.next=.cells (c8v bu co ou (.slice a l.length cap)) 30 .fix:=(old.obj h.next (vpz _)).trans (f9 _ _)
 have hn0:h.next+1<=hh.next:=old.next
 have oldh:=old1.trans old
 by_cases hjl:j<l.length
 ·have b1:decide ((j:Int)<l.length)=true:=dTz (by omega)
  have hx:l[j]? =some l[j]:=uzF hjl
  have hmem:l[j]∈l:=List.getElem_mem hjl
  obtain⟨b,o,rfl,hb,hr⟩:=hrd j l[j] hx
  rw[<-oldh.obj b hb]at hr
  have ht:=I7 hx
  have hall:(l[j]).OK->∀r∈l.take (j+1),r.OK:=fun q r hr=>by
   rw[ht]at hr
   rcases List.mem_append.1 hr with hr|hr
   ·exact hok r hr
   ·obtain rfl:=List.mem_singleton.1 hr;exact q
  generalize l[j]=x at hr hmem hall
  obtain⟨L,W,B,S,C,R,D,T,m⟩:=x
  have hr:(hh.obj b).read (o+j*9) 9=some (rc L W B S C R D T m):=hr
  have f3:=fun h=>b2w h L W B S C R D T m
  by_cases hk:K8 L W B S C R D T m
  ·have k1:=dTz hk
   simp(disch:=omega)only[a7u,c31,↓R31,i1,i28,i29,i30,b1,hr,f3,k1,↓l9,m9,zA,zB,zC,zD,zE,zF,zG,zH,zI,reduceCtorEq,zJ,zK,zL,zM]
   exact⟨d-1,by omega,j+1,by omega,(old.put _ _).more _,hall hk,rfl⟩
  ·have k1:=dFz hk
   simp(disch:=omega)only[a7u,c31,↓R31,i1,i28,i29,i30,b1,hr,f3,k1,↓l9,m9,zA,zB,zC,zD,zE,zF,zG,zH,zI,reduceCtorEq,zJ,zK,zL,zM]
   exact no (fun q=>hk (q.2.2.2.2.1 _ hmem).1) _ ((oldh.put _ _).more _)
 ·have b1:decide ((j:Int)<l.length)=false:=dFz (by omega)
  obtain rfl:j=l.length:=by omega
  rw[List.take_length]at hok
  have hsm:∀r∈l,r.Sm:=fun r hr=>(hok r hr).sm
  have hle:=e8g l 6 ou
  simp(disch:=omega)only[a7u,c31,↓R31,i1,i29,i30,b1,g0,↓l9,m9,zA,zB,zC,zD,zE,zF,zG,zH,zI,reduceCtorEq,zJ,zK,zL,zM]
  refine most_ok hh bu co ou _ l (s0.old oldh) hl hsm fun h4 o4=>?_
  have g4:h4.obj h.next=.cells (c8v bu co ou (.slice a l.length cap)) 30 .fix:=(o4.obj h.next (by omega)).trans g0
  have n4:hh.next<=h4.next:=o4.next
  by_cases hm:ou>=mo 6 l
  ·have k1:=dTz hm
   obtain⟨q1,q2,q3⟩:=hle.1 hm
   have c4:46<=ou:=q2.resolve_left fun hnil=>by subst hnil;simp at c1
   simp(disch:=omega)only[c31,↓R31,i1,g0,g4,k1,↓l9,m9,zA,zB,zC,zD,zE,zF,zG,zH,zI,reduceCtorEq,zJ,zK,zL,zM]
   refine e1Q h4 bu co ou _ l (s0.old (oldh.trans o4)) hl c0 (by omega) hsm fun h5 o5=>?_
   have g5:h5.obj h.next=.cells (c8v bu co ou (.slice a l.length cap)) 30 .fix:=(o5.obj h.next (by omega)).trans g4
   have fin:decide (co*ou+U1 l<=bu)=decide (a2F bu co ou l):=by
    rw[decide_eq_decide];exact⟨fun q=>⟨c0,c1,c2,⟨c4,by omega⟩,fun r hr=>⟨hok r hr,q3 r hr⟩,q⟩,fun q=>q.2.2.2.2.2⟩
   simp(disch:=omega)only[c31,↓R31,i1,g5,g4,g0,fin,↓l9,m9,zA,zB,zC,zD,zE,zF,zG,zH,zI,reduceCtorEq,zJ,zK,zL,zM]
   exact hQ _ ((oldh.trans o4).trans o5)
  ·have k1:=dFz hm
   simp(disch:=omega)only[c31,↓R31,i1,g0,g4,k1,↓l9,m9,zA,zB,zC,zD,zE,zF,zG,zH,zI,reduceCtorEq,zJ,zK,zL,zM]
   exact no (fun q=>hm (hle.2 ⟨by have:=q.2.2.2.1;omega,.inr q.2.2.2.1.1,fun r hr=>(q.2.2.2.2.1 r hr).2⟩)) _ (oldh.trans o4)
def D6(bs:List Int)(n r e:Int)(ob:Nat)(rr:Int)(w:Bool):List Value:=ints .u8 bs++[.int .i64 n,.int .i64 r,.int .i64 e,.pointer (some ⟨ob,0,none⟩),.int .i64 rr,.bool w]
section
variable {bs:List Int} {n r e:Int} {ob:Nat} {rr:Int} {w:Bool}
theorem K0(hl:bs.length=75):(D6 bs n r e ob rr w).length=81:=by simp[D6,ints,hl]
theorem e1A(hl:bs.length=75)(i:Nat)(x:Int)(hx:bs[i]? =some x):(D6 bs n r e ob rr w)[i]? =some (.int .u8 x):=by
 have hi:=(List.getElem?_eq_some_iff.1 hx).1
 unfold D6
 rw[vuz (by rw[C6];exact hi)]
 exact C5 .u8 _ hx
theorem a1j(hl:bs.length=75):(D6 bs n r e ob rr w)[75]? =some (.int .i64 n):=by
 unfold D6;rw[vfz (by rw[C6,hl];decide),C6,hl];rfl
theorem d8z(hl:bs.length=75):(D6 bs n r e ob rr w)[76]? =some (.int .i64 r):=by
 unfold D6;rw[vfz (by rw[C6,hl];decide),C6,hl];rfl
theorem b4v(hl:bs.length=75):(D6 bs n r e ob rr w)[77]? =some (.int .i64 e):=by
 unfold D6;rw[vfz (by rw[C6,hl];decide),C6,hl];rfl
theorem T4(hl:bs.length=75):(D6 bs n r e ob rr w)[78]? =some (.pointer (some ⟨ob,0,none⟩)):=by
 unfold D6;rw[vfz (by rw[C6,hl];decide),C6,hl];rfl
theorem d8A(hl:bs.length=75):(D6 bs n r e ob rr w)[79]? =some (.int .i64 rr):=by
 unfold D6;rw[vfz (by rw[C6,hl];decide),C6,hl];rfl
theorem b4w(hl:bs.length=75):(D6 bs n r e ob rr w)[80]? =some (.bool w):=by
 unfold D6;rw[vfz (by rw[C6,hl];decide),C6,hl];rfl
theorem a7H(hl:bs.length=75)(i:Nat)(hi:i<75)(x:Int):(D6 bs n r e ob rr w).set i (.int .u8 x)=D6 (bs.set i x) n r e ob rr w:=by
 unfold D6;rw[List.set_append_left _ _ (by rw[C6];omega),H7]
theorem a3z(hl:bs.length=75)(x:Int):(D6 bs n r e ob rr w).set 75 (.int .i64 x)=D6 bs x r e ob rr w:=by
 unfold D6;rw[List.set_append_right _ _ (by rw[C6,hl];decide),C6,hl];rfl
theorem b0J(hl:bs.length=75)(x:Int):(D6 bs n r e ob rr w).set 77 (.int .i64 x)=D6 bs n r x ob rr w:=by
 unfold D6;rw[List.set_append_right _ _ (by rw[C6,hl];decide),C6,hl];rfl
theorem c8C(hl:bs.length=75)(x:Bool):(D6 bs n r e ob rr w).set 80 (.bool x)=D6 bs n r e ob rr x:=by
 unfold D6;rw[List.set_append_right _ _ (by rw[C6,hl];decide),C6,hl];rfl
end
theorem e0F(l:List Int):B8.all l=ints .u8 l:=by
 induction l with
 |nil=>rfl
 |cons x t ih=>show Value.int .u8 x::B8.all t=_;rw[ih];rfl
theorem a3i{bs:List Int}{n:Nat}(h:n<bs.length)(c:Int):(bs.set n c).take (n+1)=bs.take n++[c]:=by
 rw[List.take_add_one,List.take_set_of_le (uzP n)]
 simp[h]
structure ConnO(h:Heap)(x:Nat)(bs:List Int)(n:Nat)(r e:Int)(ob:Nat)(rr:Int)(w:Bool):Prop where
 ox:h.obj x=.cells (D6 bs n r e ob rr w) 149 .fix
 lx:x<h.next
 len:bs.length=75
 byt:E4 bs
section
variable {h h' :Heap} {x:Nat} {bs:List Int} {n:Nat} {r e:Int} {ob:Nat} {rr:Int} {w:Bool}
theorem e4q(c:ConnO h x bs n r e ob rr w)(Q:Value->Heap->Prop):u9 cp 62 [.pointer (some ⟨x,0,none⟩)] h Q↔Q (.int .i64 e) h:=by
 refine v9 ?_ Q
 rw[a8 cp f0P]
 have ox:=c.ox
 have hl:=c.len
 simp(disch:=omega)only[c62,↓R62,ox,b4v hl,↓l9,m9,zA,zB,zC,zD,zE,zF,zG,zH,zI,reduceCtorEq,zJ,zK,zL,zM]
theorem e0w(c:ConnO h x bs n r 0 ob rr w)(hn:n<=74)(y:Int)(hy:0<=y/\y<256)
  (hQ:∀h',Old h h' ->Q (.tuple #[((C9 (bs.take n++[y]) r).1.getD d9S).val,.bool (C9 (bs.take n++[y]) r).1.isSome,.int .i64 (C9 (bs.take n++[y]) r).2]) h'):
  u9 cp 52 [.pointer (some ⟨x,0,none⟩),.int .u8 y] h Q:=by
 rw[a8 cp f0F]
 have ox:=c.ox
 have lx:=c.lx
 have hl:=c.len
 have hx:bs[n]? =some bs[n]:=uzF (by omega)
 obtain⟨old,hold⟩:∃old,old=bs[n]'(by omega):=⟨_,rfl⟩
 rw[<-hold]at hx
 have k1:(n:Int)+1=((n+1:Nat):Int):=by omega
 have hl2:(bs.set n y).length=75:=by rw[viz];exact hl
 obtain⟨h1,h1d,o1,n1,g1⟩:=K2 h (.cells [.int .i64 0,.int .i64 0,.int .u32 0,.string ⟨#[]⟩,.int .i64 0] 61 .fix)
 have ox1:=(o1.obj x lx).trans ox
 obtain⟨h2,h2d⟩:∃h2,h2=h1.upd x (.cells (D6 (bs.set n y) n r 0 ob rr w) 149 .fix):=⟨_,rfl⟩
 have ox2:h2.obj x=.cells (D6 (bs.set n y) n r 0 ob rr w) 149 .fix:=by rw[h2d];exact a9 _ _ _
 simp(disch:=omega)only[c52,↓R52,<-h1d,ox1,b4v hl,a1j hl,K0 hl,e1A hl n old hx,D8,a7H hl n (by omega) y,<-h2d,ox2,a1j hl2,d8z hl2,K0 hl2,k1,uzS,Nat.sub_zero,bne_self_eq_false,↓l9,m9,zA,zB,zC,zD,zE,zF,zG,zH,zI,reduceCtorEq,zJ,zK,zL,zM]
 have tl:(bs.take n++[y]).length=n+1:=by rw[uzG,vqz,hl,vdz];omega
 have S:Bys h2 (.slice (some ⟨x,0,none⟩) (n+1) (n+1)) (bs.take n++[y]):=by
  refine .inr ⟨x,0,n+1,by rw[tl],by omega,?_,by rw[ox2];rfl,?_⟩
  ·rw[h2d,r9,n1];omega
  ·rw[ox2,tl,N8,K0 hl2,if_pos (by omega),vwz,e0F]
   unfold D6
   rw[List.take_append_of_le_length (by rw[C6,hl2];omega),<-a3i (by omega)]
   simp[ints]
 have tb:E4 (bs.take n++[y]):=fun z hz=>by
  rcases List.mem_append.1 hz with hz|hz
  ·exact c.byt z (List.mem_of_mem_take hz)
  ·rw[List.mem_singleton.1 hz];exact hy
 refine d9E h2 _ _ S (by omega) tb r fun h3 m o3 hm hm0=>?_
 have n2:h2.next=h.next+1:=by rw[h2d,r9,n1]
 have n3:=o3.next
 have ox3:=(o3.obj x (by omega)).trans ox2
 have g3:h3.obj h.next=.cells [.int .i64 0,.int .i64 0,.int .u32 0,.string ⟨#[]⟩,.int .i64 0] 61 .fix:=by rw[o3.obj _ (by omega),h2d,a6 _ _ (by omega)];exact g1
 obtain⟨q,hq⟩:∃q,q=(C9 (bs.take n++[y]) r).1.getD d9S:=⟨_,rfl⟩
 have hb:decide (m>0)=(C9 (bs.take n++[y]) r).1.isSome:=by
  cases hs:(C9 (bs.take n++[y]) r).1.isSome with
  |true=>exact dTz (hm.2 hs)
  |false=>exact dFz fun h=>by rw[hm.1 h]at hs;exact absurd hs (by simp)
 have hback:(bs.set n y).set n old=bs:=by
  rw[List.set_set,hold];exact List.set_getElem_self _
 rw[<-hq]at hQ ⊢
 unfold ReqV.val a1U at hQ ⊢
 simp(disch:=omega)only[c52,↓R52,ox3,g3,hb,a1j hl2,K0 hl2,D8,a7H hl2 n (by omega) old,hback,y6,uzS,Nat.sub_zero,↓l9,m9,zA,zB,zC,zD,zE,zF,zG,zH,zI,reduceCtorEq,zJ,zK,zL,zM]
 refine hQ _ ⟨by simp only[r9,j0];omega,fun z hz=>?_⟩
 have:∀z,z<h.next->z≠x->h3.obj z=h.obj z:=fun z hz hne=>by rw[o3.obj z (by omega),h2d,a6 _ _ hne,o1.obj z hz]
 rw[a6 _ _ (by omega)]
 by_cases e:z=x
 ·subst e;rw[a9];exact ox.symm
 ·rw[a6 _ _ e,a6 _ _ (by omega),f4 _ _ (by omega),this z hz e]
def O0(bs:List Int)(n:Nat)(y r:Int):List Int×Nat×Int:=
 if(C9 (bs.take n++[y]) r).2≠0 then(bs,0,(C9 (bs.take n++[y]) r).2)
 else if(C9 (bs.take n++[y]) r).1.isSome=true then(bs,0,0)else(bs.set n y,n+1,0)
theorem ConnO.new(c:ConnO h x bs n r e ob rr w){bs' :List Int}{n' :Nat}{e' :Int}{w' :Bool}(hn:h.next<=h'.next)(hl:bs'.length=75)(hb:E4 bs')(ho:h'.obj x=.cells (D6 bs' n' r e' ob rr w') 149 .fix):ConnO h' x bs' n' r e' ob rr w' :=
 ⟨ho,uzN c.lx hn,hl,hb⟩
theorem b2g(c:ConnO h x bs n r 0 ob rr w)(hn:n<=74)(y:Int)(hy:0<=y/\y<256)
  (hQ:∀h' v,OldX x h h' ->ConnO h' x (O0 bs n y r).1 (O0 bs n y r).2.1 r (O0 bs n y r).2.2 ob rr w->Q v h'):
  u9 cp 53 [.pointer (some ⟨x,0,none⟩),.int .u8 y] h Q:=by
 rw[a8 cp f0G]
 have ox:=c.ox
 have lx:=c.lx
 have hl:=c.len
 obtain⟨h1,h1d,o1,n1,g1⟩:=K2 h (.cells [.int .i64 0,.int .i64 0,.int .u32 0,.string ⟨#[]⟩,.int .i64 0] 61 .fix)
 have c1:ConnO h1 x bs n r 0 ob rr w:=⟨(o1.obj x lx).trans ox,by omega,hl,c.byt⟩
 simp(disch:=omega)only[c53,↓R53,<-h1d,↓l9,m9,zA,zB,zC,zD,zE,zF,zG,zH,zI,reduceCtorEq,zJ,zK,zL,zM]
 refine e0w c1 hn y hy fun h3 o3=>?_
 have n3:=o3.next
 have ox3:=(o3.obj x (by omega)).trans c1.ox
 have g3:=(o3.obj h.next (by omega)).trans g1
 have k1:(n:Int)+1=((n+1:Nat):Int):=by omega
 obtain⟨q,hq⟩:∃q,q=(C9 (bs.take n++[y]) r).1.getD d9S:=⟨_,rfl⟩
 rw[<-hq]
 unfold ReqV.val a1U
 unfold O0 at hQ
 by_cases p:(C9 (bs.take n++[y]) r).2≠0
 ·rw[if_pos p]at hQ
  have p' :((C9 (bs.take n++[y]) r).2 !=0)=true:=bne_iff_ne.2 p
  simp(disch:=omega)only[c53,↓R53,ox3,g3,p',K0 hl,b0J hl,a3z hl,D8,y6,uzS,Nat.sub_zero,↓l9,m9,zA,zB,zC,zD,zE,zF,zG,zH,zI,reduceCtorEq,zJ,zK,zL,zM]
  refine hQ _ _ ⟨by simp only[r9,j0];omega,fun z hz hne=>?_⟩ (c.new (by simp only[r9,j0];omega) hl c.byt ?_)
  ·rw[a6 _ _ (by omega),a6 _ _ hne,a6 _ _ hne,a6 _ _ (by omega),f4 _ _ (by omega),o3.obj z (by omega),o1.obj z hz]
  ·rw[a6 _ _ (by omega),a9];rfl
 rw[if_neg p]at hQ
 have p0:(C9 (bs.take n++[y]) r).2=0:=by omega
 have p' :((C9 (bs.take n++[y]) r).2 !=0)=false:=by rw[p0];rfl
 cases hw:(C9 (bs.take n++[y]) r).1.isSome with
 |true=>
  rw[if_pos hw]at hQ
  simp(disch:=omega)only[c53,↓R53,ox3,g3,p',hw,K0 hl,b0J hl,a3z hl,D8,y6,uzS,Nat.sub_zero,↓l9,m9,zA,zB,zC,zD,zE,zF,zG,zH,zI,reduceCtorEq,zJ,zK,zL,zM]
  refine hQ _ _ ⟨by simp only[r9,j0];omega,fun z hz hne=>?_⟩ (c.new (by simp only[r9,j0];omega) hl c.byt ?_)
  ·rw[a6 _ _ (by omega),a6 _ _ hne,a6 _ _ (by omega),f4 _ _ (by omega),o3.obj z (by omega),o1.obj z hz]
  ·rw[a6 _ _ (by omega),a9];rfl
 |false=>
  rw[if_neg (by rw[hw];exact Bool.false_ne_true)]at hQ
  have hl2:(bs.set n y).length=75:=by rw[viz];exact hl
  simp(disch:=omega)only[c53,↓R53,ox3,g3,p',hw,k1,a1j hl,a1j hl2,K0 hl,K0 hl2,a7H hl n (by omega) y,a3z hl2,D8,y6,uzS,Nat.sub_zero,↓l9,m9,zA,zB,zC,zD,zE,zF,zG,zH,zI,reduceCtorEq,zJ,zK,zL,zM]
  refine hQ _ _ ⟨by simp only[r9,j0];omega,fun z hz hne=>?_⟩ (c.new (by simp only[r9,j0];omega) hl2 (fun z hz=>?_) ?_)
  ·rw[a6 _ _ (by omega),a6 _ _ hne,a6 _ _ hne,a6 _ _ (by omega),f4 _ _ (by omega),o3.obj z (by omega),o1.obj z hz]
  ·rcases vIz hz with hz|rfl
   ·exact c.byt z hz
   ·exact hy
  ·rw[a6 _ _ (by omega),a9]
def U6(bs:List Int)(n:Nat)(r:Int):Prop:=n<=74/\(n=0\/C9 (bs.take n) r=(none,0))
theorem d9h(hl:bs.length=75)(I:U6 bs n r)(y:Int)(he:(O0 bs n y r).2.2=0):U6 (O0 bs n y r).1 (O0 bs n y r).2.1 r:=by
 unfold O0 at he ⊢
 split
 ·exact⟨by simp,.inl rfl⟩
 rename_i p
 rw[if_neg p]at he
 split
 ·exact⟨by simp,.inl rfl⟩
 rename_i q
 have hn:=I.1
 have e:C9 (bs.take n++[y]) r=(none,0):=by
  have h1:(C9 (bs.take n++[y]) r).2=0:=by omega
  have h2:(C9 (bs.take n++[y]) r).1=none:=by
   cases h:(C9 (bs.take n++[y]) r).1 with
   |none=>rfl
   |some _=>rw[h]at q;exact absurd rfl q
  exact Prod.ext h2 h1
 have tl:(bs.take n++[y]).length=n+1:=by rw[uzG,vqz,hl,vdz];omega
 refine⟨?_,.inr ?_⟩
 ·show n+1<=74
  unfold C9 at e
  split at e
  ·rename_i h;exact absurd (Prod.mk.inj e).2 h
  rename_i hp
  split at e
  ·rename_i hs
   rw[tl]at hs
   by_cases c4:n+1<4
   ·omega
   have:=b2r (l:=bs.take n++[y]) (rules:=r) (by omega) (by omega)
   unfold c8S at this
   omega
  ·exact absurd (Prod.mk.inj e).1 (by simp)
 ·show C9 ((bs.set n y).take (n+1)) r=_
  rw[a3i (by omega)];exact e
end
theorem b7k(vs c:List Value)(h:vs.length=c.length):setAt c 0 vs=vs:=by
 have:=a0F [] vs c (by omega)
 rw[vrz,vrz,vkz,h,List.drop_eq_nil_of_le (uzP _),vtz]at this
 exact this
def a3A(r:Int):List Value:=ints .u8 (vaz 75 0)++[.int .i64 0,.int .i64 r,.int .i64 0]
set_option maxRecDepth 4000 in
theorem c8D(h:Heap)(r:Int)(hQ:∀h',Old h h' ->Q (.agg (a3A r).toArray) h'):u9 cp 51 [.int .i64 r] h Q:=by
 rw[a8 cp f0E]
 have e:=hQ ((h.new (.cells (a3A 0) 135 .fix)).upd h.next (.cells (a3A r) 135 .fix)) ⟨by simp only[r9,j0];omega,fun z hz=>by rw[a6 _ _ (by omega),f4 _ _ (by omega)]⟩
 simp(disch:=omega)only[c51,↓R51,y6,↓l9,m9,zA,zB,zC,zD,zE,zF,zG,zH,zI,reduceCtorEq,zJ,zK,zL,zM]
 exact e
section
variable {bs:List Int} {n r e:Int} {ob:Nat} {rr:Int} {w:Bool}
theorem d8V(r:Int):(a3A r).length=78:=by simp[a3A,ints]
theorem b4B(r:Int):(a3A r).all E9=true:=rfl
theorem c8B(hl:bs.length=75)(r' :Int):setAt (D6 bs n r e ob rr w) 0 (a3A r')=D6 (vaz 75 0) 0 r' 0 ob rr w:=by
 have h1:D6 bs n r e ob rr w=(ints .u8 bs++[.int .i64 n,.int .i64 r,.int .i64 e])++[.pointer (some ⟨ob,0,none⟩),.int .i64 rr,.bool w]:=by simp[D6]
 have h2:D6 (vaz 75 0) 0 r' 0 ob rr w=a3A r' ++[.pointer (some ⟨ob,0,none⟩),.int .i64 rr,.bool w]:=by simp[D6,a3A]
 rw[h1,h2,c9y _ _ _ _ (by simp[a3A,ints,hl]),b7k _ _ (by simp[a3A,ints,hl])]
end
structure CA where
 x:Nat
 p:Nat
 nb:Nat
 S:Nat
 rr:Int
structure CV where
 bs:List Int
 n:Nat
 r:Int
 e:Int
 w:Bool
 qs:List Int
def CA.own(A:CA):Nat->Prop:=fun z=>z=A.x\/z=A.p\/z=A.nb
structure ConnAt(h:Heap)(A:CA)(v:CV):Prop where
 o:ConnO h A.x v.bs v.n v.r v.e A.p A.rr v.w
 b:∃a B,BufAt h A.p A.nb A.S a B v.qs
 xp:A.x≠A.p/\A.x≠A.nb
theorem ConnO.keep{h h' :Heap}{x n ob:Nat}{bs:List Int}{r e rr:Int}{w:Bool}(c:ConnO h x bs n r e ob rr w)(hn:h.next<=h'.next)(ho:h'.obj x=h.obj x):ConnO h' x bs n r e ob rr w:=⟨ho.trans c.ox,uzN c.lx hn,c.len,c.byt⟩
section
variable {h h' :Heap} {A:CA} {v:CV}
theorem ConnAt.keep(c:ConnAt h A v)(hn:h.next<=h'.next)(ho:∀z,A.own z->h'.obj z=h.obj z):ConnAt h' A v:=
 ⟨c.o.keep hn (ho _ (.inl rfl)),c.b.imp fun a b=>b.imp fun B b=>b.keep hn (ho _ (.inr (.inl rfl))) (ho _ (.inr (.inr rfl))),c.xp⟩
theorem ConnAt.lt(c:ConnAt h A v){z:Nat}(hz:A.own z):z<h.next:=by
 rcases hz with rfl|rfl|rfl
 ·exact c.o.lx
 ·obtain⟨_,_,b⟩:=c.b;exact b.lp
 ·obtain⟨_,_,b⟩:=c.b;exact b.ln
theorem ConnAt.old(c:ConnAt h A v)(o:Old h h'):ConnAt h' A v:=c.keep o.next fun z hz=>o.obj z (c.lt hz)
theorem ConnAt.oldF{F:Nat->Prop}(c:ConnAt h A v)(o:OldF F h h')(hF:∀z,A.own z->¬F z):ConnAt h' A v:=c.keep o.next fun z hz=>o.obj z (c.lt hz) (hF z hz)
def cv0:CV:=⟨vaz 75 0,0,0,0,false,[]⟩
theorem b6u(h:Heap)(r:Int)(S:Nat)(hS:1<=S/\S<=65536)
  (hQ:∀h' x p nb,Old h h' ->(∀z,CA.own ⟨x,p,nb,S,r⟩ z->h.next<=z)->ConnAt h' ⟨x,p,nb,S,r⟩ cv0->Q (.pointer (some ⟨x,0,none⟩)) h'):
  u9 cp 58 [.int .i64 r,.int .i64 S] h Q:=by
 rw[a8 cp f0L]
 simp(disch:=omega)only[c58,↓R58,↓l9,m9,zA,zB,zC,zD,zE,zF,zG,zH,zI,reduceCtorEq,zJ,zK,zL,zM]
 refine c7X S hS fun h1 p nb o1 hp hnb b1=>?_
 have n1:=o1.next
 have lp:=b1.lp
 have ln:=b1.ln
 have q:=hQ (h1.new (.cells (D6 (vaz 75 0) 0 0 0 p r false) 149 .fix)) h1.next p nb (o1.trans ((Old.refl h1).more _)) (fun z hz=>by rcases hz with rfl|rfl|rfl<;>first|exact n1|exact hp|exact hnb)
  ⟨⟨f9 _ _,vpz _,List.length_replicate,fun x hx=>by rw[(List.mem_replicate.1 hx).2];omega⟩,⟨_,_,b1.keep (vLz _) (f4 _ _ (by omega)) (f4 _ _ (by omega))⟩,⟨by show h1.next≠p;omega,by show h1.next≠nb;omega⟩⟩
 simp(disch:=omega)only[c58,↓R58,E5,y6,↓l9,m9,zA,zB,zC,zD,zE,zF,zG,zH,zI,reduceCtorEq,zJ,zK,zL,zM]
 exact q
theorem a1J(c:ConnAt h A v)(Q:Value->Heap->Prop):u9 cp 38 [.pointer (some ⟨A.x,0,none⟩)] h Q↔Q (.bool v.w) h:=by
 refine v9 ?_ Q
 rw[a8 cp f0y]
 have ox:=c.o.ox
 have hl:=c.o.len
 simp(disch:=omega)only[c38,↓R38,E5,ox,b4w hl,↓l9,m9,zA,zB,zC,zD,zE,zF,zG,zH,zI,reduceCtorEq,zJ,zK,zL,zM]
def a7J(rr:Int):CV:=⟨vaz 75 0,0,rr,0,true,[]⟩
theorem e1V(c:ConnAt h A v)(hw:v.w=false)(hQ:∀h',OldF A.own h h' ->ConnAt h' A (a7J A.rr)->Q (.bool true) h'):u9 cp 36 [.pointer (some ⟨A.x,0,none⟩)] h Q:=by
 rw[a8 cp f0x]
 obtain⟨ba,bB,b⟩:=c.b
 have ox:=c.o.ox
 have hl:=c.o.len
 have lx:=c.o.lx
 have xp:=c.xp
 have hl0:(vaz 75 (0:Int)).length=75:=List.length_replicate
 have tl:(a3A A.rr).toArray.toList=a3A A.rr:=rfl
 rw[hw]at ox
 simp(disch:=omega)only[c36,↓R36,E5,ox,b4w hl,d8A hl,K0 hl,↓l9,m9,zA,zB,zC,zD,zE,zF,zG,zH,zI,reduceCtorEq,zJ,zK,zL,zM]
 refine c8D h A.rr fun h1 o1=>?_
 have ox1:=(o1.obj _ lx).trans ox
 have n1:=o1.next
 simp(disch:=omega)only[c36,↓R36,ox1,tl,d8V,b4B,c8B hl,K0 hl,K0 hl0,c8C hl0,T4 hl0,↓l9,m9,zA,zB,zC,zD,zE,zF,zG,zH,zI,reduceCtorEq,zJ,zK,zL,zM]
 have c1:ConnO ((h1.upd A.x (.cells (D6 (vaz 75 0) 0 A.rr 0 A.p A.rr false) 149 .fix)).upd A.x (.cells (D6 (vaz 75 0) 0 A.rr 0 A.p A.rr true) 149 .fix)) A.x (vaz 75 0) 0 A.rr 0 A.p A.rr true:=
  ⟨a9 _ _ _,by simp only[r9];omega,hl0,fun x hx=>by rw[(List.mem_replicate.1 hx).2];omega⟩
 have b1:BufAt ((h1.upd A.x (.cells (D6 (vaz 75 0) 0 A.rr 0 A.p A.rr false) 149 .fix)).upd A.x (.cells (D6 (vaz 75 0) 0 A.rr 0 A.p A.rr true) 149 .fix)) A.p A.nb A.S ba bB v.qs:=
  b.keep (by simp only[r9];omega) (by rw[a6 _ _ (Ne.symm xp.1),a6 _ _ (Ne.symm xp.1),o1.obj _ b.lp]) (by rw[a6 _ _ (Ne.symm xp.2),a6 _ _ (Ne.symm xp.2),o1.obj _ b.ln])
 have ofs:OldF A.own h ((h1.upd A.x (.cells (D6 (vaz 75 0) 0 A.rr 0 A.p A.rr false) 149 .fix)).upd A.x (.cells (D6 (vaz 75 0) 0 A.rr 0 A.p A.rr true) 149 .fix)):=
  (o1.f A.own).trans ((OldF.upd _ _ _ (.inl rfl)).trans (OldF.upd _ _ _ (.inl rfl)))
 refine c8w b1 fun h2 o2 b2=>?_
 simp(disch:=omega)only[c36,↓R36,↓l9,m9,zA,zB,zC,zD,zE,zF,zG,zH,zI,reduceCtorEq,zJ,zK,zL,zM]
 exact hQ h2 (ofs.trans (o2.f (.inr (.inl rfl)))) ⟨c1.keep o2.next (o2.obj _ c1.lx xp.1),⟨_,_,b2⟩,xp⟩
theorem d8Z(c:ConnAt h A v)(hw:v.w=true)(n:Int)
  (hQ:∀h' u b',OldX A.p h h' ->h.next<=b' ->E3 h' 5 B8 u (v.qs.take n.toNat) b' ->ConnAt h' A { v with qs:=v.qs.drop n.toNat }->Q u h'):u9 cp 40 [.pointer (some ⟨A.x,0,none⟩),.int .i64 n] h Q:=by
 rw[a8 cp f0A]
 have ox:=c.o.ox
 have hl:=c.o.len
 have f:=fun Q=>a1J c Q
 rw[hw]at f
 simp(disch:=omega)only[c40,↓R40,f,ox,T4 hl,↓l9,m9,zA,zB,zC,zD,zE,zF,zG,zH,zI,reduceCtorEq,zJ,zK,zL,zM]
 obtain⟨ba,bB,b0⟩:=c.b
 refine e2m b0 n fun h' u b' a' o hb V b=>?_
 simp(disch:=omega)only[c40,↓R40,↓l9,m9,zA,zB,zC,zD,zE,zF,zG,zH,zI,reduceCtorEq,zJ,zK,zL,zM]
 exact hQ h' u b' o hb V ⟨c.o.keep o.next (o.obj _ c.o.lx c.xp.1),⟨_,_,b⟩,c.xp⟩
end
def a2N(op ver rem ret:Int):List Int:=J5 168 (([op+128,ver]++M1 8 (rem % 18446744073709551616))++M1 8 (ret % 18446744073709551616))
theorem a2O(op ver rem ret:Int):(a2N op ver rem ret).length=22:=by simp[a2N,J5,E1]
theorem a4b(h:Heap)(op:Int)(hop:op=1\/op=2)(ver rem ret:Int)(hv:0<=ver/\ver<256)
  (hQ:∀h' v' b',E3 h' 5 B8 v' (a2N op ver rem ret) b' ->Old h h' ->h.next<=b' ->Q v' h'):
  u9 cp 121 [.int .i64 op,.agg #[.int .i64 ver,.int .i64 rem,.int .i64 ret]] h Q:=by
 rw[a8 cp e5q]
 have hor:IntKind.u8.wrap (IntKind.i64.wrap ((BitVec.ofInt IntKind.i64.bits op |||BitVec.ofInt IntKind.i64.bits 128).toNat:Int))=op+128:=by
  rcases hop with rfl|rfl<;>decide
 have hver:IntKind.u8.wrap ver=ver:=by rw[wu8];omega
 obtain⟨h1,h1d,o1,n1,ga⟩:=K2 h (.cells [.int .i64 ver,.int .i64 rem,.int .i64 ret] 55 .fix)
 obtain⟨h2,h2d,o2,n2,_⟩:=K2 h1 (.cells [.int .u8 (op+128),.int .u8 ver] 5 .grow)
 have ga2:=(o2.obj h.next (by omega)).trans ga
 have V2:E3 h2 5 B8 (.slice (some ⟨h1.next,0,none⟩) 2 2) [op+128,ver] h1.next:=.inr ⟨2,[],rfl,by rw[h2d];exact vpz _,by rw[h2d,f9];rfl,rfl,uzP _⟩
 simp(disch:=omega)only[b6b,↓e0H,<-h1d,ga,hor,hver,G0,vCz,vrz,<-h2d,ga2,a1Z,↓l9,m9,zA,zB,zC,zD,zE,zF,zG,zH,zI,reduceCtorEq,zJ,zK,zL,zM]
 refine a5q h2 h1.next (by omega) _ _ h1.next V2 (uzP _) (by simp) 8 (by decide) _ fun h3 v3 b3 V3 hn3 hb3 ho3=>?_
 have ga3:=(ho3 h.next (by omega)).trans ga2
 simp(disch:=omega)only[b6b,↓e0H,ga2,ga3,a1Z,↓l9,m9,zA,zB,zC,zD,zE,zF,zG,zH,zI,reduceCtorEq,zJ,zK,zL,zM]
 refine a5q h3 h1.next (by omega) _ _ b3 V3 hb3 (by simp only[uzG,E1,uzM,vkz];omega) 8 (by decide) _ fun h4 v4 b4 V4 hn4 hb4 ho4=>?_
 have ga4:=(ho4 h.next (by omega)).trans ga3
 simp(disch:=omega)only[b6b,↓e0H,ga3,ga4,↓l9,m9,zA,zB,zC,zD,zE,zF,zG,zH,zI,reduceCtorEq,zJ,zK,zL,zM]
 refine a0m h4 h1.next (by omega) 168 _ _ b4 V4 (by simp only[uzG,E1,uzM,vkz];omega) fun h5 v5 b5 V5 hn5 hb5 ho5=>?_
 simp(disch:=omega)only[b6b,↓e0H,↓l9,m9,zA,zB,zC,zD,zE,zF,zG,zH,zI,reduceCtorEq,zJ,zK,zL,zM]
 exact hQ _ _ _ V5 ⟨by omega,fun z hz=>by rw[ho5 z (by omega),ho4 z (by omega),ho3 z (by omega),o2.obj z (by omega),o1.obj z hz]⟩ (by omega)
def d9d(e:Int):List Int:=J5 168 [255,e]
theorem b6C(h:Heap)(e:Int)(he:0<=e/\e<256)
  (hQ:∀h' v' b',E3 h' 5 B8 v' (d9d e) b' ->Old h h' ->h.next<=b' ->Q v' h'):u9 cp 65 [.int .i64 e] h Q:=by
 rw[a8 cp f0S]
 have w:IntKind.u8.wrap e=e:=by rw[wu8];omega
 obtain⟨h2,h2d,o2,n2,_⟩:=K2 h (.cells [.int .u8 255,.int .u8 e] 5 .grow)
 have V2:E3 h2 5 B8 (.slice (some ⟨h.next,0,none⟩) 2 2) [255,e] h.next:=.inr ⟨2,[],rfl,by rw[h2d];exact vpz _,by rw[h2d,f9];rfl,rfl,uzP _⟩
 simp(disch:=omega)only[c65,↓R65,w,G0,vCz,vrz,<-h2d,↓l9,m9,zA,zB,zC,zD,zE,zF,zG,zH,zI,reduceCtorEq,zJ,zK,zL,zM]
 refine a0m h2 h.next (by omega) 168 _ _ _ V2 (by simp) fun h5 v5 b5 V5 hn5 hb5 ho5=>?_
 simp(disch:=omega)only[c65,↓R65,↓l9,m9,zA,zB,zC,zD,zE,zF,zG,zH,zI,reduceCtorEq,zJ,zK,zL,zM]
 exact hQ _ _ _ V5 ⟨by omega,fun z hz=>by rw[ho5 z hz,o2.obj z hz]⟩ hb5
def T8(op k track:Int):Int:=if op=3 then 46 else if op=4 then 7+min (max k 1) track*81 else 22
theorem b4I(h:Heap)(op rule cost:Int)(key:ByteArray)(k track:Int)(hk:0<=k/\k<256)(ht:1<=track/\track<=64)
  (hQ:∀h',Old h h' ->Q (.int .i64 (T8 op k track)) h'):u9 cp 74 [.agg #[.int .i64 op,.int .i64 rule,.int .u32 cost,.string key,.int .i64 k],.int .i64 track] h Q:=by
 rw[a8 cp e6E]
 have hQ:=hQ _ ((Old.refl h).more (.cells [.int .i64 op,.int .i64 rule,.int .u32 cost,.string key,.int .i64 k] 61 .fix))
 unfold T8 at hQ
 by_cases c3:op=3
 ·subst c3
  simp(disch:=omega)only[c74,↓R74,zN,↓l9,m9,zA,zB,zC,zD,zE,zF,zG,zH,zI,reduceCtorEq,zJ,zK,zL,zM]
  exact hQ
 have b3:(op==3)=false:=beq_eq_false_iff_ne.2 c3
 rw[if_neg c3]at hQ
 by_cases c4:op=4
 ·subst c4
  rw[if_pos rfl]at hQ
  simp(disch:=omega)only[c74,↓R74,zN,↓mm_max,↓mm_min,↓l9,m9,zA,zB,zC,zD,zE,zF,zG,zH,zI,reduceCtorEq,zJ,zK,zL,zM]
  exact hQ
 have b4:(op==4)=false:=beq_eq_false_iff_ne.2 c4
 rw[if_neg c4]at hQ
 simp(disch:=omega)only[c74,↓R74,b3,b4,↓l9,m9,zA,zB,zC,zD,zE,zF,zG,zH,zI,reduceCtorEq,zJ,zK,zL,zM]
 exact hQ
theorem b2f(l3:Int)(i:Nat)(c r:Int):0<=E7 l3 i c r/\E7 l3 i c r<=10:=by
 unfold E7
 repeat' split
 all_goals omega
theorem a8j(l:List Int)(r:Int):∀d i,0<=W8 l r d i/\W8 l r d i<=10
 |0,_=>by simp[W8]
 |d+1,i=>by
  have h1:=b2f (l.getD 3 0) i (l.getD i 0) r
  have h2:=a8j l r d (i+1)
  simp only[W8]
  repeat' split
  all_goals omega
theorem b2p(l:List Int)(r:Int):0<=(C9 l r).2/\(C9 l r).2<=10:=by
 have:=a8j l r l.length 0
 unfold C9
 repeat' split
 all_goals first|exact this| (simp;done)|omega
structure ReqOK(r:Int)(q:ReqV):Prop where
 op:q.op=1\/q.op=2\/q.op=3\/q.op=4
 rule:0<=q.rule/\q.rule<r/\q.rule<256
 cost:0<=q.cost/\q.cost<4294967296
 len:q.key.length<=64
 byt:E4 q.key
 k:0<=q.k/\q.k<256
theorem c9h{l:List Int}{r:Int}(byt:E4 l){q:ReqV}{e:Int}(h:C9 l r=(some q,e)):e=0/\ReqOK r q:=by
 unfold C9 at h
 split at h
 ·exact absurd (Prod.mk.inj h).1 (by simp)
 rename_i hp
 have p0:W8 l r l.length 0=0:=by omega
 split at h
 ·exact absurd (Prod.mk.inj h).1 (by simp)
 rename_i hs
 obtain⟨h1,h2⟩:=Prod.mk.inj h
 refine⟨h2.symm,?_⟩
 have h1:=uzA h1
 have l3:=b2r p0 (by omega)
 have m:=fun i=>show 0<=l.getD i 0/\l.getD i 0<256 by
  rw[vcz]
  cases e:l[i]? with
  |none=>exact⟨uzQ _,by decide⟩
  |some x=>exact byt x (uzK e)
 unfold c8S at l3
 have m3:=m 3
 have ft:=a7Q (b5d p0 (by omega))
 have f5:=b2q l.length 0 (by omega) p0 5 (by omega) (by omega) (.inr (by omega))
 have m5:=m 5
 have m6:=m 6
 have r5:l.getD 5 0<r:=by
  unfold E7 at f5
  rw[if_neg (by omega),if_neg (by omega),if_neg (by omega),if_neg (by omega),if_neg (by omega),if_pos rfl]at f5
  split at f5
  ·assumption
  ·omega
 unfold a2g at h1
 split at h1
 ·rename_i c
  have dl:((l.drop 6).take 4).length=4:=by rw[vqz,List.length_drop];omega
  have db:E4 ((l.drop 6).take 4):=fun y hy=>byt y (List.mem_of_mem_drop (List.mem_of_mem_take hy))
  have dr:=a2r 4 _ dl db
  have p4:(256:Int) ^ 4=4294967296:=by decide
  rw[p4]at dr
  subst h1
  exact⟨by rcases c with c|c<;>simp only[c]<;>decide,⟨m5.1,r5,m5.2⟩,dr,by show((l.drop 11).take _).length<=64;rw[vqz];omega,fun y hy=>byt y (List.mem_of_mem_drop (List.mem_of_mem_take hy)),by show(0:Int)<=0/\(0:Int)<256;omega⟩
 split at h1
 ·subst h1
  exact⟨.inr (.inr (.inr rfl)),⟨m5.1,r5,m5.2⟩,by show(0:Int)<=0/\(0:Int)<4294967296;omega,by simp,fun y hy=>by simp at hy,m6⟩
 ·rename_i c1 c2
  have c3:l.getD 4 0=3:=by omega
  subst h1
  exact⟨.inr (.inr (.inl c3)),⟨m5.1,r5,m5.2⟩,by show(0:Int)<=0/\(0:Int)<4294967296;omega,by simp,fun y hy=>by simp at hy,by show(0:Int)<=0/\(0:Int)<256;omega⟩
theorem c6R{CP:CProg}(t:Nat)(f:FuncId)(x:Value)(args:List Value)(h:Heap)(Q:Value->Heap->Prop):a7D CP (a3c [(t,f)] (.iface t x)) args h Q↔u9 CP f (x::args) h Q:=by
 have e:a3c [(t,f)] (.iface t x)=.func (.func f) #[x] #[]:=by simp[a3c]
 rw[e,b0D]
 simp
def M3(v:CV)(y:Int):CV:={ v with bs:=(O0 v.bs v.n y v.r).1,n:=(O0 v.bs v.n y v.r).2.1,e:=(O0 v.bs v.n y v.r).2.2 }
section
variable {σ:Type} (most:σ->ReqV->Int) (ans:σ->ReqV->σ×List Int) (S:Nat)
def a0N(st:σ)(v:CV)(y:Int):Option (σ×CV):=
 if v.e≠0 then none
 else if(C9 (v.bs.take v.n++[y]) v.r).2≠0 then
  if S-v.qs.length<6 then none else some (st,{ M3 v y with qs:=v.qs++d9d (C9 (v.bs.take v.n++[y]) v.r).2 })
 else match(C9 (v.bs.take v.n++[y]) v.r).1 with
  |some q=>if((S-v.qs.length:Nat):Int)<most st q then none else some ((ans st q).1,{ M3 v y with qs:=v.qs++(ans st q).2 })
  |none=>some (st,M3 v y)
def C8:List Int->σ->CV->σ×CV×Nat
 | [],st,v=>(st,v,0)
 |y::t,st,v=>match a0N most ans S st v y with
  |none=>(st,v,0)
  |some x=>let r:=C8 t x.1 x.2;(r.1,r.2.1,r.2.2+1)
def okS(okq:σ->ReqV->Prop):List Int->σ->CV->Prop
 | [],_,_=>True
 |y::t,st,v=>(∀q,(C9 (v.bs.take v.n++[y]) v.r).1=some q->okq st q)/\∀x,a0N most ans S st v y=some x->okS okq t x.1 x.2
end
structure Host(σ:Type)(s:Nat)(F:Nat->Prop)(A:CA)(I:Heap->σ->Prop)(okq:σ->ReqV->Prop)(most:σ->ReqV->Int)(ans:σ->ReqV->σ×List Int):Prop where
 keep:∀{h h' st},I h st->OldF A.own h h' ->I h' st
 most_ok:∀{h st q} {Q:Value->Heap->Prop},I h st->ReqOK A.rr q->okq st q->(∀h',Old h h' ->Q (.int .i64 (most st q)) h')->u9 cp 118 [.pointer (some ⟨s,0,none⟩),q.val] h Q
 ans_ok:∀{h st q} {Q:Value->Heap->Prop},I h st->ReqOK A.rr q->okq st q->(∀h' v b,OldF F h h' ->I h' (ans st q).1->E3 h' 5 B8 v (ans st q).2 b->h.next<=b->Q v h')->u9 cp 117 [.pointer (some ⟨s,0,none⟩),q.val] h Q
 len:∀{h st q},I h st->ReqOK A.rr q->okq st q->((ans st q).2.length:Int)<=most st q/\E4 (ans st q).2
 apart:∀z,A.own z->¬F z
theorem c8M{v:CV}{y:Int}(hl:v.bs.length=75)(I:v.e=0->U6 v.bs v.n v.r)(he:v.e=0):(M3 v y).e=0->U6 (M3 v y).bs (M3 v y).n (M3 v y).r:=fun h=>d9h hl (I he) y h
section
variable {σ:Type} {most:σ->ReqV->Int} {ans:σ->ReqV->σ×List Int} {s:Nat} {F:Nat->Prop} {A:CA} {I:Heap->σ->Prop} {okq:σ->ReqV->Prop}
theorem e2n{bs:List Int}{n:Nat}{y:Int}(hb:E4 bs)(hy:0<=y/\y<256):E4 (bs.take n++[y]):=fun z hz=>by
 rcases List.mem_append.1 hz with hz|hz
 ·exact hb z (List.mem_of_mem_take hz)
 ·rw[List.mem_singleton.1 hz];exact hy
theorem c7T(H:Host σ s F A I okq most ans){h:Heap}{st:σ}{v:CV}(hI:I h st)(c:ConnAt h A v)(hw:v.w=true)(hr:v.r=A.rr)(di:v.e=0->U6 v.bs v.n v.r)
  (w:Value) (l:List Int) (sl:Bys h w l) (byt:E4 l) (hok:okS most ans A.S okq l st v) (hll:l.length<=100000) (hg:∀z o cap,w=.slice (some ⟨z,o,none⟩) l.length cap->¬A.own z/\¬F z) {Q:Value->Heap->Prop}
  (hQ:∀h',OldF (fun z=>A.own z\/F z) h h' ->I h' (C8 most ans A.S l st v).1->ConnAt h' A (C8 most ans A.S l st v).2.1->(C8 most ans A.S l st v).2.1.w=true->(C8 most ans A.S l st v).2.1.r=A.rr->
   ((C8 most ans A.S l st v).2.1.e=0->U6 (C8 most ans A.S l st v).2.1.bs (C8 most ans A.S l st v).2.1.n (C8 most ans A.S l st v).2.1.r)->Q (.int .i64 (C8 most ans A.S l st v).2.2) h'):
  u9 cp 39 [.pointer (some ⟨A.x,0,none⟩),w,.iface 35 (.pointer (some ⟨s,0,none⟩))] h Q:=by
 rw[a8 cp f0z]
 obtain⟨wa,cap,rfl,hcap⟩:=sl.val
 have f:=fun Q=>a1J c Q
 rw[hw]at f
 simp(disch:=omega)only[c39,↓R39,f,↓l9,m9,zA,zB,zC,zD,zE,zF,zG,zH,zI,reduceCtorEq,zJ,zK,zL,zM]
 refine A6 cp a7v _ (fun d e hh=>∃(i:Nat) (st' :σ) (v' :CV),i+d=l.length/\OldF (fun z=>A.own z\/F z) h hh/\I hh st' /\ConnAt hh A v' /\v'.w=true/\v'.r=A.rr/\(v'.e=0->U6 v'.bs v'.n v'.r)/\okS most ans A.S okq (l.drop i) st' v' /\
   C8 most ans A.S l st v=((C8 most ans A.S (l.drop i) st' v').1,(C8 most ans A.S (l.drop i) st' v').2.1,(C8 most ans A.S (l.drop i) st' v').2.2+i)/\
   e 0=.pointer (some ⟨A.x,0,none⟩)/\e 1=.slice wa l.length cap/\e 2=.iface 35 (.pointer (some ⟨s,0,none⟩))/\e 17=.slice wa l.length cap/\e 18=.int .i64 l.length/\e 19=.int .i64 i) ?_ l.length _ _
  ⟨0,st,v,by omega,OldF.refl _ _,hI,c,hw,hr,di,hok,rfl,rfl,rfl,rfl,rfl,rfl,rfl⟩
 rintro d e hh ⟨i,st',v',hi,o,hI,c,hw,hr,di,hoks,hacc,e0,e1,e2,e17,e18,e19⟩
 by_cases ci:i<l.length
 rotate_left
 ·have b1:decide ((i:Int)<(l.length:Int))=false:=dFz (by omega)
  obtain rfl:i=l.length:=by omega
  simp(disch:=omega)only[a7v,c39,↓R39,e0,e1,e2,e17,e18,e19,b1,↓l9,m9,zA,zB,zC,zD,zE,zF,zG,zH,zI,reduceCtorEq,zJ,zK,zL,zM]
  rw[List.drop_length]at hacc
  simp only[C8,vsz]at hacc
  have:=hQ hh o
  rw[hacc]at this
  exact this hI c hw hr di
 have b1:decide ((i:Int)<(l.length:Int))=true:=dTz (by omega)
 have nx:(i:Int)+1=((i+1:Nat):Int):=by omega
 have hx:l[i]? =some l[i]:=uzF ci
 have hdrop:l.drop i=l[i]::l.drop (i+1):=List.drop_eq_getElem_cons ci
 obtain⟨y,hy⟩:∃y,y=l[i]:=⟨_,rfl⟩
 rw[<-hy]at hx hdrop
 have yr:=byt y (uzK hx)
 rw[hdrop]at hacc hoks
 simp only[C8]at hacc
 obtain⟨hq1,hq2⟩:=hoks
 obtain⟨z,of,cap',hv',hcc,hz,_,hrd⟩:=sl.at (by omega)
 have hnz:=hg z of cap' hv'
 simp only[Value.slice.injEq]at hv'
 obtain⟨rfl,_,rfl⟩:=hv'
 rw[<-o.obj z hz (fun q=>q.elim hnz.1 hnz.2)]at hrd
 have hgy:=Bys.get (cap:=cap) hrd hx
 obtain⟨ba,bB,bb⟩:=c.b
 have ox:=c.o.ox
 have hl:=c.o.len
 have ferr:=fun Q=>e4q c.o Q
 have stop:a0N most ans A.S st' v' y=none->∀h',OldF (fun z=>A.own z\/F z) h h' ->I h' st' ->ConnAt h' A v' ->Q (.int .i64 i) h' :=fun hs h' o' hI' c' =>by
  rw[hs]at hacc
  have:=hQ h' o'
  rw[hacc]at this
  have:=this hI' c' hw hr di
  simpa using this
 by_cases p0:v'.e≠0
 ·have p' :(v'.e !=0)=true:=bne_iff_ne.2 p0
  simp(disch:=omega)only[a7v,c39,↓R39,e0,e1,e2,e17,e18,e19,b1,hgy,ferr,p',uzS,↓l9,m9,zA,zB,zC,zD,zE,zF,zG,zH,zI,reduceCtorEq,zJ,zK,zL,zM]
  exact stop (by unfold a0N;rw[if_pos p0]) hh o hI c
 have pe:v'.e=0:=by omega
 have p' :(v'.e !=0)=false:=by rw[pe];rfl
 have dinv:=di pe
 have co:=c.o
 rw[pe]at co
 simp(disch:=omega)only[a7v,c39,↓R39,e0,e1,e2,e17,e18,e19,b1,hgy,ferr,p',uzS,↓l9,m9,zA,zB,zC,zD,zE,zF,zG,zH,zI,reduceCtorEq,zJ,zK,zL,zM]
 refine e0w co dinv.1 y yr fun h1 o1=>?_
 have n1:=o1.next
 have onx:=o.next
 have lx:=c.o.lx
 have pn:=bb.pn
 have nxt:∀(h4:Heap) (st2:σ) (qs2:List Int),OldF (fun z=>A.own z\/F z) h h4->I h4 st2->ConnO h4 A.x (O0 v'.bs v'.n y v'.r).1 (O0 v'.bs v'.n y v'.r).2.1 v'.r (O0 v'.bs v'.n y v'.r).2.2 A.p A.rr v'.w->(∃a B,BufAt h4 A.p A.nb A.S a B qs2)->a0N most ans A.S st' v' y=some (st2,{ M3 v' y with qs:=qs2 })->
   OldF (fun z=>A.own z\/F z) h h4/\I h4 st2/\ConnAt h4 A { M3 v' y with qs:=qs2 }/\v'.w=true/\v'.r=A.rr/\((M3 v' y).e=0->U6 (M3 v' y).bs (M3 v' y).n (M3 v' y).r)/\okS most ans A.S okq (l.drop (i+1)) st2 { M3 v' y with qs:=qs2 }/\
   C8 most ans A.S l st v=((C8 most ans A.S (l.drop (i+1)) st2 { M3 v' y with qs:=qs2 }).1,(C8 most ans A.S (l.drop (i+1)) st2 { M3 v' y with qs:=qs2 }).2.1,(C8 most ans A.S (l.drop (i+1)) st2 { M3 v' y with qs:=qs2 }).2.2+(i+1)):=by
  intro h4 st2 qs2 o4 I4 c4 b4 hs
  refine⟨o4,I4,⟨c4,b4,c.xp⟩,hw,hr,c8M hl di pe,hq2 _ hs,?_⟩
  rw[hacc,hs]
  simp only[uzB,true_and]
  omega
 obtain⟨q,hq⟩:∃q,q=(C9 (v'.bs.take v'.n++[y]) v'.r).1.getD d9S:=⟨_,rfl⟩
 obtain⟨e',he'⟩:∃e',e' =(C9 (v'.bs.take v'.n++[y]) v'.r).2:=⟨_,rfl⟩
 have er:=b2p (v'.bs.take v'.n++[y]) v'.r
 rw[<-he']at er
 rw[<-hq,<-he']
 obtain⟨h2,h2d,o2,n2,g2⟩:=T9 h1 (.cells [.int .i64 0,.int .i64 0,.int .u32 0,.string ⟨#[]⟩,.int .i64 0] 61 .fix) (.cells [.int .i64 q.op,.int .i64 q.rule,.int .u32 q.cost,.string (Can.bs q.key),.int .i64 q.k] 61 .fix)
 have o12:=o1.trans o2
 have c2:=c.old o12
 have ox2:=c2.o.ox
 have b2:=bb.keep (h' :=h2) o12.next (o12.obj _ bb.lp) (o12.obj _ bb.ln)
 have I2:=H.keep hI (o12.f A.own)
 have froom:=fun Q=>room_ok b2 Q
 by_cases pf:e' ≠0
 ·have pf' :(e' !=0)=true:=bne_iff_ne.2 pf
  by_cases rm:A.S-v'.qs.length<6
  ·have rm' :decide (((A.S-v'.qs.length:Nat):Int)<6)=true:=dTz (by omega)
   simp(disch:=omega)only[c39,↓R39,ReqV.val,a1U,e0,e1,e2,e17,e18,e19,y6,<-h2d,ox2,T4 hl,froom,pf',rm',↓l9,m9,zA,zB,zC,zD,zE,zF,zG,zH,zI,reduceCtorEq,zJ,zK,zL,zM]
   exact stop (by unfold a0N;rw[if_neg p0,<-he',if_pos pf,if_pos rm]) h2 (o.trans (o12.f _)) I2 c2
  ·have rm' :decide (((A.S-v'.qs.length:Nat):Int)<6)=false:=dFz (by omega)
   simp(disch:=omega)only[c39,↓R39,ReqV.val,a1U,e0,e1,e2,e17,e18,e19,y6,<-h2d,ox2,T4 hl,froom,pf',rm',↓l9,m9,zA,zB,zC,zD,zE,zF,zG,zH,zI,reduceCtorEq,zJ,zK,zL,zM]
   refine b6C h2 e' (by omega) fun h3 v3 b3 V3 o3 hb3=>?_
   have I3:=H.keep I2 (o3.f A.own)
   have c3:=c2.old o3
   have ox3:=c3.o.ox
   have b3' :=b2.keep (h' :=h3) o3.next (o3.obj _ b2.lp) (o3.obj _ b2.ln)
   have n3:=o3.next
   have ptr:=fun Q=>@b7D h3 A.p A.nb A.S ba bB v'.qs b3' v3 (d9d e') V3.bys (by intro x hx;simp only[d9d,J5,vCz,vrz,vxz,uzM,vkz,List.not_mem_nil,or_false]at hx;omega) (by show v'.qs.length+6<=A.S;have:=b2.hn;omega) (fun z o cap hv=>by
    have:=V3.blk hv
    have l1:=b2.lp
    have l2:=b2.ln
    unfold d0v
    omega) Q
   simp(disch:=omega)only[c39,↓R39,ox3,T4 hl,↓l9,m9,zA,zB,zC,zD,zE,zF,zG,zH,zI,reduceCtorEq,zJ,zK,zL,zM]
   refine ptr _ fun h4 B4 o4 hn4 b4=>?_
   have co4:ConnO h4 A.x v'.bs v'.n v'.r 0 A.p A.rr v'.w:=by rw[<-pe];exact c3.o.keep o4.next (o4.obj _ c3.o.lx (fun h=>h.elim c.xp.1 c.xp.2))
   have I4:=H.keep I3 (o4.mono fun z hz=> .inr hz)
   simp(disch:=omega)only[c39,↓R39,e0,e1,e2,e17,e18,e19,↓l9,m9,zA,zB,zC,zD,zE,zF,zG,zH,zI,reduceCtorEq,zJ,zK,zL,zM]
   refine b2g co4 dinv.1 y yr fun h5 u o5 c5=>?_
   have N:=nxt h5 st' (v'.qs++d9d e') (((o.trans (o12.f _)).trans (o3.f _)).trans ((o4.mono fun z hz=> .inl (.inr hz)).trans (o5.f (.inl (.inl rfl))))) (H.keep I4 (o5.f (.inl rfl))) c5 ⟨_,_,b4.keep o5.next (o5.obj _ b4.lp (Ne.symm c.xp.1)) (o5.obj _ b4.ln (Ne.symm c.xp.2))⟩ (by unfold a0N;rw[if_neg p0,<-he',if_pos pf,if_neg rm])
   simp(disch:=omega)only[c39,↓R39,e0,e1,e2,e17,e18,e19,nx,↓l9,m9,zA,zB,zC,zD,zE,zF,zG,zH,zI,reduceCtorEq,zJ,zK,zL,zM]
   refine⟨d-1,by omega,i+1,_,_,by omega,N.1,N.2.1,N.2.2.1,N.2.2.2.1,N.2.2.2.2.1,N.2.2.2.2.2.1,N.2.2.2.2.2.2.1,N.2.2.2.2.2.2.2,?_⟩
   repeat' first|assumption|rfl|apply And.intro
 have pf' :(e' !=0)=false:=by rw[show e' =0 by omega];rfl
 cases hsome:(C9 (v'.bs.take v'.n++[y]) v'.r).1 with
 |none=>
  simp(disch:=omega)only[c39,↓R39,ReqV.val,a1U,e0,e1,e2,e17,e18,e19,y6,<-h2d,pf',hsome,Option.isSome_none,↓l9,m9,zA,zB,zC,zD,zE,zF,zG,zH,zI,reduceCtorEq,zJ,zK,zL,zM]
  have co2:ConnO h2 A.x v'.bs v'.n v'.r 0 A.p A.rr v'.w:=by rw[<-pe];exact c2.o
  refine b2g co2 dinv.1 y yr fun h5 u o5 c5=>?_
  have N:=nxt h5 st' v'.qs ((o.trans (o12.f _)).trans (o5.f (.inl (.inl rfl)))) (H.keep I2 (o5.f (.inl rfl))) c5 ⟨_,_,b2.keep o5.next (o5.obj _ b2.lp (Ne.symm c.xp.1)) (o5.obj _ b2.ln (Ne.symm c.xp.2))⟩ (by unfold a0N;rw[if_neg p0,<-he',if_neg pf,hsome];rfl)
  simp(disch:=omega)only[c39,↓R39,e0,e1,e2,e17,e18,e19,nx,↓l9,m9,zA,zB,zC,zD,zE,zF,zG,zH,zI,reduceCtorEq,zJ,zK,zL,zM]
  refine⟨d-1,by omega,i+1,_,_,by omega,N.1,N.2.1,N.2.2.1,N.2.2.2.1,N.2.2.2.2.1,N.2.2.2.2.2.1,N.2.2.2.2.2.2.1,N.2.2.2.2.2.2.2,?_⟩
  repeat' first|assumption|rfl|apply And.intro
 |some q' =>
  have hqq:q' =q:=by rw[hq,hsome];rfl
  subst hqq
  have rq:ReqOK A.rr q' :=by
   have:=c9h (l:=v'.bs.take v'.n++[y]) (r:=v'.r) (e2n c.o.byt yr) (q:=q') (e:=e') (by rw[he',<-hsome])
   rw[<-hr];exact this.2
  have okk:=hq1 q' hsome
  have hln:=H.len I2 rq okk
  have fm:=fun Q hQ=>H.most_ok (Q:=Q) I2 rq okk hQ
  unfold ReqV.val a1U at fm
  simp(disch:=omega)only[c39,↓R39,ReqV.val,a1U,e0,e1,e2,e17,e18,e19,y6,<-h2d,g2,ox2,T4 hl,froom,pf',hsome,Option.isSome_some,c6R,↓l9,m9,zA,zB,zC,zD,zE,zF,zG,zH,zI,reduceCtorEq,zJ,zK,zL,zM]
  refine fm _ fun h2x o2x=>?_
  have c2x:=c2.old o2x
  have ox2x:=c2x.o.ox
  have b2x:=b2.keep (h' :=h2x) o2x.next (o2x.obj _ b2.lp) (o2x.obj _ b2.ln)
  have I2x:=H.keep I2 (o2x.f A.own)
  have n2x:=o2x.next
  have g2x:=(o2x.obj h1.next (by omega)).trans g2
  by_cases rm:((A.S-v'.qs.length:Nat):Int)<most st' q'
  ·have rm' :decide (((A.S-v'.qs.length:Nat):Int)<most st' q')=true:=dTz rm
   simp(disch:=omega)only[c39,↓R39,e0,e1,e2,e17,e18,e19,rm',↓l9,m9,zA,zB,zC,zD,zE,zF,zG,zH,zI,reduceCtorEq,zJ,zK,zL,zM]
   exact stop (by unfold a0N;rw[if_neg p0,<-he',if_neg pf,hsome];show(if _ then _ else _)=_;rw[if_pos rm]) h2x (o.trans ((o12.trans o2x).f _)) I2x c2x
  ·have rm' :decide (((A.S-v'.qs.length:Nat):Int)<most st' q')=false:=dFz rm
   have fa:=fun Q hQ=>H.ans_ok (Q:=Q) I2x rq okk hQ
   unfold ReqV.val a1U at fa
   simp(disch:=omega)only[c39,↓R39,e0,e1,e2,e17,e18,e19,rm',ox2x,g2x,T4 hl,c6R,↓l9,m9,zA,zB,zC,zD,zE,zF,zG,zH,zI,reduceCtorEq,zJ,zK,zL,zM]
   refine fa _ fun h3 v3 b3 o3 I3 V3 hb3=>?_
   have c3:=c2x.oldF o3 H.apart
   have ox3:=c3.o.ox
   have b3' :=b2x.keep (h' :=h3) o3.next (o3.obj _ b2x.lp (H.apart _ (.inr (.inl rfl)))) (o3.obj _ b2x.ln (H.apart _ (.inr (.inr rfl))))
   have n3:=o3.next
   have ptr:=fun Q=>@b7D h3 A.p A.nb A.S ba bB v'.qs b3' v3 (ans st' q').2 V3.bys hln.2 (by have:=hln.1;have:=b2.hn;omega) (fun z o cap hv=>by
    have:=V3.blk hv
    have l1:=b2x.lp
    have l2:=b2x.ln
    unfold d0v
    omega) Q
   simp(disch:=omega)only[c39,↓R39,ox3,T4 hl,↓l9,m9,zA,zB,zC,zD,zE,zF,zG,zH,zI,reduceCtorEq,zJ,zK,zL,zM]
   refine ptr _ fun h4 B4 o4 hn4 b4=>?_
   have co4:ConnO h4 A.x v'.bs v'.n v'.r 0 A.p A.rr v'.w:=by rw[<-pe];exact c3.o.keep o4.next (o4.obj _ c3.o.lx (fun h=>h.elim c.xp.1 c.xp.2))
   have I4:=H.keep I3 (o4.mono fun z hz=> .inr hz)
   have noT:a5d 291 [] .nilIface (.iface 35 (.pointer (some ⟨s,0,none⟩)))=some (.tuple #[.nilIface,.bool false]):=by simp[a5d]
   simp(disch:=omega)only[c39,↓R39,e0,e1,e2,e17,e18,e19,noT,↓l9,m9,zA,zB,zC,zD,zE,zF,zG,zH,zI,reduceCtorEq,zJ,zK,zL,zM]
   refine b2g co4 dinv.1 y yr fun h5 u o5 c5=>?_
   have N:=nxt h5 (ans st' q').1 (v'.qs++(ans st' q').2) ((((o.trans (o12.f _)).trans (o2x.f _)).trans (o3.mono fun z hz=> .inr hz)).trans ((o4.mono fun z hz=> .inl (.inr hz)).trans (o5.f (.inl (.inl rfl))))) (H.keep I4 (o5.f (.inl rfl))) c5 ⟨_,_,b4.keep o5.next (o5.obj _ b4.lp (Ne.symm c.xp.1)) (o5.obj _ b4.ln (Ne.symm c.xp.2))⟩ (by unfold a0N;rw[if_neg p0,<-he',if_neg pf,hsome];show(if _ then _ else _)=_;rw[if_neg rm])
   simp(disch:=omega)only[c39,↓R39,e0,e1,e2,e17,e18,e19,nx,↓l9,m9,zA,zB,zC,zD,zE,zF,zG,zH,zI,reduceCtorEq,zJ,zK,zL,zM]
   refine⟨d-1,by omega,i+1,_,_,by omega,N.1,N.2.1,N.2.2.1,N.2.2.2.1,N.2.2.2.2.1,N.2.2.2.2.2.1,N.2.2.2.2.2.2.1,N.2.2.2.2.2.2.2,?_⟩
   repeat' first|assumption|rfl|apply And.intro
end
end Go.Proofs.YtlakhgibjfmjjaaGreat.Can
namespace Go.Proofs.YtlakhgibjfmjjaaGreat.Can
open Go
theorem b1g{l:List Int}{r:Int}(h:∀i,i<l.length->E7 (l.getD 3 0) i (l.getD i 0) r=0):∀d i,i+d=l.length->W8 l r d i=0
 |0,_,_=>rfl
 |d+1,i,hd=>by
  simp only[W8]
  split
  ·rfl
  ·rw[if_pos (h i (by omega))];exact b1g h d (i+1) (by omega)
theorem b6B{x y c r:Int}{i:Nat}(hi:i<4):E7 x i c r=E7 y i c r:=by
 unfold E7
 have:i=0\/i=1\/i=2\/i=3:=by omega
 rcases this with rfl|rfl|rfl|rfl<;>rfl
theorem d9e{x c r:Int}(h:c=2\/c=3\/7<=c/\c<=71):E7 x 3 c r=0:=by
 have:E7 x 3 c r=if c=2\/c=3\/7<=c/\c<=71 then 0 else 7:=rfl
 rw[this,if_pos h]
theorem d9f{x c r:Int}(h:a1l c x=true):E7 x 4 c r=0:=by
 have:E7 x 4 c r=if a1l c x=true then 0 else 8:=rfl
 rw[this,if_pos h]
theorem a7O{x c r:Int}(h:c<r):E7 x 5 c r=0:=by
 have:E7 x 5 c r=if c<r then 0 else 9:=rfl
 rw[this,if_pos h]
theorem c8L{x c r:Int}(h:c=x-7):E7 x 10 c r=0:=by
 have:E7 x 10 c r=if c=x-7 then 0 else 10:=rfl
 rw[this,if_pos h]
structure Fr(l:List Int)(r:Int):Prop where
 len:(l.length:Int)=4+l.getD 3 0
 l4:4<l.length
 ok:∀i,i<l.length->E7 (l.getD 3 0) i (l.getD i 0) r=0
theorem a3X{l:List Int}{m i:Nat}(h:i<m):(l.take m).getD i 0=l.getD i 0:=by
 rw[vcz,vcz,voz,if_pos h]
theorem Fr.pre{l:List Int}{r:Int}(f:Fr l r){m:Nat}(hm:m<=l.length):W8 (l.take m) r (l.take m).length 0=0:=by
 have hl:(l.take m).length=m:=by rw[vqz];omega
 refine b1g (fun i hi=>?_) _ _ (by omega)
 rw[hl]at hi
 rw[a3X hi]
 by_cases h4:i<4
 ·rw[b6B h4];exact f.ok i (by omega)
 ·rw[a3X (by omega)];exact f.ok i (by omega)
theorem Fr.part{l:List Int}{r:Int}(f:Fr l r){m:Nat}(hm:m<l.length):C9 (l.take m) r=(none,0):=by
 have hl:(l.take m).length=m:=by rw[vqz];omega
 have h0:=f.pre (Nat.le_of_lt hm)
 unfold C9
 rw[if_neg (by omega),if_pos]
 rw[hl]
 by_cases h4:m<4
 ·exact .inl h4
 ·right;rw[a3X (by omega)];have:=f.len;omega
theorem Fr.whole{l:List Int}{r:Int}(f:Fr l r):C9 l r=(some (a2g l),0):=by
 have h0:=f.pre (uzP _)
 rw[List.take_length]at h0
 have:=f.len
 have:=f.l4
 unfold C9
 rw[if_neg (by omega),if_neg (by omega)]
section
variable {σ:Type} (most:σ->ReqV->Int) (ans:σ->ReqV->σ×List Int) (S:Nat)
theorem a2I{l:List Int}{r:Int}(f:Fr l r)(st:σ)(hroom:∀v:CV,True):∀(d j:Nat) (v:CV),j+d=l.length->0<d->v.bs.length=75->v.e=0->v.n=j->v.r=r->v.bs.take j=l.take j->j<=74->
  (most st (a2g l)<=((S-v.qs.length:Nat):Int))->l.length<=75->
  ∃bs,bs.length=75/\C8 most ans S (l.drop j) st v=((ans st (a2g l)).1,{ v with bs:=bs,n:=0,qs:=v.qs++(ans st (a2g l)).2 },d)
 |0,j,v,hj,hd,_,_,_,_,_,_,_,_=>by omega
 |d+1,j,v,hj,hd,hb,he,hn,hr,ht,h74,hm,hl=>by
  have hdrop:l.drop j=l[j]::l.drop (j+1):=List.drop_eq_getElem_cons (by omega)
  have hx:l[j]? =some l[j]:=uzF (by omega)
  obtain⟨y,hy⟩:∃y,y=l[j]'(by omega):=⟨_,rfl⟩
  rw[<-hy]at hx hdrop
  have tk:v.bs.take v.n++[y]=l.take (j+1):=by rw[hn,ht,<-I7 hx]
  rw[hdrop]
  simp only[C8,a0N]
  rw[if_neg (by omega),tk,hr]
  by_cases c:d=0
  ·have e:l.take (j+1)=l:=vnz (by omega)
   have fe:M3 v y={ v with n:=0 }:=by
    have e1:O0 v.bs v.n y v.r=(v.bs,0,0):=by
     unfold O0;rw[tk,e,hr,f.whole,if_neg (by simp),if_pos (by simp)]
    unfold M3;rw[e1];simp[he]
   rw[e,f.whole,fe]
   simp only[ne_eq,not_true_eq_false,if_false]
   rw[if_neg (by omega)]
   have dn:l.drop (j+1)=[]:=List.drop_eq_nil_of_le (by omega)
   subst c
   exact⟨v.bs,hb,by simp[dn,C8,hr]⟩
  ·have pt:=f.part (m:=j+1) (by omega)
   have fe:M3 v y={ v with bs:=v.bs.set j y,n:=j+1 }:=by
    have e1:O0 v.bs v.n y v.r=(v.bs.set j y,j+1,0):=by
     unfold O0;rw[tk,hr,pt,if_neg (by simp),if_neg (by simp),hn]
    unfold M3;rw[e1];simp[he]
   rw[pt,fe]
   simp only[ne_eq,not_true_eq_false,if_false]
   obtain⟨bs,hbs,ih⟩:=a2I f st hroom d (j+1) { v with bs:=v.bs.set j y,n:=j+1 } (by omega) (by omega) (by simp[hb]) he rfl hr (by show(v.bs.set j y).take (j+1)=_;rw[a3i (by omega),ht,<-I7 hx]) (by omega) hm hl
   refine⟨bs,hbs,?_⟩
   rw[ih]
   simp[hr]
end
section
variable {σ:Type} (most:σ->ReqV->Int) (ans:σ->ReqV->σ×List Int) (S:Nat) {okq:σ->ReqV->Prop}
theorem b4Y{l:List Int}{r:Int}(f:Fr l r)(st:σ)(hq:okq st (a2g l)):∀(d j:Nat) (v:CV),j+d=l.length->v.bs.length=75->v.n=j->v.r=r->v.bs.take j=l.take j->l.length<=75->okS most ans S okq (l.drop j) st v
 |0,j,v,hj,_,_,_,_,_=>by rw[List.drop_eq_nil_of_le (by omega)];trivial
 |d+1,j,v,hj,hb,hn,hr,ht,hl=>by
  have hdrop:l.drop j=l[j]::l.drop (j+1):=List.drop_eq_getElem_cons (by omega)
  have hx:l[j]? =some l[j]:=uzF (by omega)
  obtain⟨y,hy⟩:∃y,y=l[j]'(by omega):=⟨_,rfl⟩
  rw[<-hy]at hx hdrop
  have tk:v.bs.take v.n++[y]=l.take (j+1):=by rw[hn,ht,<-I7 hx]
  rw[hdrop]
  by_cases c:d=0
  ·have e:l.take (j+1)=l:=vnz (by omega)
   refine⟨fun q h=>?_,fun x _=>?_⟩
   ·rw[tk,e,hr,f.whole]at h
    rw[<-uzA h];exact hq
   ·rw[List.drop_eq_nil_of_le (by omega)];trivial
  ·have pt:=f.part (m:=j+1) (by omega)
   refine⟨fun q h=>?_,fun x hx2=>?_⟩
   ·rw[tk,hr,pt]at h;exact absurd h (by simp)
   ·have e1:O0 v.bs v.n y v.r=(v.bs.set j y,j+1,0):=by
     unfold O0;rw[tk,hr,pt,if_neg (by simp),if_neg (by simp),hn]
    have fe:M3 v y={ v with bs:=v.bs.set j y,n:=j+1,e:=0 }:=by
     unfold M3;rw[e1]
    unfold a0N at hx2
    rw[tk,hr,pt,fe]at hx2
    split at hx2
    ·simp at hx2
    ·simp only[ne_eq,not_true_eq_false,if_false]at hx2
     rw[<-uzA hx2]
     exact b4Y f st hq d (j+1) _ (by omega) (by simp[hb]) rfl hr (by show(v.bs.set j y).take (j+1)=_;rw[a3i (by omega),ht,<-I7 hx]) hl
end
structure ReqC(r:Int)(q:ReqV):Prop extends ReqOK r q where
 a:q.op=1\/q.op=2->q.k=0
 b:q.op=3\/q.op=4->q.cost=0/\q.key=[]
 c:q.op=3->q.k=0
def C4(q:ReqV):List Int:=J5 167 (a3S q.op q.rule q.cost q.key q.k)
theorem b6E{q:ReqV}{r:Int}(h:ReqC r q)(c:q.op=1\/q.op=2):∃w x y z:Int,M1 4 q.cost=[w,x,y,z]/\C4 q=(167:Int)::1::0::(7+(q.key.length:Int))::q.op::q.rule::w::x::y::z::(q.key.length:Int)::q.key:=by
 have h1:=h.rule
 have h2:=h.len
 obtain⟨w,x,y,z,he⟩:∃w x y z:Int,M1 4 q.cost=[w,x,y,z]:=⟨_,_,_,_,rfl⟩
 refine⟨w,x,y,z,he,?_⟩
 unfold C4 J5 a3S
 rw[if_pos c,he]
 have:([q.op % 256,q.rule % 256]++([w,x,y,z]++[(q.key.length:Int) % 256]++q.key)).length=7+q.key.length:=by
  simp only[uzG,uzM,vkz];omega
 rw[this,show(((7+q.key.length:Nat):Int)) / 256 % 256=0 by omega,show(((7+q.key.length:Nat):Int)) % 256=7+q.key.length by omega,show q.rule % 256=q.rule by omega,show(q.key.length:Int) % 256=q.key.length by omega,show q.op % 256=q.op by omega]
 simp
theorem a1I{q:ReqV}{r:Int}(h:ReqC r q):Fr (C4 q) r/\a2g (C4 q)=q/\(C4 q).length<=75:=by
 have hr:=h.rule
 have hl:=h.len
 have hop:=h.op
 by_cases c:q.op=1\/q.op=2
 ·obtain⟨w,x,y,z,he,e⟩:=b6E h c
  have hd:a1S [w,x,y,z]=q.cost:=by rw[<-he];exact c6W 4 q.cost h.cost.1 (by have:=h.cost.2;omega)
  rw[e]
  refine⟨⟨?_,?_,?_⟩,?_,?_⟩
  ·simp only[uzM,List.getD_cons_succ,List.getD_cons_zero];omega
  ·simp only[uzM];omega
  ·intro i hi
   have fo:a1l q.op (7+(q.key.length:Int))=true:=by
    unfold a1l;rw[if_pos c];exact dTz (by omega)
   simp only[List.getD_cons_succ,List.getD_cons_zero]
   have:i=0\/i=1\/i=2\/i=3\/i=4\/i=5\/i=10\/(i≠0/\i≠1/\i≠2/\i≠3/\i≠4/\i≠5/\i≠10):=by omega
   rcases this with rfl|rfl|rfl|rfl|rfl|rfl|rfl| ⟨n0,n1,n2,n3,n4,n5,n10⟩
   ·rfl
   ·rfl
   ·rfl
   ·exact d9e (by show 7+(q.key.length:Int)=2\/7+(q.key.length:Int)=3\/7<=7+(q.key.length:Int)/\7+(q.key.length:Int)<=71;omega)
   ·exact d9f fo
   ·exact a7O hr.2.1
   ·exact c8L (by show(q.key.length:Int)=7+(q.key.length:Int)-7;omega)
   ·unfold E7;rw[if_neg n0,if_neg n1,if_neg n2,if_neg n3,if_neg n4,if_neg n5,if_neg n10]
  ·unfold a2g
   simp only[List.getD_cons_succ,List.getD_cons_zero,List.drop_succ_cons,vwz,List.take_succ_cons,List.take_zero]
   rw[if_pos c,hd,show(4+(7+(q.key.length:Int))).toNat-11=q.key.length by omega,List.take_length,<-h.a c]
  ·simp only[uzM];omega
 by_cases c3:q.op=3
 ·obtain⟨b1,b2⟩:=h.b (.inl c3)
  have b3:=h.c c3
  have e:C4 q=[167,1,0,2,3,q.rule]:=by
   unfold C4 J5 a3S
   rw[if_neg c,if_neg (by omega),c3,show q.rule % 256=q.rule by omega];simp
  rw[e]
  refine⟨⟨rfl,by simp,fun i hi=>?_⟩,?_,by simp⟩
  ·have:i=0\/i=1\/i=2\/i=3\/i=4\/i=5:=by simp at hi;omega
   rcases this with rfl|rfl|rfl|rfl|rfl|rfl
   ·rfl
   ·rfl
   ·rfl
   ·rfl
   ·rfl
   ·exact a7O hr.2.1
  ·obtain⟨a1,a2,a3,a4,a5⟩:=q
   simp only at b1 b2 b3 c3
   subst b1 b2 b3 c3
   rfl
 have c4:q.op=4:=by omega
 obtain⟨b1,b2⟩:=h.b (.inr c4)
 have hk:=h.k
 have e:C4 q=[167,1,0,3,4,q.rule,q.k]:=by
  unfold C4 J5 a3S
  rw[if_neg c,if_pos c4,c4,show q.rule % 256=q.rule by omega,show q.k % 256=q.k by omega];simp
 rw[e]
 refine⟨⟨rfl,by simp,fun i hi=>?_⟩,?_,by simp⟩
 ·have:i=0\/i=1\/i=2\/i=3\/i=4\/i=5\/i=6:=by simp at hi;omega
  rcases this with rfl|rfl|rfl|rfl|rfl|rfl|rfl
  ·rfl
  ·rfl
  ·rfl
  ·rfl
  ·rfl
  ·exact a7O hr.2.1
  ·rfl
 ·obtain⟨a1,a2,a3,a4,a5⟩:=q
  simp only at b1 b2 c4
  subst b1 b2 c4
  rfl
theorem b5V{σ:Type}(most:σ->ReqV->Int)(ans:σ->ReqV->σ×List Int)(S:Nat){q:ReqV}{r:Int}(h:ReqC r q)(st:σ)(v:CV)(hb:v.bs.length=75)(he:v.e=0)(hn:v.n=0)(hr:v.r=r)(hm:most st q<=((S-v.qs.length:Nat):Int)):
  ∃bs,bs.length=75/\C8 most ans S (C4 q) st v=((ans st q).1,{ v with bs:=bs,n:=0,qs:=v.qs++(ans st q).2 },(C4 q).length):=by
 obtain⟨f,hq,hl⟩:=a1I h
 have:=a2I most ans S f st (fun _=>trivial) (C4 q).length 0 v (by omega) (by have:=f.l4;omega) hb he hn hr rfl (by decide) (by rw[hq];exact hm) hl
 rw[hq]at this
 exact this
theorem e4z{σ:Type}(most:σ->ReqV->Int)(ans:σ->ReqV->σ×List Int)(S:Nat){okq:σ->ReqV->Prop}{q:ReqV}{r:Int}(h:ReqC r q)(st:σ)(hq:okq st q)(v:CV)(hb:v.bs.length=75)(hn:v.n=0)(hr:v.r=r):okS most ans S okq (C4 q) st v:=by
 obtain⟨f,e,hl⟩:=a1I h
 exact b4Y most ans S f st (by rw[e];exact hq) (C4 q).length 0 v (by omega) hb hn hr rfl hl
end Go.Proofs.YtlakhgibjfmjjaaGreat.Can
namespace Go.Proofs.YtlakhgibjfmjjaaGreat.Can
open Go
attribute [local congr] u5 u4 l5 l8 r8 s9 u6 w9 u7
variable {Q : Value → Heap → Prop}
def a4W(p:Nat):Value:=.pointer (some ⟨p,0,none⟩)
def PSl(h:Heap)(t:TypeId)(v:Value)(l:List Nat)(b:Nat):Prop:=
 (v=.slice none 0 0/\l=[])\/∃cap rest,v=.slice (some ⟨b,0,none⟩) l.length cap/\b<h.next/\h.obj b=.cells (l.map a4W++rest) t .grow/\l.length+rest.length=cap/\l.length<=cap
section
variable {h h' :Heap} {t:TypeId} {v:Value} {l:List Nat} {b:Nat} {CP:CProg}
theorem PSl.nil(h:Heap)(t:TypeId)(b:Nat):PSl h t (.slice none 0 0) [] b:=.inl ⟨rfl,rfl⟩
theorem PSl.keep(V:PSl h t v l b)(hn:h.next<=h'.next)(ho:b<h.next->h'.obj b=h.obj b):PSl h' t v l b:=by
 rcases V with V| ⟨cap,rest,h1,h2,h3,h4⟩
 ·exact .inl V
 ·exact .inr ⟨cap,rest,h1,uzN h2 hn,by rw[ho h2];exact h3,h4⟩
theorem PSl.old(V:PSl h t v l b)(o:Old h h'):PSl h' t v l b:=V.keep o.next fun hb=>o.obj b hb
theorem PSl.val(V:PSl h t v l b):∃a cap,v=.slice a l.length cap:=by
 rcases V with⟨rfl,rfl⟩| ⟨cap,rest,h1,_⟩
 ·exact⟨none,0,rfl⟩
 ·exact⟨_,cap,h1⟩
theorem PSl.get(V:PSl h t v l b){i p:Nat}(hx:l[i]? =some p):∃cap,v=.slice (some ⟨b,0,none⟩) l.length cap/\b<h.next/\(h.obj b).get i=some (a4W p):=by
 rcases V with⟨rfl,rfl⟩| ⟨cap,rest,h1,h2,h3,_⟩
 ·simp at hx
 ·have hi:=(List.getElem?_eq_some_iff.1 hx).1
  refine⟨cap,h1,h2,?_⟩
  rw[h3,b0U,vuz (by simpa using hi),uzJ,hx];rfl
theorem PSl.app(V:PSl h t v l b){p y c:Nat}(hy:D1 h 1 (.slice (some ⟨y,0,none⟩) 1 c)=some ([a4W p],1))(hl:l.length<=1000){k:Value->Reg}{Q:B5}
  (hQ:∀v' h' b',PSl h' t v' (l++[p]) b' ->h.next<=h'.next->((v≠.slice none 0 0/\b' =b)\/h.next<=b')->(∀x,x<h.next->(v=.slice none 0 0\/x≠b)->h'.obj x=h.obj x)->H1 CP (k v') h' Q):
  a2l CP (M8 t 1 8 v (.slice (some ⟨y,0,none⟩) 1 c) h) k Q:=by
 unfold M8
 rw[hy]
 rcases V with⟨rfl,rfl⟩| ⟨cap,rest,rfl,h2,h3,h4,h5⟩
 ·simp only[vsz]
  rw[if_neg (by decide),if_pos (by decide)]
  refine hQ _ _ h.next (.inr ⟨1,[],by simp,vpz _,by rw[f9];rfl,by simp,by simp⟩) (vLz _) (.inr (uzP _)) (fun x hx _=>f4 _ _ (by omega))
 ·have hlen:(l.map a4W).length=l.length:=uzL ..
  by_cases hfit:l.length+1<=cap
  ·simp only[if_pos hfit,if_true,h3,vsz,uzS]
   have w:=a0F (l.map a4W) [a4W p] rest (by show 1<=rest.length;omega)
   rw[hlen]at w
   rw[a2D,if_pos (by rw[uzG,hlen];show l.length+1<=_;omega),w]
   refine hQ _ _ b (.inr ⟨cap,rest.drop 1,by rw[uzG,vdz],h2,by rw[a9,List.map_append];rfl,?_,by rw[uzG,vdz];exact hfit⟩) (uzP _) (.inl ⟨by simp,rfl⟩) (fun x _ hx=>a6 _ _ (hx.resolve_left (by simp)))
   rw[uzG,vdz,List.length_drop];omega
  ·simp only[if_neg hfit,if_pos (show(l.length+1)*8<=140737488355328/\l.length+1<=9223372036854775807 by omega),h3]
   rw[if_pos ⟨trivial,trivial,by rw[uzG,hlen];omega,h5⟩]
   refine hQ _ _ h.next (.inr ⟨l.length+1,[],by rw[uzG,vdz],vpz _,?_,by simp,by simp⟩) (vLz _) (.inr (uzP _)) (fun x hx hxb=>?_)
   ·rw[show h.next=(h.upd b .gone).next from rfl,f9,vtz,vwz,uzS]
    have:(l.map a4W++rest).take l.length=l.map a4W:=by rw[<-hlen];exact List.take_left
    rw[this,List.map_append];rfl
   ·rw[f4 _ _ (by show x≠h.next;omega),a6 _ _ (hxb.resolve_left (by simp))]
end
def a2a(sl:List Int)(ru i:Nat):Int:=
 if 0<sl.length then IntKind.u64.wrap ((BitVec.ofInt IntKind.u64.bits (IntKind.u64.wrap ((BitVec.ofInt IntKind.u64.bits (sl.getD ((ru+i) % sl.length) 0) ^^^ BitVec.ofInt IntKind.u64.bits ((ru:Int)*2 ^ 56)).toNat:Int)) ^^^ BitVec.ofInt IntKind.u64.bits (IntKind.u64.wrap ((i:Int)*11400714819323198485))).toNat:Int)
 else 0
def F4(sl:List Int)(ru n:Nat):List Int:=(List.range n).map (a2a sl ru)
theorem e0g(sl:List Int)(ru n:Nat):c7S (F4 sl ru n):=fun x hx=>by
 obtain⟨i,_,rfl⟩:=List.mem_map.1 hx
 unfold a2a U64
 split
 ·rw[a1Z];omega
 ·omega
theorem d9i(A:List Int)(m:Nat)(x:Int):(A++vaz (m+1) 0).set A.length x=A++[x]++vaz m 0:=by
 rw[List.set_append_right _ _ (uzP _),vKz,List.replicate_succ,vbz,vvz];rfl
theorem e0h(h:Heap)(sv:Value)(sl:List Int)(hs:Lst h (Enc.int .u64) sv sl)(hl:sl.length<=1000000)(ru n:Nat)(hr:ru<=100)(hn:n<=100)
  (hQ:∀h' v,Old h h' ->Lst h' (Enc.int .u64) v (F4 sl ru n)->Q v h'):u9 cp 60 [sv,.int .i64 ru,.int .i64 n] h Q:=by
 rw[a8 cp f0N]
 obtain⟨a,cap,rfl,hrd⟩:=hs
 have z0:¬(n:Int)<0:=by omega
 simp(disch:=omega)only[c60,↓R60,M5,↓l9,m9,zA,zB,zC,zD,zE,zF,zG,zH,zI,reduceCtorEq,zJ,zK,zL,zM]
 refine A6 cp a7y _ (fun d e hh=>∃i:Nat,i+d=n/\Old h hh/\hh.obj h.next=.cells (ints .u64 (F4 sl ru i++vaz (n-i) 0)) 78 .grow/\h.next<hh.next/\e 0=.slice a sl.length cap/\e 1=.int .i64 ru/\e 7=.slice (some ⟨h.next,0,none⟩) n n/\e 12=.int .i64 n/\e 13=.int .i64 i) ?_ n _ _
  ⟨0,by omega,(Old.refl h).more _,f9 _ _,vpz _,rfl,rfl,rfl,rfl,rfl⟩
 rintro d e hh ⟨i,hi,o,ol,lt,e0,e1,e7,e12,e13⟩
 have sl' :(F4 sl ru i).length=i:=by simp[F4]
 have hon:=o.next
 by_cases ci:i<n
 rotate_left
 ·have b1:decide ((i:Int)<(n:Int))=false:=dFz (by omega)
  obtain rfl:i=n:=by omega
  simp(disch:=omega)only[a7y,c60,↓R60,e0,e1,e7,e12,e13,b1,↓l9,m9,zA,zB,zC,zD,zE,zF,zG,zH,zI,reduceCtorEq,zJ,zK,zL,zM]
  refine hQ _ _ o ⟨_,i,by rw[sl'],fun j x hx=>⟨h.next,0,rfl,lt,?_⟩⟩
  have hj:=(List.getElem?_eq_some_iff.1 hx).1
  rw[ol,vKz,List.replicate_zero,vtz,N8,if_pos (by rw[C6];show 0+j*1+1<=_;omega)]
  have:=C5 .u64 _ hx
  show some (((ints .u64 (F4 sl ru i)).drop (0+j*1)).take 1)=some [Value.int .u64 x]
  rw[vsz,uzS,List.take_one,List.head?_drop,this];rfl
 have b1:decide ((i:Int)<(n:Int))=true:=dTz (by omega)
 have nx:(i:Int)+1=((i+1:Nat):Int):=by omega
 have ll:(F4 sl ru i++vaz (n-i) 0).length=n:=by simp[sl'];omega
 have hset:(F4 sl ru i++vaz (n-i) 0).set i (a2a sl ru i)=F4 sl ru (i+1)++vaz (n-(i+1)) 0:=by
  have:=d9i (F4 sl ru i) (n-i-1) (a2a sl ru i)
  rw[sl',show n-i-1+1=n-i by omega]at this
  rw[this]
  have e:F4 sl ru (i+1)=F4 sl ru i++[a2a sl ru i]:=by simp[F4,List.range_succ]
  rw[e,show n-(i+1)=n-i-1 by omega]
 have upd:Old h (hh.upd h.next (.cells (ints .u64 (F4 sl ru (i+1)++vaz (n-(i+1)) 0)) 78 .grow)):=⟨by rw[r9];omega,fun z hz=>by rw[a6 _ _ (by omega)];exact o.obj z hz⟩
 by_cases c0:0<sl.length
 ·have b2:decide ((sl.length:Int)>0)=true:=dTz (by omega)
  have k1:(ru:Int)+(i:Int)=((ru+i:Nat):Int):=by omega
  have n0:((sl.length:Int)=0)=False:=eq_false (by omega)
  have t1:Int.tmod ((ru+i:Nat):Int) (sl.length:Int)=(((ru+i) % sl.length:Nat):Int):=by rw[J8 _ _ (by omega)];rfl
  have hm:(ru+i) % sl.length<sl.length:=Nat.mod_lt _ c0
  have hx:sl[(ru+i) % sl.length]? =some sl[(ru+i) % sl.length]:=uzF hm
  have hgd:sl.getD ((ru+i) % sl.length) 0=sl[(ru+i) % sl.length]:=by rw[vcz,hx];rfl
  obtain⟨x,hxd⟩:∃x,x=sl[(ru+i) % sl.length]:=⟨_,rfl⟩
  rw[<-hxd]at hx hgd
  obtain⟨b,of,rfl,hb,hg⟩:=hrd _ _ hx
  have hg:(hh.obj b).get (of+(ru+i) % sl.length)=some (.int .u64 x):=by rw[o.obj b hb];exact a1m (by simpa [Enc.int]using hg)
  have wr:IntKind.u64.wrap (ru:Int)=ru:=by rw[a1Z];omega
  have wi:IntKind.u64.wrap (i:Int)=i:=by rw[a1Z];omega
  have s8' :=fun x:Int=>b5r .u64 x 56 (by decide)
  have hD:IntKind.u64.wrap ((BitVec.ofInt IntKind.u64.bits (IntKind.u64.wrap ((BitVec.ofInt IntKind.u64.bits x ^^^ BitVec.ofInt IntKind.u64.bits ((ru:Int)*2 ^ 56)).toNat:Int)) ^^^ BitVec.ofInt IntKind.u64.bits (IntKind.u64.wrap ((i:Int)*11400714819323198485))).toNat:Int)=a2a sl ru i:=by
   unfold a2a;rw[if_pos c0,hgd]
  simp(disch:=omega)only[a7y,c60,↓R60,e0,e1,e7,e12,e13,b1,b2,k1,n0,t1,hg,nx,ol,ll,wr,wi,s8',hD,hset,D8,H7,uzS,↓l9,m9,zA,zB,zC,zD,zE,zF,zG,zH,zI,reduceCtorEq,zJ,zK,zL,zM]
  refine⟨d-1,by omega,i+1,by omega,upd,?_⟩
  repeat' first|assumption|rfl|apply And.intro
 ·have b2:decide ((sl.length:Int)>0)=false:=dFz (by omega)
  have hD:a2a sl ru i=0:=by unfold a2a;rw[if_neg c0]
  have e2:F4 sl ru (i+1)++vaz (n-(i+1)) 0=F4 sl ru i++vaz (n-i) 0:=by
   have e:F4 sl ru (i+1)=F4 sl ru i++[a2a sl ru i]:=by simp[F4,List.range_succ]
   rw[e,hD,show n-i=(n-(i+1))+1 by omega,List.replicate_succ,vvz];rfl
  simp(disch:=omega)only[a7y,c60,↓R60,e0,e1,e7,e12,e13,b1,b2,nx,↓l9,m9,zA,zB,zC,zD,zE,zF,zG,zH,zI,reduceCtorEq,zJ,zK,zL,zM]
  rw[<-e2]at ol
  refine⟨d-1,by omega,i+1,by omega,o,?_⟩
  repeat' first|assumption|rfl|apply And.intro
abbrev P0(now first:Int)(again read:Bool)(bu:Int)(co ou:Nat)(crv cv rv ev:Value):List Value:=
 [.int .i64 now,.int .i64 first,.bool again,.bool read,.int .i64 bu,.int .i64 co,.int .i64 ou,crv,cv,rv,ev]
def RuleV.t(r:RuleV):F3:=(r.L,r.Wd,r.B,r.S,r.C,r.R,r.W,r.T,r.sm)
theorem RuleV.enc(r:RuleV):RE.enc r.t=r.c:=rfl
theorem ConnAt.up{h h' :Heap}{A:CA}{v:CV}(c:ConnAt h A v){s:Nat}(o:OldX s h h')(hs:¬A.own s):ConnAt h' A v:=c.keep o.next fun z hz=>o.obj z (c.lt hz) fun e=>hs (e▸hz)
theorem e0V(h:Heap)(s:Nat)(now first:Int)(again read:Bool)(bu:Int)(co ou:Nat)(crv cv0 rv0 ev:Value)(os:h.obj s=.cells (P0 now first again read bu co ou crv cv0 rv0 ev) 93 .fix)(ls:s<h.next)
  (hco:co<=16) (hou:1<=ou/\ou<=65536) (rl:List RuleV) (hrl:rl.length<=8) (rok:∀r∈rl,r.OK) (cr:∀h',OldX s h h' ->Lst h' RE crv (rl.map RuleV.t)) (sv:Value) (sl:List Int) (hsl:sl.length<=1000000) (hsd:∀h',OldX s h h' ->Lst h' (Enc.int .u64) sv sl) {Q:Value->Heap->Prop}
  (hQ:∀h' cv rv cb rb (cas:List CA) (las:List LA) (tg:Nat->Nat),OldX s h h' ->h'.obj s=.cells (P0 now first again read bu co ou crv cv rv ev) 93 .fix->
   PSl h' 110 cv (cas.map CA.x) cb->PSl h' 94 rv (las.map LA.p) rb->cas.length=co->las.length=rl.length->
   (∀i A,cas[i]? =some A->ConnAt h' A Can.cv0/\A.S=ou/\A.rr=rl.length/\∀z,A.own z->h.next<=z/\tg z=2*i+4)->
   (∀i L,las[i]? =some L->∃r,rl[i]? =some r/\LimAt h' L (a2d r)/\L.R=r/\L.rp.rows=O2 (F4 sl i (3*(r.R+1))) r.R/\L.pa.row=W9 (F4 sl i (3*(r.R+1))) r.R/\L.sa.row=W9 (F4 sl i (3*(r.R+1))) r.R/\∀z,L.own z->h.next<=z/\tg z=2*i+5)->
   (cas≠[]->h.next<=cb/\tg cb=2)->(las≠[]->h.next<=rb/\tg rb=3)->Q (.tuple #[]) h'):
  u9 cp 32 [.pointer (some ⟨s,0,none⟩),sv] h Q:=by
 rw[a8 cp f0v]
 obtain⟨ra,rcap,hcrv,_⟩:=cr h (OldX.refl s h)
 rw[uzL]at hcrv
 have o0:OldX s h (h.upd s (.cells (P0 now first again read bu co ou crv (.slice none 0 0) (.slice none 0 0) ev) 93 .fix)):=OldX.upd _ _ _
 obtain⟨h0,h0d⟩:∃h0,h0=(h.upd s (.cells (P0 now first again read bu co ou crv (.slice none 0 0) rv0 ev) 93 .fix)).upd s (.cells (P0 now first again read bu co ou crv (.slice none 0 0) (.slice none 0 0) ev) 93 .fix):=⟨_,rfl⟩
 have o0:OldX s h h0:=by rw[h0d];exact(OldX.upd _ _ _).trans (OldX.upd _ _ _)
 have n0:h0.next=h.next:=by rw[h0d];rfl
 have g0:h0.obj s=.cells (P0 now first again read bu co ou crv (.slice none 0 0) (.slice none 0 0) ev) 93 .fix:=by rw[h0d];exact a9 _ _ _
 simp(disch:=omega)only[c32,↓R32,os,<-h0d,g0,↓l9,m9,zA,zB,zC,zD,zE,zF,zG,zH,zI,reduceCtorEq,zJ,zK,zL,zM]
 refine A6 cp b1L _ (fun d e hh=>∃(j:Nat) (cas:List CA) (cv:Value) (cb:Nat) (tg:Nat->Nat),j+d=co/\OldX s h hh/\hh.obj s=.cells (P0 now first again read bu co ou crv cv (.slice none 0 0) ev) 93 .fix/\
   PSl hh 110 cv (cas.map CA.x) cb/\cas.length=j/\(∀i A,cas[i]? =some A->ConnAt hh A Can.cv0/\A.S=ou/\A.rr=rl.length/\∀z,A.own z->h.next<=z/\tg z=2*i+4)/\((cas=[]/\cv=.slice none 0 0)\/(h.next<=cb/\cb<hh.next/\tg cb=2))/\
   e 0=.pointer (some ⟨s,0,none⟩)/\e 1=sv/\e 17=.int .i64 co/\e 18=.int .i64 j) ?_ co _ _
  ⟨0,[],_,0,fun _=>0,by omega,o0,g0,PSl.nil _ _ _,rfl,fun i A h=>by simp at h,.inl ⟨rfl,rfl⟩,rfl,rfl,rfl,rfl⟩
 rintro d e hh ⟨j,cas,cv,cb,tg,hj,o,gs,V,hcl,hc,hcb,e0,e1,e17,e18⟩
 by_cases cj:j<co
 ·have b1:decide ((j:Int)<(co:Int))=true:=dTz (by omega)
  have nx:(j:Int)+1=((j+1:Nat):Int):=by omega
  have hon:=o.next
  simp(disch:=omega)only[b1L,c32,↓R32,e0,e1,e17,e18,b1,gs,hcrv,↓l9,m9,zA,zB,zC,zD,zE,zF,zG,zH,zI,reduceCtorEq,zJ,zK,zL,zM]
  refine b6u hh rl.length ou hou fun h1 x p nb o1 hown c1=>?_
  have n1:=o1.next
  have gs1:=(o1.obj s (by omega)).trans gs
  simp(disch:=omega)only[c32,↓R32,gs1,y6,G0,vCz,vrz,vtz,↓l9,m9,zA,zB,zC,zD,zE,zF,zG,zH,zI,reduceCtorEq,zJ,zK,zL,zM]
  have V1:PSl (h1.new (.cells [a4W x] 110 .grow)) 110 cv (cas.map CA.x) cb:=V.old (o1.trans ((Old.refl h1).more _))
  refine V1.app (p:=x) (c7A h1 (a4W x) _ 1) (by rw[uzL];omega) fun v2 h2 b2 V2 n2 hb2 ho2=>?_
  have n2' :h1.next+1<=h2.next:=n2
  have hkeep:∀z,z<h1.next->(tg z≠2\/hh.next<=z\/z<h.next)->h2.obj z=h1.obj z:=fun z hz hne=>by
   rw[ho2 z (by show z<h1.next+1;omega) ?_,f4 _ _ (by omega)]
   rcases hcb with⟨hc0,hcv⟩| ⟨k1,k2,k3⟩
   ·exact .inl hcv
   ·right
    intro e
    subst e
    omega
  obtain⟨a2,cap2,hv2⟩:=V2.val
  obtain⟨m2,hm2⟩:∃m,m=(cas.map CA.x++[x]).length:=⟨_,rfl⟩
  rw[<-hm2]at hv2
  subst hv2
  have gs2:=(hkeep s (by omega) (.inr (.inr ls))).trans gs1
  simp(disch:=omega)only[c32,↓R32,e0,e1,e17,e18,gs2,nx,↓l9,m9,zA,zB,zC,zD,zE,zF,zG,zH,zI,reduceCtorEq,zJ,zK,zL,zM]
  have o3:OldX s h2 (h2.upd s (.cells (P0 now first again read bu co ou crv (.slice a2 m2 cap2) (.slice none 0 0) ev) 93 .fix)):=OldX.upd _ _ _
  subst hcrv
  have oo:OldX s h (h2.upd s (.cells (P0 now first again read bu co ou (.slice ra rl.length rcap) (.slice a2 m2 cap2) (.slice none 0 0) ev) 93 .fix)):=
   ⟨by rw[r9];omega,fun z hz hne=>by rw[a6 _ _ hne,hkeep z (by omega) (.inr (.inr hz)),o1.obj z (by omega),o.obj z hz hne]⟩
  have hb2' :b2=cb\/h1.next+1<=b2:=hb2.imp And.right id
  have keepC:∀z,z<h1.next->(tg z≠2\/hh.next<=z\/z<h.next)->z≠s->∀c,(h2.upd s c).obj z=h1.obj z:=fun z hz hne hs c=>by rw[a6 _ _ hs,hkeep z hz hne]
  have hcl' :∀i A,cas[i]? =some A->i<j:=fun i A hi=>by rw[<-hcl];exact(List.getElem?_eq_some_iff.1 hi).1
  refine⟨d-1,by omega,j+1,cas++[⟨x,p,nb,ou,rl.length⟩],.slice a2 m2 cap2,b2,fun z=>if z<hh.next then tg z else if z<h1.next then 2*j+4 else 2,by omega,oo,rfl,?_,by simp[hcl],fun i A hi=>?_,?_,?_⟩
  ·rw[List.map_append]
   refine V2.keep (uzP _) fun hl=>a6 _ _ ?_
   intro e
   subst e
   rcases hb2' with e|e
   ·rcases hcb with⟨_,hcv⟩| ⟨k1,k2,k3⟩
    ·subst hcv
     rcases V2 with⟨_,hn⟩| ⟨_,_,_,hl2,ho,_⟩
     ·simp at hn
     ·rw[gs2]at ho;simp at ho
    ·omega
   ·omega
  ·by_cases hij:i<j
   ·rw[vuz (by omega)]at hi
    obtain⟨q1,q2,q3,q4⟩:=hc i A hi
    refine⟨q1.keep (by rw[r9];omega) fun z hz=>?_,q2,q3,fun z hz=>?_⟩
    ·have l1:=q1.lt hz
     have l2:=q4 z hz
     rw[keepC z (by omega) (.inl (by omega)) (by omega),o1.obj z l1]
    ·have l1:=q1.lt hz
     have l2:=q4 z hz
     simp only[if_pos l1]
     exact l2
   ·rw[vfz (by omega)]at hi
    have hi0:i-cas.length=0:=by
     have:=(List.getElem?_eq_some_iff.1 hi).1
     simp at this;omega
    rw[hi0]at hi
    have hA:=(uzA hi).symm
    subst hA
    have hij2:i=j:=by omega
    refine⟨c1.keep (by rw[r9];omega) fun z hz=>?_,rfl,rfl,fun z hz=>?_⟩
    ·have l1:=c1.lt hz
     have l2:=hown z hz
     exact keepC z l1 (.inr (.inl l2)) (by omega) _
    ·have l1:=c1.lt hz
     have l2:=hown z hz
     simp only[if_neg (show ¬z<hh.next by omega),if_pos l1]
     exact⟨by omega,by omega⟩
  ·have V2l:b2<h2.next:=by
    rcases V2 with⟨_,hn⟩| ⟨_,_,_,hl2,_⟩
    ·simp at hn
    ·exact hl2
   right
   rcases hb2' with e|e
   ·rcases hcb with⟨_,hcv⟩| ⟨k1,k2,k3⟩
    ·subst hcv
     subst e
     rcases hb2 with hb2|hb2
     ·exact absurd rfl hb2.1
     ·have hb2:h1.next+1<=b2:=hb2
      simp only[if_neg (show ¬b2<hh.next by omega),if_neg (show ¬b2<h1.next by omega)]
      exact⟨by omega,V2l,trivial⟩
    ·subst e
     simp only[if_pos k2]
     exact⟨k1,V2l,k3⟩
   ·simp only[if_neg (show ¬b2<hh.next by omega),if_neg (show ¬b2<h1.next by omega)]
    exact⟨by omega,V2l,trivial⟩
  ·repeat' first|assumption|rfl|apply And.intro
 ·have b1:decide ((j:Int)<(co:Int))=false:=dFz (by omega)
  have hcl:cas.length=co:=by omega
  have hon:=o.next
  simp(disch:=omega)only[b1L,c32,↓R32,e0,e1,e17,e18,b1,gs,hcrv,↓l9,m9,zA,zB,zC,zD,zE,zF,zG,zH,zI,reduceCtorEq,zJ,zK,zL,zM]
  refine A6 cp b1M _ (fun d e hh=>∃(j:Nat) (las:List LA) (rv:Value) (rb:Nat) (tg:Nat->Nat),j+d=rl.length/\OldX s h hh/\hh.obj s=.cells (P0 now first again read bu co ou crv cv rv ev) 93 .fix/\
   PSl hh 110 cv (cas.map CA.x) cb/\PSl hh 94 rv (las.map LA.p) rb/\las.length=j/\(∀i A,cas[i]? =some A->ConnAt hh A Can.cv0/\A.S=ou/\A.rr=rl.length/\∀z,A.own z->h.next<=z/\tg z=2*i+4)/\
   ((cas=[]/\cv=.slice none 0 0)\/(h.next<=cb/\cb<hh.next/\tg cb=2))/\
   (∀i L,las[i]? =some L->∃r,rl[i]? =some r/\LimAt hh L (a2d r)/\L.R=r/\L.rp.rows=O2 (F4 sl i (3*(r.R+1))) r.R/\L.pa.row=W9 (F4 sl i (3*(r.R+1))) r.R/\L.sa.row=W9 (F4 sl i (3*(r.R+1))) r.R/\∀z,L.own z->h.next<=z/\tg z=2*i+5)/\
   ((las=[]/\rv=.slice none 0 0)\/(h.next<=rb/\rb<hh.next/\tg rb=3))/\
   e 0=.pointer (some ⟨s,0,none⟩)/\e 1=sv/\e 46=crv/\e 47=.int .i64 rl.length/\e 48=.int .i64 ((j:Nat):Int)) ?_ rl.length _ _
   ⟨0,[],_,0,tg,by omega,o,gs,V,PSl.nil _ _ _,rfl,hc,hcb,fun i A h=>by simp at h,.inl ⟨rfl,rfl⟩,e0,e1,hcrv.symm,rfl,rfl⟩
  clear hcb hc V gs hj cj hon o e0 e1 e17 e18 b1 tg hh
  rintro d e hh ⟨j,las,rv,rb,tg,hj,o,gs,V,W,hll,hc,hcb,hla,hrb,e0,e1,e46,e47,e48⟩
  by_cases cj:j<rl.length
  rotate_left
  ·have b1:decide ((j:Int)<(rl.length:Int))=false:=dFz (by omega)
   obtain rfl:j=rl.length:=by omega
   simp(disch:=omega)only[b1M,c32,↓R32,e0,e1,e46,e47,e48,b1,↓l9,m9,zA,zB,zC,zD,zE,zF,zG,zH,zI,reduceCtorEq,zJ,zK,zL,zM]
   exact hQ hh cv rv cb rb cas las tg o gs V W hcl hll hc hla (fun h=>hcb.elim (fun k=>absurd k.1 h) fun k=>⟨k.1,k.2.2⟩) (fun h=>hrb.elim (fun k=>absurd k.1 h) fun k=>⟨k.1,k.2.2⟩)
  have b1:decide ((j:Int)<(rl.length:Int))=true:=dTz (by omega)
  have nx:(j:Int)+1=((j+1:Nat):Int):=by omega
  have hon:=o.next
  have hr:rl[j]? =some rl[j]:=uzF cj
  obtain⟨r,hrd⟩:∃r,r=rl[j]:=⟨_,rfl⟩
  rw[<-hrd]at hr
  have rk:=rok r (uzK hr)
  have kR:=rk.R
  obtain⟨_,_,hcrv2,hrdv⟩:=cr hh o
  obtain⟨zb,zo,hza,hzb,hzr⟩:=hrdv j r.t (by rw[uzJ,hr];rfl)
  rw[hcrv]at hcrv2
  simp only[Value.slice.injEq,uzL]at hcrv2
  obtain⟨hra,_,_⟩:=hcrv2
  rw[hza]at hra
  subst hra
  have hzr:(hh.obj zb).read (zo+j*9) 9=some r.c:=hzr
  obtain⟨hA,hAd,oA,nA,gA⟩:=T9 hh (.cells [.int .i64 0,.int .i64 0,.int .i64 0,.int .i64 0,.int .i64 0,.int .i64 0,.int .i64 0,.int .i64 0,.bool false] 34 .fix) (.cells r.c 34 .fix)
  have gsA:=(oA.obj s (by omega)).trans gs
  have k3:3*((r.R:Int)+1)=((3*(r.R+1):Nat):Int):=by omega
  rw[hcrv]at e46
  simp(disch:=omega)only[b1M,c32,↓R32,e0,e1,e46,e47,e48,b1,hzr,<-hAd,gA,gsA,k3,uzS,↓l9,m9,zA,zB,zC,zD,zE,zF,zG,zH,zI,reduceCtorEq,zJ,zK,zL,zM]
  refine e0h hA sv sl (hsd hA (o.trans (oA.x s))) hsl j _ (by omega) (by omega) fun hB dv oB sdB=>?_
  have nB:=oB.next
  have gB:=(oB.obj _ (by omega)).trans gA
  have gsB:=(oB.obj s (by omega)).trans gsA
  simp(disch:=omega)only[c32,↓R32,gB,gsB,↓l9,m9,zA,zB,zC,zD,zE,zF,zG,zH,zI,reduceCtorEq,zJ,zK,zL,zM]
  refine c8Y hB r rk _ (e0g sl j _) dv sdB fun h1 L o1 L1 lR lb lrows lprow lurow=>?_
  have n1:=o1.next
  have gs1:=(o1.obj s (by omega)).trans gsB
  have oh1:Old hh h1:=(oA.trans oB).trans o1
  simp(disch:=omega)only[c32,↓R32,gs1,y6,G0,vCz,vrz,vtz,↓l9,m9,zA,zB,zC,zD,zE,zF,zG,zH,zI,reduceCtorEq,zJ,zK,zL,zM]
  have W1:PSl (h1.new (.cells [a4W L.p] 94 .grow)) 94 rv (las.map LA.p) rb:=W.old (oh1.trans ((Old.refl h1).more _))
  refine W1.app (p:=L.p) (c7A h1 (a4W L.p) _ 1) (by rw[uzL];omega) fun v2 h2 b2 V2 n2 hb2 ho2=>?_
  have n2' :h1.next+1<=h2.next:=n2
  have hkeep:∀z,z<h1.next->(tg z≠3\/hh.next<=z\/z<h.next)->h2.obj z=h1.obj z:=fun z hz hne=>by
   rw[ho2 z (by show z<h1.next+1;omega) ?_,f4 _ _ (by omega)]
   rcases hrb with⟨hc0,hcv⟩| ⟨k1,k2,k3⟩
   ·exact .inl hcv
   ·right
    intro e
    subst e
    omega
  obtain⟨a2,cap2,hv2⟩:=V2.val
  obtain⟨m2,hm2⟩:∃m,m=(las.map LA.p++[L.p]).length:=⟨_,rfl⟩
  rw[<-hm2]at hv2
  subst hv2
  have gs2:=(hkeep s (by omega) (.inr (.inr ls))).trans gs1
  simp(disch:=omega)only[c32,↓R32,e0,e1,e46,e47,e48,gs2,nx,↓l9,m9,zA,zB,zC,zD,zE,zF,zG,zH,zI,reduceCtorEq,zJ,zK,zL,zM]
  have oo:OldX s h (h2.upd s (.cells (P0 now first again read bu co ou crv cv (.slice a2 m2 cap2) ev) 93 .fix)):=
   ⟨by rw[r9];omega,fun z hz hne=>by rw[a6 _ _ hne,hkeep z (by omega) (.inr (.inr hz)),oh1.obj z (by omega),o.obj z hz hne]⟩
  have hb2' :b2=rb\/h1.next+1<=b2:=hb2.imp And.right id
  have keepC:∀z,z<h1.next->(tg z≠3\/hh.next<=z\/z<h.next)->z≠s->∀c,(h2.upd s c).obj z=h1.obj z:=fun z hz hne hs c=>by rw[a6 _ _ hs,hkeep z hz hne]
  subst hcrv
  refine⟨d-1,by omega,j+1,las++[L],.slice a2 m2 cap2,b2,fun z=>if z<hh.next then tg z else if z<h1.next then 2*j+5 else 3,by omega,oo,rfl,?_,?_,by simp[hll],fun i A hi=>?_,?_,fun i L' hi=>?_,?_,?_⟩
  ·rcases hcb with⟨hc0,hcv⟩| ⟨k1,k2,k3⟩
   ·exact .inl ⟨hcv,by rw[hc0];rfl⟩
   ·refine V.keep (by rw[r9];omega) fun hl=>?_
    rw[keepC cb (by omega) (.inl (by omega)) (by omega),oh1.obj cb k2]
  ·rw[List.map_append]
   refine V2.keep (uzP _) fun hl=>a6 _ _ ?_
   intro e
   subst e
   rcases hb2' with e|e
   ·rcases hrb with⟨_,hcv⟩| ⟨k1,k2,k3⟩
    ·subst hcv
     rcases V2 with⟨_,hn⟩| ⟨_,_,_,hl2,ho,_⟩
     ·simp at hn
     ·rw[gs2]at ho;simp at ho
    ·omega
   ·omega
  ·obtain⟨q1,q2,q3,q4⟩:=hc i A hi
   refine⟨q1.keep (by rw[r9];omega) fun z hz=>?_,q2,q3,fun z hz=>?_⟩
   ·have l1:=q1.lt hz
    have l2:=q4 z hz
    rw[keepC z (by omega) (.inl (by omega)) (by omega),oh1.obj z l1]
   ·have l1:=q1.lt hz
    have l2:=q4 z hz
    simp only[if_pos l1]
    exact l2
  ·rcases hcb with k| ⟨k1,k2,k3⟩
   ·exact .inl k
   ·right
    simp only[if_pos k2]
    exact⟨k1,by omega,k3⟩
  ·by_cases hij:i<j
   ·rw[vuz (by omega)]at hi
    obtain⟨r',q0,q1,q2,q3,q4,q5,q6⟩:=hla i L' hi
    refine⟨r',q0,q1.keep (by rw[r9];omega) fun z hz=>?_,q2,q3,q4,q5,fun z hz=>?_⟩
    ·have l1:z<hh.next:=uzN hz.2 q1.lt
     have l2:=q6 z hz
     rw[keepC z (by omega) (.inl (by omega)) (by omega),oh1.obj z l1]
    ·have l1:z<hh.next:=uzN hz.2 q1.lt
     have l2:=q6 z hz
     simp only[if_pos l1]
     exact l2
   ·rw[vfz (by omega)]at hi
    have hi0:i-las.length=0:=by
     have:=(List.getElem?_eq_some_iff.1 hi).1
     simp at this;omega
    rw[hi0]at hi
    have hA' :=(uzA hi).symm
    subst hA'
    have hij2:i=j:=by omega
    rw[hij2]
    refine⟨r,hr,L1.keep (by rw[r9];omega) fun z hz=>?_,lR,lrows,lprow,lurow,fun z hz=>?_⟩
    ·have l1:z<h1.next:=uzN hz.2 L1.lt
     have l2:=hz.1
     exact keepC z l1 (.inr (.inl (by omega))) (by omega) _
    ·have l1:z<h1.next:=uzN hz.2 L1.lt
     have l2:=hz.1
     simp only[if_neg (show ¬z<hh.next by omega),if_pos l1]
     exact⟨by omega,by omega⟩
  ·have V2l:b2<h2.next:=by
    rcases V2 with⟨_,hn⟩| ⟨_,_,_,hl2,_⟩
    ·simp at hn
    ·exact hl2
   right
   rcases hb2 with⟨hne,e⟩|e
   ·rcases hrb with⟨_,hcv⟩| ⟨k1,k2,k3⟩
    ·exact absurd hcv hne
    ·subst e
     simp only[if_pos k2]
     exact⟨k1,V2l,k3⟩
   ·have e:h1.next+1<=b2:=e
    simp only[if_neg (show ¬b2<hh.next by omega),if_neg (show ¬b2<h1.next by omega)]
    exact⟨by omega,V2l,trivial⟩
  ·repeat' first|assumption|rfl|apply And.intro
structure SrvA where
 s:Nat
 kb:Nat
 cb:Nat
 rb:Nat
 crv:Value
 cv:Value
 rv:Value
 cas:List CA
 las:List LA
 tg:Nat->Nat
 bu:Int
 ou:Nat
structure SrvV where
 now:Int
 first:Int
 again:Bool
 read:Bool
 cs:List CV
 ls:List LimV
def SrvA.own(a:SrvA)(ex:Option Nat):Nat->Prop:=fun z=>z=a.s\/z=a.kb\/z=a.cb\/z=a.rb\/(∃(i:Nat) (A:CA),ex≠some i/\a.cas[i]? =some A/\A.own z)\/∃(i:Nat) (L:LA),a.las[i]? =some L/\L.own z
structure SrvAt(h:Heap)(a:SrvA)(v:SrvV)(ev:Value)(ex:Option Nat):Prop where
 os:h.obj a.s=.cells (P0 v.now v.first v.again v.read a.bu a.cas.length a.ou a.crv a.cv a.rv ev) 93 .fix
 ls:a.s<h.next
 K:E3 h 34 RE a.crv (a.las.map fun L=>L.R.t) a.kb
 V:PSl h 110 a.cv (a.cas.map CA.x) a.cb
 W:PSl h 94 a.rv (a.las.map LA.p) a.rb
 cl:v.cs.length=a.cas.length
 ll:v.ls.length=a.las.length
 cn:1<=a.cas.length/\a.cas.length<=16
 ln:1<=a.las.length/\a.las.length<=8
 ou:1<=a.ou/\a.ou<=65536
 C:∀(i:Nat) (A:CA) (c:CV),ex≠some i->a.cas[i]? =some A->v.cs[i]? =some c->ConnAt h A c
 cr:∀(i:Nat) (A:CA),a.cas[i]? =some A->A.rr=a.las.length/\A.S=a.ou
 L:∀(i:Nat) (L:LA) (l:LimV),a.las[i]? =some L->v.ls[i]? =some l->LimAt h L l
 tC:∀(i:Nat) (A:CA) (z:Nat),a.cas[i]? =some A->A.own z->a.tg z=2*i+4
 tL:∀(i:Nat) (L:LA) (z:Nat),a.las[i]? =some L->L.own z->a.tg z=2*i+5
 ts:a.tg a.s=0
 tk:a.tg a.kb=1
 tc:a.tg a.cb=2
 tr:a.tg a.rb=3
theorem SrvAt.keep{h h' :Heap}{a:SrvA}{v:SrvV}{ev:Value}{ex:Option Nat}(S:SrvAt h a v ev ex)(hn:h.next<=h'.next)(ho:∀z,a.own ex z->z<h.next->h'.obj z=h.obj z):SrvAt h' a v ev ex:=
 { S with
   os:=(ho _ (.inl rfl) S.ls).trans S.os
   ls:=uzN S.ls hn
   K:=S.K.keep hn fun hl=>ho _ (.inr (.inl rfl)) hl
   V:=S.V.keep hn fun hl=>ho _ (.inr (.inr (.inl rfl))) hl
   W:=S.W.keep hn fun hl=>ho _ (.inr (.inr (.inr (.inl rfl)))) hl
   C:=fun i A c he hA hc=>(S.C i A c he hA hc).keep hn fun z hz=>ho z (.inr (.inr (.inr (.inr (.inl ⟨i,A,he,hA,hz⟩))))) ((S.C i A c he hA hc).lt hz)
   L:=fun i L l hL hl=>(S.L i L l hL hl).keep hn fun z hz=>ho z (.inr (.inr (.inr (.inr (.inr ⟨i,L,hL,hz⟩))))) (uzN hz.2 (S.L i L l hL hl).lt) }
theorem SrvAt.old{h h' :Heap}{a:SrvA}{v:SrvV}{ev:Value}{ex:Option Nat}(S:SrvAt h a v ev ex)(o:Old h h'):SrvAt h' a v ev ex:=S.keep o.next fun z _ hl=>o.obj z hl
theorem SrvAt.oldF{h h' :Heap}{a:SrvA}{v:SrvV}{ev:Value}{ex:Option Nat}{F:Nat->Prop}(S:SrvAt h a v ev ex)(o:OldF F h h')(hF:∀z,a.own ex z->z<h.next->¬F z):SrvAt h' a v ev ex:=S.keep o.next fun z hz hl=>o.obj z hl (hF z hz hl)
def e9I(co:Nat)(rl:List RuleV):SrvV:=⟨0,0,false,false,vaz co cv0,rl.map a2d⟩
def b1y(a:SrvA)(sl:List Int):Prop:=∀(i:Nat) (L:LA),a.las[i]? =some L->L.rp.rows=O2 (F4 sl i (3*(L.R.R+1))) L.R.R/\L.pa.row=W9 (F4 sl i (3*(L.R.R+1))) L.R.R/\L.sa.row=W9 (F4 sl i (3*(L.R.R+1))) L.R.R
theorem c9f(h:Heap)(bu:Int)(co ou:Nat)(v0:Value)(rl:List RuleV)(b0:Nat)(V0:E3 h 34 RE v0 (rl.map RuleV.t) b0)(cfg:a2F bu co ou (rl.map RuleV.t))(rok:∀r∈rl,r.OK)
  (sv:Value) (sl:List Int) (hsl:sl.length<=1000000) (hsd:Lst h (Enc.int .u64) sv sl) {Q:Value->Heap->Prop}
  (hQ:∀h' a,Old h h' ->SrvAt h' a (e9I co rl) (.slice none 0 0) none->a.las.map LA.R=rl->a.cas.length=co->a.ou=ou->b1y a sl->(∀z,a.own none z->h.next<=z)->Q (.tuple #[.pointer (some ⟨a.s,0,none⟩),.int .i64 0]) h'):
  u9 cp 14 [.agg #[.int .i64 bu,.int .i64 co,.int .i64 ou,v0],sv] h Q:=by
 rw[a8 cp f0n]
 have c1:=cfg.1
 have c2:=cfg.2.1
 have c3:=cfg.2.2.1
 have c4:=cfg.2.2.2.1
 rw[uzL]at c2
 obtain⟨va,vc,hv0,_⟩:=V0.val
 rw[uzL]at hv0
 subst hv0
 obtain⟨h1,h1d,o1,n1,g1⟩:=K2 h (.cells [.int .i64 bu,.int .i64 co,.int .i64 ou,.slice va rl.length vc] 30 .fix)
 simp(disch:=omega)only[c14,↓R14,<-h1d,g1,↓l9,m9,zA,zB,zC,zD,zE,zF,zG,zH,zI,reduceCtorEq,zJ,zK,zL,zM]
 refine d9X h1 bu co ou _ (rl.map RuleV.t) (V0.old o1).sl (by rw[uzL];omega) fun h2 o2=>?_
 have n2:=o2.next
 have g2:=(o2.obj h.next (by omega)).trans g1
 have dc:decide (a2F bu co ou (rl.map RuleV.t))=true:=dTz cfg
 obtain⟨h3,h3d,o3,n3,g3⟩:=K2 h2 (.cells (P0 0 0 false false bu co ou (.slice va rl.length vc) (.slice none 0 0) (.slice none 0 0) (.slice none 0 0)) 93 .fix)
 have g3' :=(o3.obj h.next (by omega)).trans g2
 simp(disch:=omega)only[c14,↓R14,dc,g2,y6,<-h3d,g3',↓l9,m9,zA,zB,zC,zD,zE,zF,zG,zH,zI,reduceCtorEq,zJ,zK,zL,zM]
 have V3:=V0.old ((o1.trans o2).trans o3)
 refine(E3.nil h3 34 RE h3.next).app (m:=rl.map RuleV.t) rfl V3.src0 (by simp;omega) (by simp;omega) fun v4 h4 b4 V4 n4 hb4 ho4=>?_
 have ho4' :∀z,z<h3.next->h4.obj z=h3.obj z:=fun z hz=>ho4 z hz (.inl rfl)
 have hb4' :h3.next<=b4:=by rcases hb4 with rfl|hb4<;>omega
 rw[vrz]at V4
 obtain⟨a4,cap4,hv4,_⟩:=V4.val
 rw[uzL]at hv4
 subst hv4
 have g4:=(ho4' h2.next (by omega)).trans g3
 simp(disch:=omega)only[c14,↓R14,g4,↓l9,m9,zA,zB,zC,zD,zE,zF,zG,zH,zI,reduceCtorEq,zJ,zK,zL,zM]
 have nn4:h3.next<=h4.next:=n4
 have oh4:Old h h4:=⟨by omega,fun z hz=>by rw[ho4' z (by omega),o3.obj z (by omega),o2.obj z (by omega),o1.obj z hz]⟩
 obtain⟨h5,h5d⟩:∃h5,h5=h4.upd h2.next (.cells (P0 0 0 false false bu co ou (.slice a4 rl.length cap4) (.slice none 0 0) (.slice none 0 0) (.slice none 0 0)) 93 .fix):=⟨_,rfl⟩
 have o5:OldX h2.next h4 h5:=by rw[h5d];exact OldX.upd _ _ _
 have n5:h5.next=h4.next:=by rw[h5d];rfl
 have g5:h5.obj h2.next=.cells (P0 0 0 false false bu co ou (.slice a4 rl.length cap4) (.slice none 0 0) (.slice none 0 0) (.slice none 0 0)) 93 .fix:=by rw[h5d];exact a9 _ _ _
 have old5:∀h',OldX h2.next h5 h' ->Old h h' :=fun h' o=>⟨by have:=o.next;omega,fun z hz=>by rw[o.obj z (by omega) (by omega),o5.obj z (by omega) (by omega),oh4.obj z hz]⟩
 have K5:∀h',OldX h2.next h5 h' ->E3 h' 34 RE (.slice a4 rl.length cap4) (rl.map RuleV.t) b4:=fun h' o=>V4.keep (by have:=o.next;omega) fun hl=>by rw[o.obj _ (by omega) (by omega),o5.obj _ hl (by omega)]
 show u9 cp _ _ (h4.upd h2.next (.cells (P0 0 0 false false bu co ou (.slice a4 rl.length cap4) (.slice none 0 0) (.slice none 0 0) (.slice none 0 0)) 93 .fix)) _
 rw[<-h5d]
 refine e0V h5 h2.next 0 0 false false bu co ou _ _ _ _ g5 (by omega) (by omega) ⟨?_,by omega⟩ rl (by omega) rok (fun h' o=>(K5 h' o).sl) sv sl hsl (fun h' o=>hsd.old (old5 h' o)) fun h6 cv rv cb rb cas las tg o6 g6 V W hcl hll hC hL hcb hrb=>?_
 ·omega
 simp(disch:=omega)only[c14,↓R14,↓l9,m9,zA,zB,zC,zD,zE,zF,zG,zH,zI,reduceCtorEq,zJ,zK,zL,zM]
 have hcas:cas≠[]:=fun e=>by rw[e]at hcl;simp at hcl;omega
 have hlas:las≠[]:=fun e=>by rw[e]at hll;simp at hll;omega
 obtain⟨cb1,cb2⟩:=hcb hcas
 obtain⟨rb1,rb2⟩:=hrb hlas
 have b4l:b4<h4.next:=by
  rcases V4 with⟨_,hn⟩| ⟨_,_,_,hl,_⟩
  ·have:=congrArg List.length hn;simp at this;rw[this]at c2;simp at c2
  ·exact hl
 have hmap:las.map LA.R=rl:=by
  apply List.ext_getElem?
  intro i
  rw[uzJ]
  cases e:las[i]? with
  |none=>
   have:=List.getElem?_eq_none_iff.1 e
   rw[vmz (by omega)];rfl
  |some L=>
   obtain⟨r,q1,_,q3,_⟩:=hL i L e
   rw[q1,<-q3];rfl
 have hmapt:(las.map fun L=>L.R.t)=rl.map RuleV.t:=by rw[<-hmap,List.map_map];rfl
 have n6:=o6.next
 refine hQ h6 ⟨h2.next,b4,cb,rb,.slice a4 rl.length cap4,cv,rv,cas,las,fun z=>if z=h2.next then 0 else if z=b4 then 1 else tg z,bu,ou⟩ (old5 h6 o6) ⟨?_,?_,?_,V,W,?_,?_,?_,?_,?_,?_,?_,?_,?_,?_,?_,?_,?_,?_⟩ hmap hcl rfl ?_ ?_
 ·show h6.obj h2.next=_
  rw[g6]
  show _=Obj.cells (P0 0 0 false false bu cas.length ou _ cv rv _) _ _
  rw[hcl]
 ·show h2.next<h6.next
  omega
 ·show E3 h6 _ RE _ (las.map fun L=>L.R.t) b4
  rw[hmapt]
  exact K5 h6 o6
 ·show(vaz co cv0).length=cas.length
  rw[List.length_replicate,hcl]
 ·show(rl.map a2d).length=las.length
  rw[uzL,hll]
 ·show 1<=cas.length/\cas.length<=16
  omega
 ·show 1<=las.length/\las.length<=8
  omega
 ·show 1<=ou/\ou<=65536
  omega
 ·intro i A c _ hA hc
  obtain⟨q1,_⟩:=hC i A hA
  have hc:(vaz co cv0)[i]? =some c:=hc
  have:=uzK hc
  rw[(List.mem_replicate.1 this).2]
  exact q1
 ·intro i A hA
  obtain⟨_,q2,q3,_⟩:=hC i A hA
  exact⟨by rw[q3];show(rl.length:Int)=(las.length:Int);rw[hll],q2⟩
 ·intro i L l hL' hl
  obtain⟨r,q1,q2,_⟩:=hL i L hL'
  have hl:(rl.map a2d)[i]? =some l:=hl
  rw[uzJ,q1]at hl
  rw[<-uzA hl]
  exact q2
 ·intro i A z hA hz
  obtain⟨_,_,_,q4⟩:=hC i A hA
  have:=q4 z hz
  show(if z=h2.next then 0 else if z=b4 then 1 else tg z)=2*i+4
  rw[if_neg (by omega),if_neg (by omega)];exact this.2
 ·intro i L z hL' hz
  obtain⟨r,_,_,_,_,_,_,q4⟩:=hL i L hL'
  have:=q4 z hz
  show(if z=h2.next then 0 else if z=b4 then 1 else tg z)=2*i+5
  rw[if_neg (by omega),if_neg (by omega)];exact this.2
 ·show(if h2.next=h2.next then 0 else _)=0
  rw[if_pos rfl]
 ·show(if b4=h2.next then 0 else if b4=b4 then 1 else _)=1
  rw[if_neg (by omega),if_pos rfl]
 ·show(if cb=h2.next then 0 else if cb=b4 then 1 else tg cb)=2
  rw[if_neg (by omega),if_neg (by omega)];exact cb2
 ·show(if rb=h2.next then 0 else if rb=b4 then 1 else tg rb)=3
  rw[if_neg (by omega),if_neg (by omega)];exact rb2
 ·intro i L hL'
  obtain⟨r,_,_,q3,q4,q5,q6,_⟩:=hL i L hL'
  rw[q3]
  exact⟨q4,q5,q6⟩
 ·intro z hz
  rcases hz with e|e|e|e| ⟨i,A,_,hA,hz⟩| ⟨i,L,hL',hz⟩
  ·have e:z=h2.next:=e
   omega
  ·have e:z=b4:=e
   omega
  ·have e:z=cb:=e
   omega
  ·have e:z=rb:=e
   omega
  ·obtain⟨_,_,_,q4⟩:=hC i A hA
   have:=(q4 z hz).1
   omega
  ·obtain⟨r,_,_,_,_,_,_,q4⟩:=hL i L hL'
   have:=(q4 z hz).1
   omega
theorem c7n(x y z:Int)(h:Heap):C7 (.minmax true [.int .i64 x,.int .i64 y,.int .i64 z]) h=some (.int .i64 (max (max x y) z),h):=by
 show((some (Value.int .i64 (if y>x then y else x))).bind fun u=>S0 true u [.int .i64 z]).map (fun v=>(v,h))=_
 rw[a2u]
 show(some (Value.int .i64 (if z>max x y then z else max x y))).map (fun v=>(v,h))=_
 rw[a2u];rfl
section
variable {h:Heap} {s:Nat} {now first bu:Int} {again read:Bool} {co ou:Nat} {crv cv rv ev:Value}
theorem a2q(os:h.obj s=.cells (P0 now first again read bu co ou crv cv rv ev) 93 .fix)(r:Int)
  (hQ:∀h' u,OldX s h h' ->h'.next=h.next->h'.obj s=.cells (P0 (max (max now r) 0) (if read then first else max (max now r) 0) again true bu co ou crv cv rv ev) 93 .fix->Q u h'):
  u9 cp 34 [.pointer (some ⟨s,0,none⟩),.int .i64 r] h Q:=by
 rw[a8 cp f0w]
 cases read with
 |false=>
  simp(disch:=omega)only[c34,↓R34,os,↓c7n,↓l9,m9,zA,zB,zC,zD,zE,zF,zG,zH,zI,reduceCtorEq,zJ,zK,zL,zM]
  exact hQ _ _ (((OldX.upd _ _ _).trans (OldX.upd _ _ _)).trans (OldX.upd _ _ _)) rfl (a9 _ _ _)
 |true=>
  simp(disch:=omega)only[c34,↓R34,os,↓c7n,↓l9,m9,zA,zB,zC,zD,zE,zF,zG,zH,zI,reduceCtorEq,zJ,zK,zL,zM]
  exact hQ _ _ (OldX.upd _ _ _) rfl (a9 _ _ _)
theorem a1F(os:h.obj s=.cells (P0 now first again read bu co ou crv cv rv ev) 93 .fix)(Q:Value->Heap->Prop):u9 cp 26 [.pointer (some ⟨s,0,none⟩)] h Q↔Q (.int .i64 now) h:=by
 refine v9 ?_ Q
 rw[a8 cp f0r]
 simp(disch:=omega)only[c26,↓R26,os,↓l9,m9,zA,zB,zC,zD,zE,zF,zG,zH,zI,reduceCtorEq,zJ,zK,zL,zM]
def Q5(now first:Int)(again:Bool)(w:Int):Int:=if again then max (O4 (first+w)-now) 0 else 0
theorem a0A(os:h.obj s=.cells (P0 now first again read bu co ou crv cv rv ev) 93 .fix)(w:Int)(hw:D5 w)(hw1:0<=w)(hf:0<=first/\D5 first)(hn:0<=now/\D5 now)(Q:Value->Heap->Prop):u9 cp 119 [.pointer (some ⟨s,0,none⟩),.int .i64 w] h Q↔Q (.int .i64 (Q5 now first again w)) h:=by
 refine v9 ?_ Q
 rw[a8 cp e5p]
 unfold Q5
 cases again with
 |false=>
  simp(disch:=omega)only[d0y,↓e4L,os,↓l9,m9,zA,zB,zC,zD,zE,zF,zG,zH,zI,reduceCtorEq,zJ,zK,zL,zM]
  first|done|exact(by simp)
 |true=>
  have f:=fun h=>P6 h first w hf.2 hw
  have nr:=a3d (first+w)
  have hn2:=hn.2
  unfold D5 at nr hn2
  have hw0: -9223372036854775808<=O4 (first+w)-now:=by
   have:0<=O4 (first+w):=by unfold O4;split<;>first|omega| (split<;>omega)
   omega
  simp(disch:=omega)only[d0y,↓e4L,os,f,↓mm_max,↓l9,m9,zA,zB,zC,zD,zE,zF,zG,zH,zI,reduceCtorEq,zJ,zK,zL,zM]
  first|done|exact(by simp)
end
def H9(B now held cost:Int):Option (Int×Int):=
 if cost<1\/cost>B then some (3,0)else if now>=4611686018427387904 then some (2,9223372036854775807)else if held>0 then some (2,held)else none
theorem b1k{h:Heap}{a:LA}{v:LimV}(L:LimAt h a v)(now held cost:Int)
  (hQ:∀h',Old h h' ->Q (.tuple #[.agg #[.int .i64 ((H9 a.R.B now held cost).map Prod.fst |>.getD 0),.int .i64 0,.int .i64 ((H9 a.R.B now held cost).map Prod.snd |>.getD 0)],.bool (H9 a.R.B now held cost).isSome]) h'):
  u9 cp 127 [.pointer (some ⟨a.p,0,none⟩),.int .i64 now,.int .i64 held,.int .i64 cost] h Q:=by
 rw[a8 cp e5w]
 have ol:=L.ol
 have lp:a.p<h.next:=uzN L.il.2 L.lt
 have oo:∀c,Old h ((h.new (.cells [.int .i64 0,.int .i64 0,.int .i64 0] 55 .fix)).upd h.next c):=fun c=>⟨by simp only[r9,j0];omega,fun z hz=>by rw[a6 _ _ (by omega),f4 _ _ (by omega)]⟩
 unfold H9 at hQ
 by_cases c1:cost<1
 ·have b1:=dTz c1
  rw[if_pos (.inl c1)]at hQ
  simp(disch:=omega)only[b3v,↓c9Y,b1,ol,y6,↓l9,m9,zA,zB,zC,zD,zE,zF,zG,zH,zI,reduceCtorEq,zJ,zK,zL,zM]
  exact hQ _ (oo _)
 have b1:=dFz c1
 by_cases c2:cost>a.R.B
 ·have b2:=dTz c2
  rw[if_pos (.inr c2)]at hQ
  simp(disch:=omega)only[b3v,↓c9Y,b1,b2,ol,y6,↓l9,m9,zA,zB,zC,zD,zE,zF,zG,zH,zI,reduceCtorEq,zJ,zK,zL,zM]
  exact hQ _ (oo _)
 have b2:=dFz c2
 rw[if_neg (by omega)]at hQ
 by_cases c3:now>=4611686018427387904
 ·have b3:=dTz c3
  rw[if_pos c3]at hQ
  simp(disch:=omega)only[b3v,↓c9Y,b1,b2,b3,ol,y6,↓l9,m9,zA,zB,zC,zD,zE,zF,zG,zH,zI,reduceCtorEq,zJ,zK,zL,zM]
  exact hQ _ (oo _)
 have b3:=dFz c3
 rw[if_neg c3]at hQ
 by_cases c4:held>0
 ·have b4:=dTz c4
  rw[if_pos c4]at hQ
  simp(disch:=omega)only[b3v,↓c9Y,b1,b2,b3,b4,ol,y6,↓l9,m9,zA,zB,zC,zD,zE,zF,zG,zH,zI,reduceCtorEq,zJ,zK,zL,zM]
  exact hQ _ (oo _)
 ·have b4:=dFz c4
  rw[if_neg c4]at hQ
  simp(disch:=omega)only[b3v,↓c9Y,b1,b2,b3,b4,ol,y6,↓l9,m9,zA,zB,zC,zD,zE,zF,zG,zH,zI,reduceCtorEq,zJ,zK,zL,zM]
  exact hQ _ (oo _)
def LimV.cnt(v:LimV)(ver:Int):LimV:={ v with al:=if ver=1 then IntKind.i64.wrap (v.al+1)else v.al,de:=if ver=2 then IntKind.i64.wrap (v.de+1)else v.de,bd:=if ver=1\/ver=2 then v.bd else IntKind.i64.wrap (v.bd+1) }
theorem LimAt.head{h h' :Heap}{a:LA}{v v' :LimV}(L:LimAt h a v)(o:OldX a.p h h')(ho:h'.obj a.p=.cells (d9u a v') 131 .fix)(hP:v'.P=v.P)(hG:v'.G=v.G)(hU:v'.U=v.U):LimAt h' a v' :=by
 have il:=L.il
 have ib:=L.ib
 have ir:=L.ir
 have lt:=L.lt
 exact { L with
  ol:=ho
  P:=by rw[hP];exact L.P.keep o.next fun z hz=>o.obj z (L.P.lt z hz) (by have:=L.ip z hz;omega)
  G:=by
   rw[hG]
   refine L.G.keep o.next fun z hz=>?_
   rcases hz with hz|rfl
   ·exact o.obj z (L.G.ltn hz) (by have:=L.ig z hz;omega)
   ·exact o.obj _ (by omega) (by omega)
  U:=by rw[hU];exact L.U.keep o.next fun z hz=>o.obj z (L.U.lt z hz) (by have:=L.iu z hz;omega)
  lt:=uzR L.lt o.next }
theorem b0K{h:Heap}{a:LA}{v:LimV}(L:LimAt h a v)(ver:Int)(hQ:∀h' u,OldX a.p h h' ->LimAt h' a (v.cnt ver)->Q u h'):
  u9 cp 128 [.pointer (some ⟨a.p,0,none⟩),.int .i64 ver] h Q:=by
 rw[a8 cp e5x]
 have ol:=L.ol
 have fin:∀c,(.cells c 131 .fix:Obj)=.cells (d9u a (v.cnt ver)) 131 .fix->∀u,Q u (h.upd a.p (.cells c 131 .fix)):=fun c e u=>
  hQ _ u (OldX.upd _ _ _) (L.head (OldX.upd _ _ _) (by rw[a9];exact e) rfl rfl rfl)
 by_cases c1:ver=1
 ·subst c1
  simp(disch:=omega)only[c8b,↓e2R,ol,zN,↓l9,m9,zA,zB,zC,zD,zE,zF,zG,zH,zI,reduceCtorEq,zJ,zK,zL,zM]
  exact fin _ rfl _
 by_cases c2:ver=2
 ·subst c2
  simp(disch:=omega)only[c8b,↓e2R,ol,zN,↓l9,m9,zA,zB,zC,zD,zE,zF,zG,zH,zI,reduceCtorEq,zJ,zK,zL,zM]
  exact fin _ rfl _
 have b1:(ver==1)=false:=beq_eq_false_iff_ne.2 c1
 have b2:(ver==2)=false:=beq_eq_false_iff_ne.2 c2
 simp(disch:=omega)only[c8b,↓e2R,ol,b1,b2,↓l9,m9,zA,zB,zC,zD,zE,zF,zG,zH,zI,reduceCtorEq,zJ,zK,zL,zM]
 refine fin _ ?_ _
 simp[d9u,LimV.cnt,c1,c2]
theorem a8P{h:Heap}{a:LA}{v:LimV}(L:LimAt h a v)(now held cost:Int)(key:ByteArray){ver ret:Int}(hr:H9 a.R.B now held cost=some (ver,ret))
  (hQ:∀h',OldX a.p h h' ->LimAt h' a (v.cnt ver)->Q (.tuple #[.agg #[.int .i64 ver,.int .i64 0,.int .i64 ret],.slice none 0 0]) h'):
  u9 cp 120 [.pointer (some ⟨a.p,0,none⟩),.int .i64 now,.int .i64 held,.string key,.int .i64 cost] h Q:=by
 rw[a8 cp e2t]
 have lp:a.p<h.next:=uzN L.il.2 L.lt
 obtain⟨h1,h1d,o1,n1,g1⟩:=K2 h (.cells [.int .i64 0,.int .i64 0,.int .i64 0] 55 .fix)
 simp(disch:=omega)only[U9,↓Z1,<-h1d,↓l9,m9,zA,zB,zC,zD,zE,zF,zG,zH,zI,reduceCtorEq,zJ,zK,zL,zM]
 refine b1k (L.old o1) now held cost fun h2 o2=>?_
 rw[hr]
 have n2:=o2.next
 have g2:=(o2.obj h.next (by omega)).trans g1
 obtain⟨h3,h3d,o3,n3,q3⟩:=T9 h2 (.cells [.int .i64 0,.int .i64 0,.int .i64 0] 55 .fix) (.cells [.int .i64 ver,.int .i64 0,.int .i64 ret] 55 .fix)
 have g3:=(o3.obj h.next (by omega)).trans g2
 simp(disch:=omega)only[U9,↓Z1,vlz,vFz,Option.isSome_some,<-h3d,q3,↓l9,m9,zA,zB,zC,zD,zE,zF,zG,zH,zI,reduceCtorEq,zJ,zK,zL,zM]
 refine b0K (((L.old o1).old o2).old o3) ver fun h4 u o4 L4=>?_
 have n4:=o4.next
 have q4:=(o4.obj h2.next (by omega) (by omega)).trans q3
 have g4:=(o4.obj h.next (by omega) (by omega)).trans g3
 simp(disch:=omega)only[U9,↓Z1,q4,g4,↓l9,m9,zA,zB,zC,zD,zE,zF,zG,zH,zI,reduceCtorEq,zJ,zK,zL,zM]
 have oX:OldX a.p h (h4.upd h.next (.cells [.int .i64 ver,.int .i64 0,.int .i64 ret] 55 .fix)):=⟨by rw[r9];omega,fun z hz hne=>by rw[a6 _ _ (by omega),o4.obj z (by omega) hne,o3.obj z (by omega),o2.obj z (by omega),o1.obj z hz]⟩
 refine hQ _ oX (L4.keep (uzP _) fun z hz=>a6 _ _ ?_)
 have:=hz.2
 have:=L.lt
 omega
abbrev mkL(v:LV)(tp tu os ws:List Int):LimV:=⟨⟨v.P.keys,v.P.fl,tp,v.P.cells⟩,v.G,⟨v.U.keys,v.U.fl,tu,v.U.ns,v.U.es,os,ws,v.U.tot⟩,v.al,v.de,v.bd⟩
def LV.cnt(v:LV)(ver:Int):LV:={ v with al:=if ver=1 then IntKind.i64.wrap (v.al+1)else v.al,de:=if ver=2 then IntKind.i64.wrap (v.de+1)else v.de,bd:=if ver=1\/ver=2 then v.bd else IntKind.i64.wrap (v.bd+1) }
theorem Lmt.toAt{h:Heap}{a:LA}{v:LV}(L:Lmt h a v):∃tp tu os ws,LimAt h a (mkL v tp tu os ws)/\∀h' (w:LV),w.P=v.P->w.U=v.U->LimAt h' a (mkL w tp tu os ws)->Lmt h' a w:=by
 obtain⟨tp,p,t⟩:=L.P.at_
 obtain⟨tu,os,ws,q,s,o⟩:=L.U.at_
 have g:=L.geo
 refine⟨tp,tu,os,ws,⟨L.ol,p,L.G,q,g.ok,g.ip,g.ig,g.iu,g.ir,g.il,g.ib,g.lt,g.pn,g.un,g.gN,g.gw,g.gW,g.gL,g.gs,g.gr⟩,fun h' w hP hU A=>?_⟩
 have AP:=A.P
 have AU:=A.U
 refine⟨A.ol,⟨⟨tp,AP,by rw[hP];exact t⟩,L.P.row⟩,A.G,⟨⟨tu,os,ws,AU,by rw[hU];exact s,by rw[hU];exact o⟩,L.U.row,by rw[hU];exact L.U.bd,by rw[hU];exact L.U.tot,by rw[hU];exact L.U.be⟩,⟨A.ok,A.ip,A.ig,A.iu,A.ir,A.il,A.ib,A.lt,A.pn,A.un,A.gN,A.gw,A.gW,A.gL,A.gs,A.gr⟩⟩
section
variable {h:Heap} {a:LA} {v:LV}
theorem a8e(L:Lmt h a v)(now held cost:Int)
  (hQ:∀h',Old h h' ->Q (.tuple #[.agg #[.int .i64 ((H9 a.R.B now held cost).map Prod.fst |>.getD 0),.int .i64 0,.int .i64 ((H9 a.R.B now held cost).map Prod.snd |>.getD 0)],.bool (H9 a.R.B now held cost).isSome]) h'):
  u9 cp 127 [.pointer (some ⟨a.p,0,none⟩),.int .i64 now,.int .i64 held,.int .i64 cost] h Q:=by
 obtain⟨tp,tu,os,ws,A,_⟩:=L.toAt
 exact b1k A now held cost hQ
theorem c8U(L:Lmt h a v)(ver:Int)(hQ:∀h' u,OldX a.p h h' ->Lmt h' a (v.cnt ver)->Q u h'):
  u9 cp 128 [.pointer (some ⟨a.p,0,none⟩),.int .i64 ver] h Q:=by
 obtain⟨tp,tu,os,ws,A,back⟩:=L.toAt
 exact b0K A ver fun h' u o A' =>hQ h' u o (back h' (v.cnt ver) rfl rfl A')
theorem a7Z(L:Lmt h a v)(now held cost:Int)(key:ByteArray){ver ret:Int}(hr:H9 a.R.B now held cost=some (ver,ret))
  (hQ:∀h',OldX a.p h h' ->Lmt h' a (v.cnt ver)->Q (.tuple #[.agg #[.int .i64 ver,.int .i64 0,.int .i64 ret],.slice none 0 0]) h'):
  u9 cp 120 [.pointer (some ⟨a.p,0,none⟩),.int .i64 now,.int .i64 held,.string key,.int .i64 cost] h Q:=by
 obtain⟨tp,tu,os,ws,A,back⟩:=L.toAt
 exact a8P A now held cost key hr fun h' o A' =>hQ h' o (back h' (v.cnt ver) rfl rfl A')
end
end Go.Proofs.YtlakhgibjfmjjaaGreat.Can
namespace Go.Proofs.YtlakhgibjfmjjaaGreat.Can
open Go
def toG(g:RingV)(t:Int):RingV:=⟨max g.now t,g.st,g.cs⟩
def a0w(R:RuleV)(n:Int):Int:=min (max n 0) R.B
def a0L(R:RuleV)(c:F1)(now:Int):Int:=Cl.room c.1 c.2.1 c.2.2.1 c.2.2.2 R.u R.Wd R.B R.L now
def a0P(R:RuleV)(c:F1)(now cost:Int):Int:=Cl.wait c.1 c.2.1 c.2.2.1 c.2.2.2 R.u R.Wd R.B R.L now cost
def a4N(R:RuleV)(c:F1)(now cost:Int):F1:=(max c.1 now+cost*R.u,c.2.1,c.2.2.1,c.2.2.2+cost)
def e4B(v:LV)(i:Nat)(c:F1):LV:={ v with P:=⟨v.P.keys,v.P.fl,v.P.cells.set i c⟩ }
def pre(R:RuleV)(v:LV)(now:Int)(key:ByteArray)(cost:Int):LV:={ v with G:=toG v.G now,U:=Y5 R.T v.U key cost }
def B3(R:RuleV)(rp:RP)(v:LV)(now held:Int)(key:ByteArray)(cost:Int):(Int×Int×Int)×List EvT' ×LV:=
 match H9 R.B now held cost with
 |some (ver,ret)=>((ver,0,ret),[],v.cnt ver)
 |none=>
  let r:=F8 R rp (pre R v now key cost) now key
  let w:=r.2.2
  match r.1 with
  |some i=>
   let c:=A5 w i
   if cost<=a0L R c now then((1,a0L R (a4N R c now cost) now,0),r.2.1,(e4B w i (a4N R c now cost)).cnt 1)
   else((2,a0L R c now,a0P R c now cost),r.2.1,w.cnt 2)
  |none=>
   if O4 (V9 rp w.G key+cost)<=R.L then((1,a0w R (R.L-V9 rp (a0e rp w.G key cost) key),0),r.2.1,({ w with G:=a0e rp w.G key cost }).cnt 1)
   else((2,a0w R (R.L-V9 rp w.G key),a0c rp w.G.now w.G.st w.G.cs key cost),r.2.1,w.cnt 2)
theorem b6U(n:Nat)(u:SV)(key:ByteArray)(w:Int):(Y5 n u key w).tot=u.tot+w:=by
 unfold Y5
 simp only
 split
 ·rfl
 ·split<;>rfl
theorem a1s{B now held cost:Int}(h:H9 B now held cost=none):1<=cost/\cost<=B/\now<4611686018427387904/\held<=0:=by
 unfold H9 at h
 split at h
 ·cases h
 ·split at h
  ·cases h
  ·split at h
   ·cases h
   ·omega
theorem LB.pre{k tm:Int}{v:LV}(B:LB k tm v){R:RuleV}{now cost:Int}(hk:k+1<=1000000000)(hn:0<=now/\now<=tm)(hc:1<=cost/\cost<=32)(key:ByteArray):LB (k+1) tm (pre R v now key cost):=by
 have h1:=B.k0
 have h2:=B.t0
 have h3:=B.now
 have h4:=B.tot
 refine⟨by omega,h2,fun i c hc' =>?_,B.pos,B.bd.mono (by omega),?_,?_⟩
 ·obtain⟨c1,c2,c3,c4⟩:=B.cells i c hc'
  exact⟨c1,c2,by omega,by omega⟩
 ·show 0<=max v.G.now now/\max v.G.now now<=tm;omega
 ·show(Y5 R.T v.U key cost).tot<=_;rw[b6U];omega
theorem a3E{rp:RP}{g:RingV}{M:Int}(hW:1<=rp.W)(hN:rp.N<=65)(hp:Pos g.cs)(hM:0<=M/\M<=100000000000)(hb:Bd g.cs M)(key:ByteArray):0<=V9 rp g key/\V9 rp g key<=65*M:=
 (c7b hW hN hp (M:=M) (by omega) hb key (g.now / rp.W) (g.now % rp.W).toNat).2
theorem a3w{k tm:Int}{cells:List F1}(h:∀(i:Nat) (c:F1),cells[i]? =some c->(0<=c.1/\c.1<=tm+8192)/\(0<=c.2.1/\c.2.1<=tm)/\(0<=c.2.2.1/\c.2.2.1<=5000*k)/\(0<=c.2.2.2/\c.2.2.2<=32*k))(j:Nat){d:F1}
  (hd:(0<=d.1/\d.1<=tm+8192)/\(0<=d.2.1/\d.2.1<=tm)/\(0<=d.2.2.1/\d.2.2.1<=5000*k)/\(0<=d.2.2.2/\d.2.2.2<=32*k)):
  ∀(i:Nat) (c:F1),(cells.set j d)[i]? =some c->(0<=c.1/\c.1<=tm+8192)/\(0<=c.2.1/\c.2.1<=tm)/\(0<=c.2.2.1/\c.2.2.1<=5000*k)/\(0<=c.2.2.2/\c.2.2.2<=32*k):=by
 intro i c hc
 rcases vIz (uzK hc)with hm|rfl
 ·obtain⟨i',hi'⟩:=List.getElem?_of_mem hm
  exact h i' c hi'
 ·exact hd
theorem LB.res{k tm:Int}{u:LV}(B:LB (k+1) tm u)(b0:Bd u.G.cs (64*k))(hk:0<=k){R:RuleV}(okL:1<=R.L/\R.L<=32){rp:RP}(hW:1<=rp.W)(hN:rp.N<=65){now:Int}(hn:0<=now/\now<=tm)(key:ByteArray)(hlen:∀i,plK R.C u.P.keys key=none->∀out,plK R.C u.P.keys out=some i->i<u.P.cells.length):
  LB (k+1) tm (F8 R rp u now key).2.2/\Bd (F8 R rp u now key).2.2.G.cs (64*k+32):=by
 have k0:=B.k0
 unfold F8
 split
 ·exact⟨B,b0.mono (by omega)⟩
 ·rename_i hq
  split
  ·rename_i i fl hf
   have e:=a3E hW hN B.pos (by omega) b0 key (rp:=rp)
   exact⟨⟨B.k0,B.t0,a3w B.cells i ⟨by show 0<=now/\now<=tm+8192;omega,hn,⟨e.1,by show V9 rp u.G key<=5000*(k+1);omega⟩,by show 0<=(0:Int)/\(0:Int)<=_;omega⟩,B.pos,B.bd,B.now,B.tot⟩,b0.mono (by omega)⟩
  ·split
   ·exact⟨B,b0.mono (by omega)⟩
   ·rename_i out hout
    split
    ·exact⟨B,b0.mono (by omega)⟩
    ·rename_i i hi
     simp only
     have hil:=hlen i hq out hi
     have hci:u.P.cells[i]? =some (A5 u i):=by unfold A5;rw[vcz,uzF hil];rfl
     obtain⟨c1,c2,c3,c4⟩:=B.cells i _ hci
     have y:=d0r (F:=(A5 u i).1) (S:=(A5 u i).2.1) (T:=R.u) (W:=R.Wd) (now:=now) c4.1 (show 0<=R.L by omega)
     have b1:Bd (a0e rp u.G out (Cl.bdN (A5 u i).1 (A5 u i).2.1 (A5 u i).2.2.2 R.u R.Wd R.L now)).cs (64*k+32):=(b0.add (by omega) rp u.G.st (u.G.now / rp.W) (ix rp.rows rp.w out) _ (by omega)).mono (by omega)
     have p1:Pos (a0e rp u.G out (Cl.bdN (A5 u i).1 (A5 u i).2.1 (A5 u i).2.2.2 R.u R.Wd R.L now)).cs:=B.pos.add rp u.G.st _ _ _
     have e:=a3E (rp:=rp) hW hN p1 (by omega) b1 key
     exact⟨⟨B.k0,B.t0,a3w B.cells i ⟨by show 0<=now/\now<=tm+8192;omega,hn,⟨e.1,by show V9 rp _ key<=5000*(k+1);omega⟩,by show 0<=(0:Int)/\(0:Int)<=_;omega⟩,p1,b1.mono (by omega),B.now,B.tot⟩,b1⟩
theorem b5I{cells:List F1}{M:Int}(h:∀(i:Nat) (c:F1),cells[i]? =some c->c.2.2.2<=M)(j:Nat){d:F1}(hd:d.2.2.2<=M):∀(i:Nat) (c:F1),(cells.set j d)[i]? =some c->c.2.2.2<=M:=by
 intro i c hc
 rcases vIz (uzK hc)with hm|rfl
 ·obtain⟨i',hi'⟩:=List.getElem?_of_mem hm
  exact h i' c hi'
 ·exact hd
theorem c9r{R:RuleV}{rp:RP}{u:LV}{now M:Int}{key:ByteArray}(hM:0<=M)(h:∀(i:Nat) (c:F1),u.P.cells[i]? =some c->c.2.2.2<=M):∀(i:Nat) (c:F1),(F8 R rp u now key).2.2.P.cells[i]? =some c->c.2.2.2<=M:=by
 unfold F8
 split
 ·exact h
 ·split
  ·exact b5I h _ hM
  ·split
   ·exact h
   ·split
    ·exact h
    ·exact b5I h _ hM
end Go.Proofs.YtlakhgibjfmjjaaGreat.Can
namespace Go.Proofs.YtlakhgibjfmjjaaGreat.Can
open Go
attribute [local congr] u5 u4 l5 l8 r8 s9 u6 w9 u7
variable {Q : Value → Heap → Prop}
section
variable {h:Heap} {a:LA} {v:LV}
theorem a2n(L:Lmt h a v)(n:Int)(Q:Value->Heap->Prop):u9 cp 138 [.pointer (some ⟨a.p,0,none⟩),.int .i64 n] h Q↔Q (.int .i64 (a0w a.R n)) h:=by
 refine v9 ?_ Q
 rw[a8 cp e5G]
 have ol:=L.ol
 simp(disch:=omega)only[e0Z,↓e9P,ol,↓Cl.mm_max,↓Cl.mm_min,↓l9,m9,zA,zB,zC,zD,zE,zF,zG,zH,zI,reduceCtorEq,zJ,zK,zL,zM]
 rfl
theorem d9U{R:RuleV}{rp:RP}{u:LV}{now:Int}{key:ByteArray}(ok:u.P.OK R.C){i:Nat}(h:(F8 R rp u now key).1=some i):i<R.C:=by
 unfold F8 at h
 split at h
 ·rename_i k hk;obtain rfl:=uzA h;exact(F9 hk).1
 ·split at h
  ·rename_i j fl hf;obtain rfl:=uzA h;exact ok.flt _ (by rw[hf];exact vyz)
  ·split at h
   ·cases h
   ·split at h
    ·cases h
    ·rename_i j hj;obtain rfl:=uzA h;exact(F9 hj).1
theorem d8u(L:Lmt h a v){k tm:Int}(B:LB k tm v)(hk:k+1<=1000000000){now held cost:Int}(hnow:0<=now/\now<=tm){key:ByteArray}(hs:key.size<=64)(hr:H9 a.R.B now held cost=none)
  (hQ:∀h' ev,OldF a.own h h' ->Lmt h' a (B3 a.R a.rp v now held key cost).2.2->e2O h h' ev (B3 a.R a.rp v now held key cost).2.1->
   Q (.tuple #[.agg #[.int .i64 (B3 a.R a.rp v now held key cost).1.1,.int .i64 (B3 a.R a.rp v now held key cost).1.2.1,.int .i64 (B3 a.R a.rp v now held key cost).1.2.2],ev]) h'):
  u9 cp 120 [.pointer (some ⟨a.p,0,none⟩),.int .i64 now,.int .i64 held,.string key,.int .i64 cost] h Q:=by
 rw[a8 cp e2t]
 obtain⟨r1,r2,r3,r4⟩:=a1s hr
 have okB:=L.geo.ok.B
 have okL:=L.geo.ok.L
 have B' :=B.pre (R:=a.R) (now:=now) (cost:=cost) hk hnow (by omega) key
 obtain⟨h1,h1d,o1,n1,g1⟩:=K2 h (.cells [.int .i64 0,.int .i64 0,.int .i64 0] 55 .fix)
 simp(disch:=omega)only[U9,↓Z1,<-h1d,↓l9,m9,zA,zB,zC,zD,zE,zF,zG,zH,zI,reduceCtorEq,zJ,zK,zL,zM]
 refine a8e (L.old o1) now held cost fun h2 o2=>?_
 rw[hr]
 have n2:=o2.next
 have g2:=(o2.obj h.next (by omega)).trans g1
 obtain⟨h3,h3d,o3,n3,_⟩:=T9 h2 (.cells [.int .i64 0,.int .i64 0,.int .i64 0] 55 .fix) (.cells [.int .i64 0,.int .i64 0,.int .i64 0] 55 .fix)
 have L3:=(((L.old o1).old o2).old o3)
 have ol3:=L3.ol
 simp(disch:=omega)only[U9,↓Z1,Option.map_none,Option.getD_none,Option.isSome_none,<-h3d,ol3,↓l9,m9,zA,zB,zC,zD,zE,zF,zG,zH,zI,reduceCtorEq,zJ,zK,zL,zM]
 refine e2L L3.G now fun h4 o4 G4=>?_
 have L4:=L3.setG (g:=toG v.G now) ⟨o4.next,fun z hz hn=>o4.obj z hz fun e=>hn (.inl e)⟩ G4
 have ol4:=L4.ol
 simp(disch:=omega)only[U9,↓Z1,ol4,↓l9,m9,zA,zB,zC,zD,zE,zF,zG,zH,zI,reduceCtorEq,zJ,zK,zL,zM]
 have htot:=B.tot
 refine d9D L4.U hs r1 (by show v.U.tot+cost<_;omega) fun h5 o5 U5=>?_
 have L5:=L4.setU o5 U5
 have un:=L.geo.un
 rw[un]at L5
 have ol5:=L5.ol
 simp(disch:=omega)only[U9,↓Z1,ol5,↓l9,m9,zA,zB,zC,zD,zE,zF,zG,zH,zI,reduceCtorEq,zJ,zK,zL,zM]
 refine b5k (v:=pre a.R v now key cost) L5 B' hnow hs fun h6 ev o6 L6 E6=>?_
 have lt:=L.geo.lt
 have n4:=o4.next
 have n5:=o5.next
 have n6:=o6.next
 have own5:∀z,a.b5<=z->¬a.own z:=fun z hz h=>by have:=h.2;omega
 have sown:∀z,a.b5<=z->z∉a.sa.own:=fun z hz h=>own5 z hz (L.uOwn h)
 have k4:∀z,a.b5<=z->z<h3.next->h6.obj z=h3.obj z:=fun z hz h=>by
  rw[o6.obj z (by omega) (own5 z hz),o5.obj z (by omega) (sown z hz),o4.obj z h fun e=>own5 z hz (e▸L.gOwn (.inl rfl))]
 have g6:h6.obj h.next=.cells [.int .i64 0,.int .i64 0,.int .i64 0] 55 .fix:=(k4 _ lt (by omega)).trans ((o3.obj _ (by omega)).trans g2)
 have oA:OldF a.own h h6:=(((o1.trans o2).trans o3).f _).trans ((⟨o4.next,fun z hz hn=>o4.obj z hz fun e=>hn (e▸L.gOwn (.inl rfl))⟩:OldF a.own h3 h4).trans ((o5.mono fun z hz=>L.uOwn hz).trans o6))
 obtain⟨w,hw⟩:∃w,w=(F8 a.R a.rp (pre a.R v now key cost) now key).2.2:=⟨_,rfl⟩
 obtain⟨evs,hevs⟩:∃evs,evs=(F8 a.R a.rp (pre a.R v now key cost) now key).2.1:=⟨_,rfl⟩
 rw[<-hw]at L6
 rw[<-hevs]at E6
 have ol6:=L6.ol
 obtain⟨h7,h7d,o7,n7,q7⟩:=T9 h6 (.cells [.int .i64 0,.int .i64 0,.int .i64 0] 55 .fix) (.cells [.int .i64 2,.int .i64 0,.int .i64 0] 55 .fix)
 have g7:=(o7.obj h.next (by omega)).trans g6
 have L7:=L6.old o7
 have ol7:=L7.ol
 have tail:∀(hh:Heap) (x:LV) (ver rem ret:Int) (e:a7),Lmt hh a x->OldF a.own h6 hh->hh.obj h6.next=.cells [.int .i64 ver,.int .i64 rem,.int .i64 ret] 55 .fix->h6.next<hh.next->e 10=.pointer (some ⟨h.next,0,none⟩)->e 15=ev->e 16=.pointer (some ⟨h6.next,0,none⟩)->
   B3 a.R a.rp v now held key cost=((ver,rem,ret),evs,x.cnt ver)->
   u9 cp 128 [.pointer (some ⟨a.p,0,none⟩),.int .i64 ver] hh (a0G cp (fun t132=> .done e) (a1X cp (.seq (.region a5Q) .ret) (a1t [.c 10 (some 3),.t 11] Q))):=by
  intro hh x ver rem ret e Lx ox qx nx e10 e15 e16 hck
  rw[hck]at hQ
  refine c8U Lx ver fun h8 u o8 L8=>?_
  have n8:=o8.next
  have il:=L.geo.il
  have q8:=(o8.obj h6.next nx (by omega)).trans qx
  have gx:hh.obj h.next=.cells [.int .i64 0,.int .i64 0,.int .i64 0] 55 .fix:=(ox.obj _ (by omega) (own5 _ lt)).trans g6
  have g8:=(o8.obj h.next (by omega) (by omega)).trans gx
  simp(disch:=omega)only[U9,↓Z1,e10,e15,e16,q8,g8,setAt,vbz,vez,a9,E5,↓l9,m9,zA,zB,zC,zD,zE,zF,zG,zH,zI,reduceCtorEq,zJ,zK,zL,zM]
  have apo:a.own a.p:=⟨by have:=L.geo.ib;omega,il.2⟩
  have oT:OldF a.own h (h8.upd h.next (.cells [.int .i64 ver,.int .i64 rem,.int .i64 ret] 55 .fix)):=⟨by show h.next<=h8.next;omega,fun b hb hn=>by
   rw[a6 _ _ (by omega),o8.obj b (by omega) (fun e=>hn (e▸apo)),ox.obj b (by omega) hn];exact oA.obj b hb hn⟩
  refine hQ _ ev oT (L8.oldF (OldF.upd (F:=fun z=>z=h.next) _ _ _ rfl) fun z hz he=>own5 z (by omega) hz) ?_
  rcases E6 with⟨e1,e2⟩| ⟨b,b1,b2,b3,b4⟩
  ·exact .inl ⟨e1,e2⟩
  ·refine .inr ⟨b,by omega,by show b<h8.next;omega,b3,?_⟩
   rw[a6 _ _ (by omega),o8.obj b (by omega) (by omega),ox.obj b b2 (own5 b (by omega))];exact b4
 cases hc:(F8 a.R a.rp (pre a.R v now key cost) now key).1 with
 |some i=>
  simp(disch:=omega)only[U9,↓Z1,vlz,y6,setAt,vbz,vez,<-h7d,ol7,E5,List.drop_succ_cons,vwz,List.take_succ_cons,List.take_zero,↓l9,m9,zA,zB,zC,zD,zE,zF,zG,zH,zI,reduceCtorEq,zJ,zK,zL,zM]
  have pn:=L.geo.pn
  have hW:=L.G.hW
  have hN:=L.G.hN
  have pok:(pre a.R v now key cost).P.OK a.R.C:=by have:=L.P.ok;rw[pn]at this;exact this
  have hiC:=d9U pok hc
  have hwlen:w.P.cells.length=a.pa.n:=L7.P.ok.len
  have hci:w.P.cells[i]? =some (A5 w i):=by unfold A5;rw[vcz,uzF (by omega)];rfl
  obtain⟨Bw,bw⟩:=B'.res (R:=a.R) (rp:=a.rp) (by exact B.bd) B.k0.1 okL hW.1 hN.2 hnow key (fun j _ out hj=>by have:=(F9 hj).1;have:=pok.len;omega)
  rw[<-hw]at Bw bw
  obtain⟨c1,c2,c3,c4⟩:=Bw.cells i _ hci
  have t0:=B.t0
  have k0:=B.k0
  have pk:=RuleV.pace L.geo.ok
  have sm:∀z,0<=z->z<=tm+8192\/z<=5000*(k+1)->Cl.Small z:=fun z h1 h2=>by unfold Cl.Small;omega
  have sF:=sm _ c1.1 (.inl c1.2)
  have sS:=sm _ c2.1 (.inl (by omega))
  have sC:=sm _ c3.1 (.inr c3.2)
  have sU:=sm _ c4.1 (.inr (by omega))
  have sN:=sm _ hnow.1 (.inl (by omega))
  by_cases hle:cost<=a0L a.R (A5 w i) now
  ·refine c9m (F:=(A5 w i).1) (S:=(A5 w i).2.1) (C:=(A5 w i).2.2.1) (U:=(A5 w i).2.2.2) L7.P hci pk sF sS sC sU sN cost r1 hle fun h8 o8 P8=>?_
   have L8:=L7.setP o8 P8
   have ol8:=L8.ol
   have n8:=o8.next
   have q8:=(o8.obj h6.next (by omega) (fun hm=>own5 _ (by omega) (L.pOwn hm))).trans q7
   have g8:=(o8.obj h.next (by omega) (fun hm=>own5 _ (by omega) (L.pOwn hm))).trans g7
   obtain⟨h9,h9d⟩:∃h9,h9=h8.upd h6.next (.cells [.int .i64 1,.int .i64 0,.int .i64 0] 55 .fix):=⟨_,rfl⟩
   have o9:OldF (fun z=>z=h6.next) h8 h9:=by rw[h9d];exact OldF.upd _ _ _ rfl
   have L9:=L8.oldF o9 fun z hz he=>own5 z (by omega) hz
   have ol9:=L9.ol
   have q9:h9.obj h6.next=.cells [.int .i64 1,.int .i64 0,.int .i64 0] 55 .fix:=by rw[h9d];exact a9 _ _ _
   have g9:=(o9.obj h.next (by omega) (by omega)).trans g8
   obtain⟨tab9,p9,_⟩:=L9.P.at_
   have oc9:=p9.oc
   have hc9:(w.P.cells.set i (a4N a.R (A5 w i) now cost))[i]? =some (a4N a.R (A5 w i) now cost):=by rw[uzH (by omega)]
   have cr:=Z5 _ hc9
   rw[F2]at cr
   simp only[a4N]at cr
   simp(disch:=omega)only[U9,↓Z1,cr,q8,setAt,vbz,vez,ol8,<-h9d,ol9,oc9,a4N,J9,viz,hwlen,E5,List.drop_succ_cons,vwz,List.take_succ_cons,List.take_zero,↓l9,m9,zA,zB,zC,zD,zE,zF,zG,zH,zI,reduceCtorEq,zJ,zK,zL,zM]
   have cT:0<=cost*a.R.u/\cost*a.R.u<=32*256:=⟨uzO (by omega) (by have:=pk.t1;omega),vHz (by omega) pk.t2 (by have:=pk.t1;omega) (by omega)⟩
   refine Cl.room_ok _ pk (by unfold Cl.Small;omega) sS sC (by unfold Cl.Small;omega) sN fun h10 o10=>?_
   have L10:=L9.old o10
   have n9:=o9.next
   have q10:=(o10.obj h6.next (by omega)).trans q9
   have g10:=(o10.obj h.next (by omega)).trans g9
   simp(disch:=omega)only[U9,↓Z1,q10,q9,setAt,vbz,vez,E5,a9,↓l9,m9,zA,zB,zC,zD,zE,zF,zG,zH,zI,reduceCtorEq,zJ,zK,zL,zM]
   refine tail _ (e4B w i (a4N a.R (A5 w i) now cost)) 1 _ 0 _ (L10.oldF (OldF.upd (F:=fun z=>z=h6.next) _ _ _ rfl) fun z hz he=>own5 z (by omega) hz) ?_ (a9 _ _ _) (by have:=o10.next;show h6.next<h10.next;omega) rfl rfl rfl ?_
   ·have oX:=(o7.f a.own).trans ((o8.mono fun z hz=>L.pOwn hz).trans (OldF.refl _ _))
    exact⟨by have:=o10.next;show h6.next<=h10.next;omega,fun b hb hn=>by rw[a6 _ _ (by omega),o10.obj b (by omega),o9.obj b (by omega) (by omega)];exact oX.obj b hb hn⟩
   ·unfold B3
    rw[hr]
    simp only[hc,<-hw,<-hevs,hle,if_true]
    rfl
  ·refine d9L (F:=(A5 w i).1) (S:=(A5 w i).2.1) (C:=(A5 w i).2.2.1) (U:=(A5 w i).2.2.2) L7.P hci pk sF sS sC sU sN cost r1 hle fun h8 o8=>?_
   have L8:=L7.old o8
   have ol8:=L8.ol
   have n8:=o8.next
   have q8:=(o8.obj h6.next (by omega)).trans q7
   obtain⟨tab8,p8,_⟩:=L8.P.at_
   have oc8:=p8.oc
   have cr:=Z5 _ hci
   rw[F2]at cr
   simp(disch:=omega)only[U9,↓Z1,cr,q8,ol8,oc8,J9,hwlen,E5,List.drop_succ_cons,vwz,List.take_succ_cons,List.take_zero,↓l9,m9,zA,zB,zC,zD,zE,zF,zG,zH,zI,reduceCtorEq,zJ,zK,zL,zM]
   refine Cl.cwait_ok h8 pk sF sS sC sU sN r1 r2 fun h9 o9=>?_
   have n9:=o9.next
   have q9:=(o9.obj h6.next (by omega)).trans q8
   obtain⟨h10,h10d⟩:∃h10,h10=h9.upd h6.next (.cells [.int .i64 2,.int .i64 0,.int .i64 (a0P a.R (A5 w i) now cost)] 55 .fix):=⟨_,rfl⟩
   have o10:OldF (fun z=>z=h6.next) h9 h10:=by rw[h10d];exact OldF.upd _ _ _ rfl
   have L10:=(L8.old o9).oldF o10 fun z hz he=>own5 z (by omega) hz
   have ol10:=L10.ol
   have q10:h10.obj h6.next=.cells [.int .i64 2,.int .i64 0,.int .i64 (a0P a.R (A5 w i) now cost)] 55 .fix:=by rw[h10d];exact a9 _ _ _
   have n10:=o10.next
   obtain⟨tab10,p10,_⟩:=L10.P.at_
   have oc10:=p10.oc
   have hwc:Cl.wait (A5 w i).1 (A5 w i).2.1 (A5 w i).2.2.1 (A5 w i).2.2.2 a.R.u a.R.Wd a.R.B a.R.L now cost=a0P a.R (A5 w i) now cost:=rfl
   simp(disch:=omega)only[U9,↓Z1,hwc,q9,setAt,vbz,vez,<-h10d,cr,ol10,oc10,J9,hwlen,E5,List.drop_succ_cons,vwz,List.take_succ_cons,List.take_zero,↓l9,m9,zA,zB,zC,zD,zE,zF,zG,zH,zI,reduceCtorEq,zJ,zK,zL,zM]
   refine Cl.room_ok h10 pk sF sS sC sU sN fun h11 o11=>?_
   have L11:=L10.old o11
   have n11:=o11.next
   have q11:=(o11.obj h6.next (by omega)).trans q10
   simp(disch:=omega)only[U9,↓Z1,q10,q11,setAt,vbz,vez,E5,a9,↓l9,m9,zA,zB,zC,zD,zE,zF,zG,zH,zI,reduceCtorEq,zJ,zK,zL,zM]
   refine tail _ w 2 _ (a0P a.R (A5 w i) now cost) _ (L11.oldF (OldF.upd (F:=fun z=>z=h6.next) _ _ _ rfl) fun z hz he=>own5 z (by omega) hz) ?_ (a9 _ _ _) (by show h6.next<h11.next;omega) rfl rfl rfl ?_
   ·exact⟨by show h6.next<=h11.next;omega,fun b hb hn=>by rw[a6 _ _ (by omega),o11.obj b (by omega),o10.obj b (by omega) (by omega),o9.obj b (by omega),o8.obj b (by omega),o7.obj b hb]⟩
   ·unfold B3
    rw[hr]
    simp only[hc,<-hw,<-hevs,hle,if_false]
    rfl
 |none=>
  simp(disch:=omega)only[U9,↓Z1,Option.map_none,y6,setAt,vbz,vez,<-h7d,ol7,E5,↓l9,m9,zA,zB,zC,zD,zE,zF,zG,zH,zI,reduceCtorEq,zJ,zK,zL,zM]
  have pn:=L.geo.pn
  have hW:=L.G.hW
  have hN:=L.G.hN
  have pok:(pre a.R v now key cost).P.OK a.R.C:=by have:=L.P.ok;rw[pn]at this;exact this
  obtain⟨Bw,bw⟩:=B'.res (R:=a.R) (rp:=a.rp) (by exact B.bd) B.k0.1 okL hW.1 hN.2 hnow key (fun j _ out hj=>by have:=(F9 hj).1;have:=pok.len;omega)
  rw[<-hw]at Bw bw
  have t0:=B.t0
  have k0:=B.k0
  have wn:=Bw.now
  have ein:=a3E (rp:=a.rp) hW.1 hN.2 Bw.pos (by omega) bw key
  refine K3 L7.G (by omega) key (by omega) (fun j=>Bw.pos.least a.rp w.G.st key j) fun h8 o8=>?_
  have L8:=L7.old o8
  have ol8:=L8.ol
  have n8:=o8.next
  have q8:=(o8.obj h6.next (by omega)).trans q7
  obtain⟨es,hes⟩:∃es,es=V9 a.rp w.G key:=⟨_,rfl⟩
  have hes' :a1T a.rp w.G.now w.G.st w.G.cs key=es:=hes.symm
  rw[<-hes]at ein
  rw[hes']
  have f:=fun h=>P6 h es cost (by unfold D5;omega) (by unfold D5;omega)
  simp(disch:=omega)only[U9,↓Z1,f,ol7,ol8,E5,↓l9,m9,zA,zB,zC,zD,zE,zF,zG,zH,zI,reduceCtorEq,zJ,zK,zL,zM]
  by_cases hle:O4 (es+cost)<=a.R.L
  ·have b1:=dTz hle
   obtain⟨h9,h9d⟩:∃h9,h9=h8.upd h6.next (.cells [.int .i64 1,.int .i64 0,.int .i64 0] 55 .fix):=⟨_,rfl⟩
   have o9:OldF (fun z=>z=h6.next) h8 h9:=by rw[h9d];exact OldF.upd _ _ _ rfl
   have L9:=L8.oldF o9 fun z hz he=>own5 z (by omega) hz
   have ol9:=L9.ol
   have q9:h9.obj h6.next=.cells [.int .i64 1,.int .i64 0,.int .i64 0] 55 .fix:=by rw[h9d];exact a9 _ _ _
   have n9:=o9.next
   simp(disch:=omega)only[U9,↓Z1,b1,q8,setAt,vbz,vez,<-h9d,ol9,E5,↓l9,m9,zA,zB,zC,zD,zE,zF,zG,zH,zI,reduceCtorEq,zJ,zK,zL,zM]
   refine c7u L9.G (by omega) key (by omega) cost (by unfold D5;omega) fun h10 o10 G10=>?_
   have L10:=L9.setG (g:=a0e a.rp w.G key cost) o10.f G10
   have ol10:=L10.ol
   have n10:=o10.next
   have q10:=(o10.f.obj h6.next (by omega) (fun hm=>own5 _ (by omega) (L.gOwn hm))).trans q9
   have p10:Pos (a0e a.rp w.G key cost).cs:=Bw.pos.add a.rp w.G.st _ _ _
   simp(disch:=omega)only[U9,↓Z1,ol10,E5,↓l9,m9,zA,zB,zC,zD,zE,zF,zG,zH,zI,reduceCtorEq,zJ,zK,zL,zM]
   refine K3 L10.G (by exact⟨wn.1,by show w.G.now<=9223372036854770000;omega⟩) key (by omega) (fun j=>p10.least a.rp _ key j) fun h11 o11=>?_
   have L11:=L10.old o11
   have ol11:=L11.ol
   have n11:=o11.next
   have q11:=(o11.obj h6.next (by omega)).trans q10
   obtain⟨e2,he2⟩:∃e2,e2=V9 a.rp (a0e a.rp w.G key cost) key:=⟨_,rfl⟩
   have he2' :a1T a.rp (a0e a.rp w.G key cost).now (a0e a.rp w.G key cost).st (a0e a.rp w.G key cost).cs key=e2:=he2.symm
   have b2:=(bw.add (by omega) a.rp w.G.st (w.G.now / a.rp.W) (ix a.rp.rows a.rp.w key) cost (by omega))
   have ein2:=a3E (rp:=a.rp) (g:=a0e a.rp w.G key cost) hW.1 hN.2 p10 (by omega) b2 key
   rw[<-he2]at ein2
   have fb:=fun Q=>a2n L11 (a.R.L-e2) Q
   simp(disch:=omega)only[U9,↓Z1,he2',ol10,ol11,fb,q11,setAt,vbz,vez,E5,a9,↓l9,m9,zA,zB,zC,zD,zE,zF,zG,zH,zI,reduceCtorEq,zJ,zK,zL,zM]
   refine tail _ { w with G:=a0e a.rp w.G key cost } 1 _ 0 _ (L11.oldF (OldF.upd (F:=fun z=>z=h6.next) _ _ _ rfl) fun z hz he=>own5 z (by omega) hz) ?_ (a9 _ _ _) (by show h6.next<h11.next;omega) rfl rfl rfl ?_
   ·exact⟨by show h6.next<=h11.next;omega,fun b hb hn=>by rw[a6 _ _ (by omega),o11.obj b (by omega),o10.f.obj b (by omega) (fun hm=>hn (L.gOwn hm)),o9.obj b (by omega) (by omega),o8.obj b (by omega),o7.obj b hb]⟩
   ·unfold B3
    rw[hr]
    simp only[hc,<-hw,<-hevs,<-hes,hle,if_true,<-he2]
  ·have b1:=dFz hle
   simp(disch:=omega)only[U9,↓Z1,b1,ol8,E5,↓l9,m9,zA,zB,zC,zD,zE,zF,zG,zH,zI,reduceCtorEq,zJ,zK,zL,zM]
   refine c7E L8.G (by omega) key (by omega) cost (by unfold D5;omega) (fun j=>Bw.pos.least a.rp w.G.st key j) fun h9 o9=>?_
   have n9:=o9.next
   have q9:=(o9.obj h6.next (by omega)).trans q8
   obtain⟨h10,h10d⟩:∃h10,h10=h9.upd h6.next (.cells [.int .i64 2,.int .i64 0,.int .i64 (a0c a.rp w.G.now w.G.st w.G.cs key cost)] 55 .fix):=⟨_,rfl⟩
   have o10:OldF (fun z=>z=h6.next) h9 h10:=by rw[h10d];exact OldF.upd _ _ _ rfl
   have L10:=(L8.old o9).oldF o10 fun z hz he=>own5 z (by omega) hz
   have ol10:=L10.ol
   have n10:=o10.next
   have q10:h10.obj h6.next=.cells [.int .i64 2,.int .i64 0,.int .i64 (a0c a.rp w.G.now w.G.st w.G.cs key cost)] 55 .fix:=by rw[h10d];exact a9 _ _ _
   simp(disch:=omega)only[U9,↓Z1,q9,setAt,vbz,vez,<-h10d,ol10,E5,↓l9,m9,zA,zB,zC,zD,zE,zF,zG,zH,zI,reduceCtorEq,zJ,zK,zL,zM]
   refine K3 L10.G (by omega) key (by omega) (fun j=>Bw.pos.least a.rp w.G.st key j) fun h11 o11=>?_
   have L11:=L10.old o11
   have ol11:=L11.ol
   have n11:=o11.next
   have q11:=(o11.obj h6.next (by omega)).trans q10
   have fb:=fun Q=>a2n L11 (a.R.L-es) Q
   simp(disch:=omega)only[U9,↓Z1,hes',ol10,ol11,fb,q11,setAt,vbz,vez,E5,a9,↓l9,m9,zA,zB,zC,zD,zE,zF,zG,zH,zI,reduceCtorEq,zJ,zK,zL,zM]
   refine tail _ w 2 _ (a0c a.rp w.G.now w.G.st w.G.cs key cost) _ (L11.oldF (OldF.upd (F:=fun z=>z=h6.next) _ _ _ rfl) fun z hz he=>own5 z (by omega) hz) ?_ (a9 _ _ _) (by show h6.next<h11.next;omega) rfl rfl rfl ?_
   ·exact⟨by show h6.next<=h11.next;omega,fun b hb hn=>by rw[a6 _ _ (by omega),o11.obj b (by omega),o10.obj b (by omega) (by omega),o9.obj b (by omega),o8.obj b (by omega),o7.obj b hb]⟩
   ·unfold B3
    rw[hr]
    simp only[hc,<-hw,<-hevs,<-hes,hle,if_false]
end
end Go.Proofs.YtlakhgibjfmjjaaGreat.Can
namespace Go.Proofs.YtlakhgibjfmjjaaGreat.Can
open Go
theorem LB.cnt{k tm:Int}{v:LV}(B:LB k tm v)(ver:Int):LB k tm (v.cnt ver):=⟨B.k0,B.t0,B.cells,B.pos,B.bd,B.now,B.tot⟩
theorem LB.next{k tm:Int}{v:LV}(B:LB k tm v)(hk:k+1<=1000000000):LB (k+1) tm v:=by
 have h1:=B.k0
 have h4:=B.tot
 refine⟨by omega,B.t0,fun i c hc=>?_,B.pos,B.bd.mono (by omega),B.now,by omega⟩
 obtain⟨c1,c2,c3,c4⟩:=B.cells i c hc
 exact⟨c1,c2,by omega,by omega⟩
theorem LB.later{k tm tm' :Int}{v:LV}(B:LB k tm v)(h:tm<=tm')(ht:tm' <=1000000000000000000):LB k tm' v:=by
 have h2:=B.t0
 have h3:=B.now
 refine⟨B.k0,by omega,fun i c hc=>?_,B.pos,B.bd,by omega,B.tot⟩
 obtain⟨c1,c2,c3,c4⟩:=B.cells i c hc
 exact⟨by omega,by omega,c3,c4⟩
theorem LB.check{k tm:Int}{v:LV}(B:LB k tm v)(hk:k+1<=1000000000){R:RuleV}(ok:R.OK)(pk:Cl.PaceOk R.u R.Wd R.B R.L){rp:RP}(hW:1<=rp.W)(hN:rp.N<=65){now held cost:Int}(hn:0<=now/\now<=tm)(key:ByteArray)(pok:v.P.OK R.C):LB (k+1) tm (B3 R rp v now held key cost).2.2:=by
 unfold B3
 split
 ·exact(B.next hk).cnt _
 ·rename_i hr
  obtain⟨r1,r2,r3,r4⟩:=a1s hr
  have okB:=ok.B
  have okL:=ok.L
  have k0:=B.k0
  have B' :=B.pre (R:=R) (now:=now) (cost:=cost) hk hn (by omega) key
  have pok' :(Can.pre R v now key cost).P.OK R.C:=pok
  obtain⟨Bw,bw⟩:=B'.res (R:=R) (rp:=rp) (by exact B.bd) k0.1 okL hW hN hn key (fun j _ out hj=>by have:=(F9 hj).1;have:=pok'.len;omega)
  simp only
  split
  ·rename_i i hi
   split
   ·refine LB.cnt ?_ 1
    have cT:0<=cost*R.u/\cost*R.u<=32*256:=⟨uzO (by omega) (by have:=pk.t1;omega),vHz (by omega) pk.t2 (by have:=pk.t1;omega) (by omega)⟩
    rename_i hle
    obtain⟨w,hw⟩:∃w,w=(F8 R rp (Can.pre R v now key cost) now key).2.2:=⟨_,rfl⟩
    rw[<-hw]at Bw hle ⊢
    have hci:i<w.P.cells.length->w.P.cells[i]? =some (A5 w i):=fun h=>by unfold A5;rw[vcz,uzF h];rfl
    refine⟨Bw.k0,Bw.t0,?_,Bw.pos,Bw.bd,Bw.now,Bw.tot⟩
    rcases vMz i w.P.cells.length with hl|hl
    ·obtain⟨c1,c2,c3,c4⟩:=Bw.cells i _ (hci hl)
     have hu:=c9r (R:=R) (rp:=rp) (u:=Can.pre R v now key cost) (now:=now) (key:=key) (M:=32*k) (by omega) (fun j c hc=>(B.cells j c hc).2.2.2.2)
     rw[<-hw]at hu
     have hui:=hu i _ (hci hl)
     have t0:=B.t0
     have hb:cost<=Cl.base (A5 w i).1 R.u R.B now:=by
      have:=hle
      unfold a0L Cl.room at this
      split at this<;>omega
     have hF:=(Cl.base_take (F:=(A5 w i).1) (now:=now) pk r1 hb).2
     have bt:=Cl.bt_le pk
     exact a3w Bw.cells i ⟨by show 0<=max (A5 w i).1 now+cost*R.u/\max (A5 w i).1 now+cost*R.u<=tm+8192;omega,c2,c3,by show 0<=(A5 w i).2.2.2+cost/\(A5 w i).2.2.2+cost<=32*(k+1);omega⟩
    ·have e:(e4B w i (a4N R (A5 w i) now cost)).P.cells=w.P.cells:=List.set_eq_of_length_le hl
     rw[e];exact Bw.cells
   ·exact Bw.cnt 2
  ·split
   ·exact LB.cnt (v:={ (F8 R rp (Can.pre R v now key cost) now key).2.2 with G:=a0e rp (F8 R rp (Can.pre R v now key cost) now key).2.2.G key cost }) ⟨Bw.k0,Bw.t0,Bw.cells,Bw.pos.add rp _ _ _ _,(bw.add (by omega) rp _ _ _ cost (by omega)).mono (by omega),Bw.now,Bw.tot⟩ 1
   ·exact Bw.cnt 2
end Go.Proofs.YtlakhgibjfmjjaaGreat.Can
namespace Go.Proofs.YtlakhgibjfmjjaaGreat.Can
open Go
attribute [local congr] u5 u4 l5 l8 r8 s9 u6 w9 u7
variable {Q : Value → Heap → Prop}
theorem b6Y{h:Heap}{a:PA}{keys:Nat->Option ByteArray}{fl:List Nat}{tab:List Int}{cells:List F1}(P:PoolAt h a keys fl tab cells)(Q:Value->Heap->Prop):
  u9 cp 49 [.pointer (some ⟨a.p,0,none⟩)] h Q↔Q (.int .i64 ((a.n:Int)-fl.length)) h:=by
 refine v9 ?_ Q
 rw[a8 cp e6D]
 have op:=P.op
 have f:=fun Q=>Keys.st_used P.s.S Q
 simp(disch:=omega)only[c49,↓R49,E5,op,f,↓l9,m9,zA,zB,zC,zD,zE,zF,zG,zH,zI,reduceCtorEq,zJ,zK,zL,zM]
theorem c9M{h:Heap}{a:SA}{keys:Nat->Option ByteArray}{fl:List Nat}{tab ns es os ws:List Int}{tot:Int}(P:SumAt h a keys fl tab ns es os ws tot)(Q:Value->Heap->Prop):
  u9 cp 50 [.pointer (some ⟨a.p,0,none⟩)] h Q↔Q (.int .i64 tot) h:=by
 refine v9 ?_ Q
 rw[a8 cp f0D]
 have op:=P.op
 simp(disch:=omega)only[c50,↓R50,E5,op,↓l9,m9,zA,zB,zC,zD,zE,zF,zG,zH,zI,reduceCtorEq,zJ,zK,zL,zM]
def e4E(v:LimV)(n:Nat):Value:=.agg #[.int .i64 v.al,.int .i64 v.de,.int .i64 v.bd,.int .i64 ((n:Int)-v.P.fl.length),.int .i64 v.U.tot]
theorem c9O{h:Heap}{a:LA}{v:LimV}(L:LimAt h a v)(hQ:∀h',Old h h' ->Q (e4E v a.R.C) h'):u9 cp 28 [.pointer (some ⟨a.p,0,none⟩)] h Q:=by
 rw[a8 cp f0s]
 have ol:=L.ol
 have lp:a.p<h.next:=uzN L.il.2 L.lt
 have pn:=L.pn
 obtain⟨h1,h1d,o1,n1,g1⟩:=K2 h (.cells [.int .i64 0,.int .i64 0,.int .i64 0,.int .i64 0,.int .i64 0] 63 .fix)
 have ol1:=(o1.obj a.p lp).trans ol
 obtain⟨h2,h2d,o2,n2,q2⟩:=T9 h1 (.cells [.int .i64 0,.int .i64 0,.int .i64 0,.int .i64 0,.int .i64 0] 63 .fix) (.cells [.int .i64 v.al,.int .i64 v.de,.int .i64 v.bd,.int .i64 0,.int .i64 0] 63 .fix)
 have g2:=(o2.obj h.next (by omega)).trans g1
 have L2:=(L.old o1).old o2
 have ol2:=L2.ol
 have f1:=fun Q=>b6Y L2.P Q
 have f2:=fun Q=>c9M L2.U Q
 rw[pn]at f1
 unfold e4E at hQ
 simp(disch:=omega)only[c28,↓R28,<-h1d,ol1,<-h2d,ol2,q2,g2,f1,f2,↓l9,m9,zA,zB,zC,zD,zE,zF,zG,zH,zI,reduceCtorEq,zJ,zK,zL,zM]
 refine hQ _ ⟨by simp only[r9];omega,fun z hz=>?_⟩
 rw[a6 _ _ (by omega),a6 _ _ (by omega),a6 _ _ (by omega),o2.obj z (by omega),o1.obj z hz]
section
variable {h h' :Heap} {a:SrvA} {v:SrvV} {ev:Value} {ex:Option Nat}
theorem SrvAt.ownLt(S:SrvAt h a v ev ex){z:Nat}:(∃(i:Nat) (L:LA),a.las[i]? =some L/\L.own z)->z<h.next:=fun⟨i,L,hL,hz⟩=>by
 have hi:i<v.ls.length:=by rw[S.ll];exact(List.getElem?_eq_some_iff.1 hL).1
 exact uzN hz.2 (S.L i L _ hL (uzF hi)).lt
theorem SrvAt.upS(S:SrvAt h a v ev ex)(o:OldX a.s h h'){now' first' :Int}{again' read' :Bool}{ev' :Value}(ho:h'.obj a.s=.cells (P0 now' first' again' read' a.bu a.cas.length a.ou a.crv a.cv a.rv ev') 93 .fix):
  SrvAt h' a { v with now:=now',first:=first',again:=again',read:=read' } ev' ex:=by
 have ts:=S.ts
 have ne:∀z,a.tg z≠0->z≠a.s:=fun z hz e=>hz (by rw[e];exact ts)
 exact { S with
  os:=ho
  ls:=uzN S.ls o.next
  K:=S.K.keep o.next fun hl=>o.obj _ hl (ne _ (by rw[S.tk];decide))
  V:=S.V.keep o.next fun hl=>o.obj _ hl (ne _ (by rw[S.tc];decide))
  W:=S.W.keep o.next fun hl=>o.obj _ hl (ne _ (by rw[S.tr];decide))
  C:=fun i A c he hA hc=>(S.C i A c he hA hc).keep o.next fun z hz=>o.obj z ((S.C i A c he hA hc).lt hz) (ne z (by rw[S.tC i A z hA hz];omega))
  L:=fun i L l hL hl=>(S.L i L l hL hl).keep o.next fun z hz=>o.obj z (uzN hz.2 (S.L i L l hL hl).lt) (ne z (by rw[S.tL i L z hL hz];omega)) }
theorem SrvAt.upL(S:SrvAt h a v ev ex){i:Nat}{L:LA}{l:LimV}(hL:a.las[i]? =some L)(o:OldF L.own h h')(hl' :LimAt h' L l):SrvAt h' a { v with ls:=v.ls.set i l } ev ex:=by
 have ne:∀z,a.tg z≠2*i+5->¬L.own z:=fun z hz e=>hz (S.tL i L z hL e)
 exact { S with
  os:=(o.obj _ S.ls (ne _ (by rw[S.ts];omega))).trans S.os
  ls:=uzN S.ls o.next
  K:=S.K.keep o.next fun hl=>o.obj _ hl (ne _ (by rw[S.tk];omega))
  V:=S.V.keep o.next fun hl=>o.obj _ hl (ne _ (by rw[S.tc];omega))
  W:=S.W.keep o.next fun hl=>o.obj _ hl (ne _ (by rw[S.tr];omega))
  ll:=by show(v.ls.set i l).length=_;rw[viz];exact S.ll
  C:=fun j A c he hA hc=>(S.C j A c he hA hc).keep o.next fun z hz=>o.obj z ((S.C j A c he hA hc).lt hz) (ne z (by rw[S.tC j A z hA hz];omega))
  L:=fun j L' l' hL' hl2=>by
   have hl2:(v.ls.set i l)[j]? =some l' :=hl2
   by_cases e:i=j
   ·subst e
    have hi:i<v.ls.length:=by rw[S.ll];exact(List.getElem?_eq_some_iff.1 hL).1
    rw[uzH hi]at hl2
    rw[hL]at hL'
    rw[<-uzA hl2,<-uzA hL']
    exact hl'
   ·rw[uzI e]at hl2
    exact(S.L j L' l' hL' hl2).keep o.next fun z hz=>o.obj z (uzN hz.2 (S.L j L' l' hL' hl2).lt) (ne z (by rw[S.tL j L' z hL' hz];omega)) }
theorem SrvAt.out(S:SrvAt h a v ev none)(k:Nat):SrvAt h a v ev (some k):={ S with C:=fun i A c _ hA hc=>S.C i A c (by simp) hA hc }
theorem SrvAt.in_{k:Nat}(S:SrvAt h a v ev (some k)){A:CA}{c:CV}(hA:a.cas[k]? =some A)(hc:ConnAt h A c):SrvAt h a { v with cs:=v.cs.set k c } ev none:=
 { S with
   cl:=by show(v.cs.set k c).length=_;rw[viz];exact S.cl
   C:=fun i A' c' _ hA' hc' =>by
    have hc' :(v.cs.set k c)[i]? =some c' :=hc'
    by_cases e:k=i
    ·subst e
     have hi:k<v.cs.length:=by rw[S.cl];exact(List.getElem?_eq_some_iff.1 hA).1
     rw[uzH hi]at hc'
     rw[hA]at hA'
     rw[<-uzA hc',<-uzA hA']
     exact hc
    ·rw[uzI e]at hc'
     exact S.C i A' c' (fun h=>e (uzA h)) hA' hc' }
theorem SrvAt.keepC{k:Nat}(S:SrvAt h a v ev (some k)){A:CA}(hA:a.cas[k]? =some A)(o:OldF A.own h h'):SrvAt h' a v ev (some k):=S.keep o.next fun z hz hl=>o.obj z hl fun hA' =>by
 have t:=S.tC k A z hA hA'
 rcases hz with e|e|e|e| ⟨i,A',he,hA2,hz⟩| ⟨i,L,hL,hz⟩
 ·rw[e,S.ts]at t;omega
 ·rw[e,S.tk]at t;omega
 ·rw[e,S.tc]at t;omega
 ·rw[e,S.tr]at t;omega
 ·rw[S.tC i A' z hA2 hz]at t
  exact he (by rw[show k=i by omega])
 ·rw[S.tL i L z hL hz]at t;omega
theorem d9x(S:SrvAt h a v ev ex){q:ReqV}(rq:ReqOK a.las.length q){L:LA}(hL:a.las[q.rule.toNat]? =some L)(hT:L.R.OK)(hQ:∀h',Old h h' ->Q (.int .i64 (T8 q.op q.k L.R.T)) h'):
  u9 cp 118 [.pointer (some ⟨a.s,0,none⟩),q.val] h Q:=by
 rw[a8 cp e5o]
 have r1:=rq.rule
 have T1:=hT.T
 obtain⟨i,hi⟩:∃i:Nat,q.rule=i:=⟨q.rule.toNat,by omega⟩
 rw[hi,vAz]at hL
 have il:i<a.las.length:=(List.getElem?_eq_some_iff.1 hL).1
 obtain⟨h1,h1d,o1,_,g1⟩:=K2 h (.cells [.int .i64 q.op,.int .i64 i,.int .u32 q.cost,.string (bs q.key),.int .i64 q.k] 61 .fix)
 have S1:=S.old o1
 have os:=S1.os
 obtain⟨cap,hv,hrd⟩:=S1.K.read (i:=i) (x:=L.R.t) (by rw[uzJ,hL];rfl)
 rw[uzL]at hv
 rw[hv]at os
 have hg:(h1.obj a.kb).get (i*9+7)=some (.int .i64 L.R.T):=by
  have:=a0r (i:=7) hrd (by decide) (v:=.int .i64 L.R.T) rfl
  rwa [vsz]at this
 unfold ReqV.val a1U
 rw[hi]
 simp(disch:=omega)only[d0x,↓e4K,<-h1d,g1,os,hg,↓l9,m9,zA,zB,zC,zD,zE,zF,zG,zH,zI,reduceCtorEq,zJ,zK,zL,zM]
 refine b4I h1 q.op i q.cost (bs q.key) q.k L.R.T rq.k (by omega) fun h2 o2=>?_
 simp(disch:=omega)only[d0x,↓e4K,↓l9,m9,zA,zB,zC,zD,zE,zF,zG,zH,zI,reduceCtorEq,zJ,zK,zL,zM]
 exact hQ h2 (o1.trans o2)
structure SrvV.T(v:SrvV):Prop where
 now:0<=v.now/\D5 v.now
 first:0<=v.first/\D5 v.first
end
theorem a3C{CP:CProg}(g:FuncId)(caps:a7->List Value)(post:CC)(Q:B5)(e:a7)(h:Heap):e4l CP g caps post Q .normal e h↔I1 CP post e h (e4k CP g (caps e) Q):=Iff.rfl
theorem a3D{CP:CProg}(g:FuncId)(caps:a7->List Value)(post:CC)(Q:B5)(e:a7)(h:Heap):e4l CP g caps post Q .ret e h↔Q .ret e h:=Iff.rfl
theorem b6y{CP:CProg}(g:FuncId)(cs:List Value)(Q:B5)(e:a7)(h:Heap):e4k CP g cs Q .ret e h↔u9 CP g cs h (fun _ h3=>Q .ret e h3):=Iff.rfl
abbrev EvT:=Int×ByteArray×Bool×Int
abbrev EvE:Enc EvT:=Enc.pair (Enc.int .i64) (Enc.pair Enc.str (Enc.pair Enc.bool (Enc.int .i64)))
def HI(a:SrvA)(k N:Nat)(hh:Heap)(st:SrvV×List EvT):Prop:=
 (N<=hh.next/\∀z,a.own none z->z<N)/\∃ev eb,SrvAt hh a st.1 ev (some k)/\E3 hh 123 EvE ev st.2 eb/\(st.2=[]/\ev=.slice none 0 0\/¬a.own none eb/\N<=eb)
theorem HI.keep{a:SrvA}{k N:Nat}{h h' :Heap}{st:SrvV×List EvT}{A:CA}(I:HI a k N h st)(hA:a.cas[k]? =some A)(o:OldF A.own h h'):HI a k N h' st:=by
 obtain⟨nn,ev,eb,S,V,e⟩:=I
 refine⟨⟨uzR nn.1 o.next,nn.2⟩,ev,eb,S.keepC hA o,?_,e⟩
 rcases e with⟨e1,e2⟩|e
 ·rw[e1,e2];exact E3.nil _ _ _ _
 ·exact V.keep o.next fun hl=>o.obj eb hl fun hz=>e.1 (.inr (.inr (.inr (.inr (.inl ⟨k,A,by simp,hA,hz⟩)))))
def SrvV.rd(v:SrvV)(r:Int):SrvV:={ v with now:=max (max v.now r) 0,first:=if v.read then v.first else max (max v.now r) 0,read:=true }
def K9:Value:=.slice none 0 0
section
variable {h h' :Heap} {a:SrvA} {v:SrvV} {k:Nat} {A:CA} {c:CV} {F:Nat->Nat->Prop} {σ:Type} {okq:σ->ReqV->Prop} {most:σ->ReqV->Int} {ans:σ->ReqV->σ×List Int} {V:σ->SrvV×List EvT->Prop} {st0:σ}
theorem SrvAt.lt{ev:Value}(S:SrvAt h a v ev none){z:Nat}(hz:a.own none z):z<h.next:=by
 have cn:=S.cn
 have ln:=S.ln
 rcases hz with e|e|e|e| ⟨i,A,he,hA,hz⟩|h1
 ·rw[e];exact S.ls
 ·rw[e]
  obtain⟨_,_,_,hl,_⟩:=S.K.at (by rw[uzL];omega)
  exact hl
 ·rw[e]
  have:0<(a.cas.map CA.x).length:=by rw[uzL];omega
  obtain⟨_,_,hl,_⟩:=S.V.get (uzF this)
  exact hl
 ·rw[e]
  have:0<(a.las.map LA.p).length:=by rw[uzL];omega
  obtain⟨_,_,hl,_⟩:=S.W.get (uzF this)
  exact hl
 ·have hi:i<v.cs.length:=by rw[S.cl];exact(List.getElem?_eq_some_iff.1 hA).1
  exact(S.C i A _ he hA (uzF hi)).lt hz
 ·exact S.ownLt h1
theorem d8X(H:∀N,Host σ a.s (F N) A (fun hh st=>∃s,HI a k N hh s/\V st s) okq most ans)(hF:∀N z,F N z->a.own none z\/N<=z)(S:SrvAt h a v K9 none)(hA:a.cas[k]? =some A)(hc:v.cs[k]? =some c)(hw:c.w=true)(hr:c.r=A.rr)(di:c.e=0->U6 c.bs c.n c.r)
  (r n:Int) (hJ:V st0 (v.rd r,[])) (w:Value) (l:List Int) (sl:Bys h w l) (byt:E4 l) (hll:l.length<=100000) (hok:okS most ans A.S okq l st0 c) (hg:∀z o cap,w=.slice (some ⟨z,o,none⟩) l.length cap->¬a.own none z) {Q:Value->Heap->Prop}
  (hQ:∀h' evv eb s,OldF (a.own none) h h' ->((C8 most ans A.S l st0 c).2.1.w=true/\(C8 most ans A.S l st0 c).2.1.r=A.rr/\((C8 most ans A.S l st0 c).2.1.e=0->U6 (C8 most ans A.S l st0 c).2.1.bs (C8 most ans A.S l st0 c).2.1.n (C8 most ans A.S l st0 c).2.1.r))->V (C8 most ans A.S l st0 c).1 s->SrvAt h' a { s.1 with cs:=s.1.cs.set k (C8 most ans A.S l st0 c).2.1 } K9 none->
   E3 h' 123 EvE evv s.2 eb/\(s.2=[]/\evv=.slice none 0 0\/h.next<=eb)->Q (.agg #[.int .i64 0,.int .i64 (C8 most ans A.S l st0 c).2.2,K9,evv]) h'):
  u9 cp 15 [.pointer (some ⟨a.s,0,none⟩),.agg #[.int .i64 2,.int .i64 r,.int .i64 k,w,.int .i64 n,.slice none 0 0]] h Q:=by
 rw[a8 cp e4i]
 refine a5F (CP:=cp) _ _ _ _ _ _ _ ?_
 obtain⟨wa,wc,rfl,wl⟩:=sl.val
 have ck:k<a.cas.length:=(List.getElem?_eq_some_iff.1 hA).1
 have cn:=S.cn
 have ls:=S.ls
 obtain⟨h1,h1d⟩:∃h1,h1=((h.new (.cells [.pointer (some ⟨a.s,0,none⟩)] 35 .fix)).new (.cells [.int .i64 2,.int .i64 r,.int .i64 k,.slice wa l.length wc,.int .i64 n,.slice none 0 0] 45 .fix)).new (.cells [.int .i64 0,.int .i64 0,.slice none 0 0,.slice none 0 0] 42 .fix):=⟨_,rfl⟩
 have o1:Old h h1:=by rw[h1d];exact(((Old.refl h).more _).more _).more _
 have n1:h1.next=h.next+1+1+1:=by rw[h1d];rfl
 have p1:h1.obj h.next=.cells [.pointer (some ⟨a.s,0,none⟩)] 35 .fix:=by rw[h1d,f4 _ _ (by simp only[j0];omega),f4 _ _ (by simp only[j0];omega)];exact f9 _ _
 have q1:h1.obj (h.next+1)=.cells [.int .i64 2,.int .i64 r,.int .i64 k,.slice wa l.length wc,.int .i64 n,.slice none 0 0] 45 .fix:=by rw[h1d,f4 _ _ (by simp only[j0];omega)];exact f9 _ _
 have x1:h1.obj (h.next+1+1)=.cells [.int .i64 0,.int .i64 0,.slice none 0 0,.slice none 0 0] 42 .fix:=by rw[h1d];exact f9 _ _
 have S1:=S.old o1
 simp(disch:=omega)only[c15,↓R15,<-h1d,p1,q1,x1,E5,zN,↓a3C,↓a3D,↓l9,m9,zA,zB,zC,zD,zE,zF,zG,zH,zI,reduceCtorEq,zJ,zK,zL,zM]
 refine a2q S1.os r fun h2 u o2 nx2 os2=>?_
 have S2:SrvAt h2 a (v.rd r) K9 none:=S1.upS o2 os2
 have p2:=(o2.obj h.next (by omega) (by omega)).trans p1
 have q2:=(o2.obj (h.next+1) (by omega) (by omega)).trans q1
 have x2:=(o2.obj (h.next+1+1) (by omega) (by omega)).trans x1
 obtain⟨cap2,hv2,hcb,hgp⟩:=S2.V.get (i:=k) (p:=A.x) (by rw[uzJ,hA];rfl)
 have hgp:(h2.obj a.cb).get k=some (.pointer (some ⟨A.x,0,none⟩)):=hgp
 rw[uzL]at hv2
 rw[hv2]at os2
 have b1:decide ((2:Int)<0)=false:=by decide
 have b2:decide ((2:Int)>4)=false:=by decide
 have b3:decide ((k:Int)<0)=false:=dFz (by omega)
 have b4:decide ((k:Int)>=(a.cas.length:Int))=false:=dFz (by omega)
 obtain⟨h3,h3d,o3,n3,y3⟩:=T9 h2 (.cells [.int .i64 0,.int .i64 0,.slice none 0 0,.slice none 0 0] 42 .fix) (.cells [.int .i64 0,.int .i64 0,.slice none 0 0,.slice none 0 0] 42 .fix)
 have p3:=(o3.obj h.next (by omega)).trans p2
 have q3:=(o3.obj (h.next+1) (by omega)).trans q2
 have x3:=(o3.obj (h.next+1+1) (by omega)).trans x2
 have S3:=S2.old o3
 have c3:=S3.C k A c (by simp) hA hc
 have fo:=fun Q=>a1J c3 Q
 rw[hw]at fo
 simp(disch:=omega)only[c15,↓R15,p2,q2,x2,os2,b1,b2,b3,b4,hgp,y6,<-h3d,p3,q3,x3,fo,zN,uzS,↓a3C,↓a3D,↓l9,m9,zA,zB,zC,zD,zE,zF,zG,zH,zI,reduceCtorEq,zJ,zK,zL,zM]
 have I3:∃s,HI a k h3.next h3 s/\V st0 s:=⟨_,⟨⟨uzP _,fun z hz=>by have:=S.lt hz;omega⟩,K9,0,S3.out k,E3.nil _ _ _ _,.inl ⟨rfl,rfl⟩⟩,hJ⟩
 have oX3:OldX a.s h h3:=((o1.x _).trans o2).trans (o3.x _)
 have sl3:Bys h3 (.slice wa l.length wc) l:=by
  rcases sl with s| ⟨b,o,cap,e1,e2,e3,e4,e5⟩
  ·exact .inl s
  ·have hne:b≠a.s:=fun e=>hg b o cap e1 (by rw[e];exact .inl rfl)
   exact .inr ⟨b,o,cap,e1,e2,by omega,by rw[oX3.obj b e3 hne];exact e4,by rw[oX3.obj b e3 hne];exact e5⟩
 have lt3:∀z,a.own none z->z<h.next:=fun z hz=>S.lt hz
 have Alt:∀z,A.own z->a.own none z:=fun z hz=> .inr (.inr (.inr (.inr (.inl ⟨k,A,by simp,hA,hz⟩))))
 refine c7T (H h3.next) I3 c3 hw hr di (.slice wa l.length wc) l sl3 byt hok hll (fun z o cap e=>?_) fun h4 o4 I4 c4 w4 r4 d4=>?_
 ·have h1:=hg z o cap e
  refine⟨fun hz=>h1 (Alt z hz),fun hz=>?_⟩
  rcases hF h3.next z hz with hz|hz
  ·exact h1 hz
  ·rcases sl3 with⟨e1,_⟩| ⟨b,o',cap',e1,_,e3,_⟩
   ·rw[e]at e1;simp at e1
   ·rw[e]at e1
    simp only[Value.slice.injEq,uzC,Addr.mk.injEq]at e1
    omega
 have n4:=o4.next
 have keep4:∀z,h.next<=z->z<h3.next->h4.obj z=h3.obj z:=fun z h1 h2=>o4.obj z h2 fun hz=>by
  rcases hz with hz|hz
  ·have:=lt3 z (Alt z hz);omega
  ·rcases hF h3.next z hz with hz|hz
   ·have:=lt3 z hz;omega
   ·omega
 have p4:=(keep4 h.next (by omega) (by omega)).trans p3
 have x4:=(keep4 (h.next+1+1) (by omega) (by omega)).trans x3
 have y4:=(keep4 h2.next (by omega) (by omega)).trans y3
 obtain⟨R',hR⟩:∃R,R=C8 most ans A.S l st0 c:=⟨_,rfl⟩
 rw[<-hR]at I4 c4 w4 r4 d4 hQ ⊢
 obtain⟨s,⟨_,ev,eb,S4,V4,ev4⟩,J4⟩:=I4
 obtain⟨R,hRd⟩:∃R:(SrvV×List EvT)×CV×Nat,R=(s,R'.2):=⟨_,rfl⟩
 have r1:s=R.1:=by rw[hRd]
 have r2:R'.2=R.2:=by rw[hRd]
 rw[r1]at S4 V4 ev4 J4
 rw[r2]at c4 w4 r4 d4 ⊢
 have hQ:=fun h' evv eb=>hQ h' evv eb R.1
 rw[r2]at hQ
 obtain⟨ea,ecap,rfl,_⟩:=V4.val
 have os4:=S4.os
 simp(disch:=omega)only[c15,↓R15,p4,x4,y4,os4,↓b6y,↓l9,m9,zA,zB,zC,zD,zE,zF,zG,zH,zI,reduceCtorEq,zJ,zK,zL,zM]
 obtain⟨h5,h5d⟩:∃h5,h5=((h4.upd h2.next (.cells [.int .i64 0,.int .i64 (R.2.2:Nat),.slice none 0 0,.slice none 0 0] 42 .fix)).upd h2.next (.cells [.int .i64 0,.int .i64 (R.2.2:Nat),.slice none 0 0,.slice ea R.1.2.length ecap] 42 .fix)).upd (h.next+1+1) (.cells [.int .i64 0,.int .i64 (R.2.2:Nat),.slice none 0 0,.slice ea R.1.2.length ecap] 42 .fix):=⟨_,rfl⟩
 have n5:h5.next=h4.next:=by rw[h5d];rfl
 have keep5:∀z,z≠h2.next->z≠h.next+1+1->h5.obj z=h4.obj z:=fun z e1 e2=>by rw[h5d,a6 _ _ e2,a6 _ _ e1,a6 _ _ e1]
 have p5:=(keep5 h.next (by omega) (by omega)).trans p4
 have os5:=(keep5 a.s (by omega) (by omega)).trans os4
 have x5:h5.obj (h.next+1+1)=.cells [.int .i64 0,.int .i64 (R.2.2:Nat),.slice none 0 0,.slice ea R.1.2.length ecap] 42 .fix:=by rw[h5d];exact a9 _ _ _
 show u9 cp _ _ (((h4.upd h2.next (.cells [.int .i64 0,.int .i64 (R.2.2:Nat),.slice none 0 0,.slice none 0 0] 42 .fix)).upd h2.next (.cells [.int .i64 0,.int .i64 (R.2.2:Nat),.slice none 0 0,.slice ea R.1.2.length ecap] 42 .fix)).upd (h.next+1+1) (.cells [.int .i64 0,.int .i64 (R.2.2:Nat),.slice none 0 0,.slice ea R.1.2.length ecap] 42 .fix)) _
 rw[<-h5d,a8 cp e4j]
 simp(disch:=omega)only[c35,↓R35,p5,os5,x5,↓l9,m9,zA,zB,zC,zD,zE,zF,zG,zH,zI,reduceCtorEq,zJ,zK,zL,zM]
 have o6:OldX a.s h5 (h5.upd a.s (.cells (P0 R.1.1.now R.1.1.first R.1.1.again R.1.1.read a.bu a.cas.length a.ou a.crv a.cv a.rv K9) 93 .fix)):=OldX.upd _ _ _
 have S5:SrvAt h5 a R.1.1 (.slice ea R.1.2.length ecap) (some k):=S4.keep (by omega) fun z hz hl=>keep5 z (fun e=>by
  have:z<h.next:=by
   rcases hz with hz|hz|hz|hz| ⟨i,A',he,hA2,hz⟩|hz
   ·exact lt3 z (.inl hz)
   ·exact lt3 z (.inr (.inl hz))
   ·exact lt3 z (.inr (.inr (.inl hz)))
   ·exact lt3 z (.inr (.inr (.inr (.inl hz))))
   ·exact lt3 z (.inr (.inr (.inr (.inr (.inl ⟨i,A',by simp,hA2,hz⟩)))))
   ·exact lt3 z (.inr (.inr (.inr (.inr (.inr hz)))))
  omega) (fun e=>by
  have:z<h.next:=by
   rcases hz with hz|hz|hz|hz| ⟨i,A',he,hA2,hz⟩|hz
   ·exact lt3 z (.inl hz)
   ·exact lt3 z (.inr (.inl hz))
   ·exact lt3 z (.inr (.inr (.inl hz)))
   ·exact lt3 z (.inr (.inr (.inr (.inl hz))))
   ·exact lt3 z (.inr (.inr (.inr (.inr (.inl ⟨i,A',by simp,hA2,hz⟩)))))
   ·exact lt3 z (.inr (.inr (.inr (.inr (.inr hz)))))
  omega)
 have S6:=S5.upS o6 (a9 _ _ _)
 have c5:ConnAt h5 A R.2.1:=c4.keep (by omega) fun z hz=>keep5 z (by have:=lt3 z (Alt z hz);omega) (by have:=lt3 z (Alt z hz);omega)
 have tA:¬A.own a.s:=fun hz=>by have:=S.tC k A a.s hA hz;rw[S.ts]at this;omega
 have c6:=c5.up o6 tA
 refine hQ _ _ eb ⟨by rw[r9];omega,fun z hz hn=>?_⟩ ⟨w4,r4,d4⟩ J4 (S6.in_ hA c6) ⟨?_,?_⟩
 ·have hs:z≠a.s:=fun e=>hn (by rw[e];exact .inl rfl)
  rw[a6 _ _ hs,keep5 z (by omega) (by omega),o4.obj z (by omega) (fun hz' =>?_),oX3.obj z hz hs]
  rcases hz' with hz' |hz'
  ·exact hn (Alt z hz')
  ·rcases hF h3.next z hz' with hz' |hz'
   ·exact hn hz'
   ·omega
 ·rcases ev4 with⟨e1,e2⟩|ev4
  ·rw[e1]at e2 ⊢
   rw[e2];exact E3.nil _ _ _ _
  ·refine V4.keep (by rw[r9];omega) fun hl=>?_
   rw[a6 _ _ (fun e=>ev4.1 (by rw[e];exact .inl rfl))]
   have:=ev4.2
   exact keep5 eb (by omega) (by omega)
 ·rcases ev4 with⟨e1,e2⟩|ev4
  ·exact .inl ⟨e1,e2⟩
  ·exact .inr (by have:=ev4.2;omega)
end
section
variable {h h' :Heap} {a:SrvA} {v:SrvV} {k:Nat} {A:CA} {c:CV}
theorem e1C(S:SrvAt h a v K9 none)(hA:a.cas[k]? =some A)(hc:v.cs[k]? =some c)(hw:c.w=false)(r n:Int)
  (hQ:∀h',OldF (a.own none) h h' ->SrvAt h' a { v.rd r with cs:=v.cs.set k (a7J A.rr) } K9 none->Q (.agg #[.int .i64 0,.int .i64 0,K9,K9]) h'):
  u9 cp 15 [.pointer (some ⟨a.s,0,none⟩),.agg #[.int .i64 0,.int .i64 r,.int .i64 k,.slice none 0 0,.int .i64 n,.slice none 0 0]] h Q:=by
 rw[a8 cp e4i]
 refine a5F (CP:=cp) _ _ _ _ _ _ _ ?_
 have ck:k<a.cas.length:=(List.getElem?_eq_some_iff.1 hA).1
 have cn:=S.cn
 have ls:=S.ls
 obtain⟨h1,h1d⟩:∃h1,h1=((h.new (.cells [.pointer (some ⟨a.s,0,none⟩)] 35 .fix)).new (.cells [.int .i64 0,.int .i64 r,.int .i64 k,.slice none 0 0,.int .i64 n,.slice none 0 0] 45 .fix)).new (.cells [.int .i64 0,.int .i64 0,.slice none 0 0,.slice none 0 0] 42 .fix):=⟨_,rfl⟩
 have o1:Old h h1:=by rw[h1d];exact(((Old.refl h).more _).more _).more _
 have n1:h1.next=h.next+1+1+1:=by rw[h1d];rfl
 have p1:h1.obj h.next=.cells [.pointer (some ⟨a.s,0,none⟩)] 35 .fix:=by rw[h1d,f4 _ _ (by simp only[j0];omega),f4 _ _ (by simp only[j0];omega)];exact f9 _ _
 have q1:h1.obj (h.next+1)=.cells [.int .i64 0,.int .i64 r,.int .i64 k,.slice none 0 0,.int .i64 n,.slice none 0 0] 45 .fix:=by rw[h1d,f4 _ _ (by simp only[j0];omega)];exact f9 _ _
 have x1:h1.obj (h.next+1+1)=.cells [.int .i64 0,.int .i64 0,.slice none 0 0,.slice none 0 0] 42 .fix:=by rw[h1d];exact f9 _ _
 have S1:=S.old o1
 simp(disch:=omega)only[c15,↓R15,<-h1d,p1,q1,x1,E5,zN,↓a3C,↓a3D,↓l9,m9,zA,zB,zC,zD,zE,zF,zG,zH,zI,reduceCtorEq,zJ,zK,zL,zM]
 refine a2q S1.os r fun h2 u o2 nx2 os2=>?_
 have S2:SrvAt h2 a (v.rd r) K9 none:=S1.upS o2 os2
 have p2:=(o2.obj h.next (by omega) (by omega)).trans p1
 have q2:=(o2.obj (h.next+1) (by omega) (by omega)).trans q1
 have x2:=(o2.obj (h.next+1+1) (by omega) (by omega)).trans x1
 obtain⟨cap2,hv2,hcb,hgp⟩:=S2.V.get (i:=k) (p:=A.x) (by rw[uzJ,hA];rfl)
 have hgp:(h2.obj a.cb).get k=some (.pointer (some ⟨A.x,0,none⟩)):=hgp
 rw[uzL]at hv2
 rw[hv2]at os2
 have b1:decide ((0:Int)<0)=false:=by decide
 have b2:decide ((0:Int)>4)=false:=by decide
 have b3:decide ((k:Int)<0)=false:=dFz (by omega)
 have b4:decide ((k:Int)>=(a.cas.length:Int))=false:=dFz (by omega)
 obtain⟨h3,h3d,o3,n3,y3⟩:=T9 h2 (.cells [.int .i64 0,.int .i64 0,.slice none 0 0,.slice none 0 0] 42 .fix) (.cells [.int .i64 0,.int .i64 0,.slice none 0 0,.slice none 0 0] 42 .fix)
 have p3:=(o3.obj h.next (by omega)).trans p2
 have q3:=(o3.obj (h.next+1) (by omega)).trans q2
 have x3:=(o3.obj (h.next+1+1) (by omega)).trans x2
 have S3:=S2.old o3
 have c3:=S3.C k A c (by simp) hA hc
 simp(disch:=omega)only[c15,↓R15,p2,q2,x2,os2,b1,b2,b3,b4,hgp,y6,<-h3d,p3,q3,x3,zN,uzS,↓a3C,↓a3D,↓l9,m9,zA,zB,zC,zD,zE,zF,zG,zH,zI,reduceCtorEq,zJ,zK,zL,zM]
 have oX3:OldX a.s h h3:=((o1.x _).trans o2).trans (o3.x _)
 have lt3:∀z,a.own none z->z<h.next:=fun z hz=>S.lt hz
 have Alt:∀z,A.own z->a.own none z:=fun z hz=> .inr (.inr (.inr (.inr (.inl ⟨k,A,by simp,hA,hz⟩))))
 refine e1V c3 hw fun h4 o4 c4=>?_
 have n4:=o4.next
 have keep4:∀z,h.next<=z->z<h3.next->h4.obj z=h3.obj z:=fun z h1 h2=>o4.obj z h2 fun hz=>by
  have:=lt3 z (Alt z hz);omega
 have p4:=(keep4 h.next (by omega) (by omega)).trans p3
 have x4:=(keep4 (h.next+1+1) (by omega) (by omega)).trans x3
 have y4:=(keep4 h2.next (by omega) (by omega)).trans y3
 have S4:=(S3.out k).keepC hA o4
 have os4:=S4.os
 simp(disch:=omega)only[c15,↓R15,p4,x4,y4,os4,K9,↓b6y,↓l9,m9,zA,zB,zC,zD,zE,zF,zG,zH,zI,reduceCtorEq,zJ,zK,zL,zM]
 obtain⟨h5,h5d⟩:∃h5,h5=(((h4.upd h2.next (.cells [.int .i64 0,.int .i64 0,.slice none 0 0,.slice none 0 0] 42 .fix)).upd (h.next+1+1) (.cells [.int .i64 0,.int .i64 0,.slice none 0 0,.slice none 0 0] 42 .fix))):=⟨_,rfl⟩
 have n5:h5.next=h4.next:=by rw[h5d];rfl
 have keep5:∀z,z≠h2.next->z≠h.next+1+1->h5.obj z=h4.obj z:=fun z e1 e2=>by rw[h5d];rw[a6 _ _ e2,a6 _ _ e1]
 have p5:=(keep5 h.next (by omega) (by omega)).trans p4
 have os5:=(keep5 a.s (by omega) (by omega)).trans os4
 have x5:h5.obj (h.next+1+1)=.cells [.int .i64 0,.int .i64 0,.slice none 0 0,.slice none 0 0] 42 .fix:=by rw[h5d];exact a9 _ _ _
 show u9 cp _ _ ((((h4.upd h2.next (.cells [.int .i64 0,.int .i64 0,.slice none 0 0,.slice none 0 0] 42 .fix)).upd (h.next+1+1) (.cells [.int .i64 0,.int .i64 0,.slice none 0 0,.slice none 0 0] 42 .fix)))) _
 rw[<-h5d,a8 cp e4j]
 simp(disch:=omega)only[c35,↓R35,p5,os5,x5,↓l9,m9,zA,zB,zC,zD,zE,zF,zG,zH,zI,reduceCtorEq,zJ,zK,zL,zM]
 have o6:OldX a.s h5 (h5.upd a.s (.cells (P0 (v.rd r).now (v.rd r).first (v.rd r).again (v.rd r).read a.bu a.cas.length a.ou a.crv a.cv a.rv K9) 93 .fix)):=OldX.upd _ _ _
 have lt4:∀z,a.own (some k) z->z<h.next:=fun z hz=>lt3 z (by
  rcases hz with hz|hz|hz|hz| ⟨i,A',he,hA2,hz⟩|hz
  ·exact .inl hz
  ·exact .inr (.inl hz)
  ·exact .inr (.inr (.inl hz))
  ·exact .inr (.inr (.inr (.inl hz)))
  ·exact .inr (.inr (.inr (.inr (.inl ⟨i,A',by simp,hA2,hz⟩))))
  ·exact .inr (.inr (.inr (.inr (.inr hz)))))
 have S5:SrvAt h5 a (v.rd r) K9 (some k):=S4.keep (by omega) fun z hz hl=>by
  have:=lt4 z hz
  exact keep5 z (by omega) (by omega)
 have S6:=S5.upS o6 (a9 _ _ _)
 have c5:=c4.keep (h' :=h5) (by omega) fun z hz=>keep5 z (by have:=lt3 z (Alt z hz);omega) (by have:=lt3 z (Alt z hz);omega)
 have tA:¬A.own a.s:=fun hz=>by have:=S.tC k A a.s hA hz;rw[S.ts]at this;omega
 have c6:=c5.up o6 tA
 have oF:OldF (a.own none) h (h5.upd a.s (.cells (P0 (v.rd r).now (v.rd r).first (v.rd r).again (v.rd r).read a.bu a.cas.length a.ou a.crv a.cv a.rv K9) 93 .fix)):=⟨by rw[r9];omega,fun z hz hn=>by
  have hs:z≠a.s:=fun e=>hn (by rw[e];exact .inl rfl)
  rw[a6 _ _ hs,keep5 z (by omega) (by omega),o4.obj z (by omega) (fun hz' =>hn (Alt z hz')),oX3.obj z hz hs]⟩
 exact hQ _ oF (S6.in_ hA c6)
theorem d8Y(S:SrvAt h a v K9 none)(hA:a.cas[k]? =some A)(hc:v.cs[k]? =some c)(hw:c.w=true)(r n:Int)
  (hQ:∀h' u b,OldF (a.own none) h h' ->SrvAt h' a { v.rd r with cs:=v.cs.set k { c with qs:=c.qs.drop n.toNat } } K9 none->E3 h' 5 B8 u (c.qs.take n.toNat) b->h.next<=b->Q (.agg #[.int .i64 0,.int .i64 0,u,K9]) h'):
  u9 cp 15 [.pointer (some ⟨a.s,0,none⟩),.agg #[.int .i64 3,.int .i64 r,.int .i64 k,.slice none 0 0,.int .i64 n,.slice none 0 0]] h Q:=by
 rw[a8 cp e4i]
 refine a5F (CP:=cp) _ _ _ _ _ _ _ ?_
 have ck:k<a.cas.length:=(List.getElem?_eq_some_iff.1 hA).1
 have cn:=S.cn
 have ls:=S.ls
 obtain⟨h1,h1d⟩:∃h1,h1=((h.new (.cells [.pointer (some ⟨a.s,0,none⟩)] 35 .fix)).new (.cells [.int .i64 3,.int .i64 r,.int .i64 k,.slice none 0 0,.int .i64 n,.slice none 0 0] 45 .fix)).new (.cells [.int .i64 0,.int .i64 0,.slice none 0 0,.slice none 0 0] 42 .fix):=⟨_,rfl⟩
 have o1:Old h h1:=by rw[h1d];exact(((Old.refl h).more _).more _).more _
 have n1:h1.next=h.next+1+1+1:=by rw[h1d];rfl
 have p1:h1.obj h.next=.cells [.pointer (some ⟨a.s,0,none⟩)] 35 .fix:=by rw[h1d,f4 _ _ (by simp only[j0];omega),f4 _ _ (by simp only[j0];omega)];exact f9 _ _
 have q1:h1.obj (h.next+1)=.cells [.int .i64 3,.int .i64 r,.int .i64 k,.slice none 0 0,.int .i64 n,.slice none 0 0] 45 .fix:=by rw[h1d,f4 _ _ (by simp only[j0];omega)];exact f9 _ _
 have x1:h1.obj (h.next+1+1)=.cells [.int .i64 0,.int .i64 0,.slice none 0 0,.slice none 0 0] 42 .fix:=by rw[h1d];exact f9 _ _
 have S1:=S.old o1
 simp(disch:=omega)only[c15,↓R15,<-h1d,p1,q1,x1,E5,zN,↓a3C,↓a3D,↓l9,m9,zA,zB,zC,zD,zE,zF,zG,zH,zI,reduceCtorEq,zJ,zK,zL,zM]
 refine a2q S1.os r fun h2 u o2 nx2 os2=>?_
 have S2:SrvAt h2 a (v.rd r) K9 none:=S1.upS o2 os2
 have p2:=(o2.obj h.next (by omega) (by omega)).trans p1
 have q2:=(o2.obj (h.next+1) (by omega) (by omega)).trans q1
 have x2:=(o2.obj (h.next+1+1) (by omega) (by omega)).trans x1
 obtain⟨cap2,hv2,hcb,hgp⟩:=S2.V.get (i:=k) (p:=A.x) (by rw[uzJ,hA];rfl)
 have hgp:(h2.obj a.cb).get k=some (.pointer (some ⟨A.x,0,none⟩)):=hgp
 rw[uzL]at hv2
 rw[hv2]at os2
 have b1:decide ((3:Int)<0)=false:=by decide
 have b2:decide ((3:Int)>4)=false:=by decide
 have b3:decide ((k:Int)<0)=false:=dFz (by omega)
 have b4:decide ((k:Int)>=(a.cas.length:Int))=false:=dFz (by omega)
 obtain⟨h3,h3d,o3,n3,y3⟩:=T9 h2 (.cells [.int .i64 0,.int .i64 0,.slice none 0 0,.slice none 0 0] 42 .fix) (.cells [.int .i64 0,.int .i64 0,.slice none 0 0,.slice none 0 0] 42 .fix)
 have p3:=(o3.obj h.next (by omega)).trans p2
 have q3:=(o3.obj (h.next+1) (by omega)).trans q2
 have x3:=(o3.obj (h.next+1+1) (by omega)).trans x2
 have S3:=S2.old o3
 have c3:=S3.C k A c (by simp) hA hc
 have fo:=fun Q=>a1J c3 Q
 rw[hw]at fo
 simp(disch:=omega)only[c15,↓R15,p2,q2,x2,os2,b1,b2,b3,b4,hgp,y6,<-h3d,p3,q3,x3,fo,zN,uzS,↓a3C,↓a3D,↓l9,m9,zA,zB,zC,zD,zE,zF,zG,zH,zI,reduceCtorEq,zJ,zK,zL,zM]
 have oX3:OldX a.s h h3:=((o1.x _).trans o2).trans (o3.x _)
 have lt3:∀z,a.own none z->z<h.next:=fun z hz=>S.lt hz
 have Alt:∀z,A.own z->a.own none z:=fun z hz=> .inr (.inr (.inr (.inr (.inl ⟨k,A,by simp,hA,hz⟩))))
 refine d8Z c3 hw n fun h4 u b oX4 hb V4 c4=>?_
 have o4:OldF A.own h3 h4:=oX4.f (.inr (.inl rfl))
 obtain⟨ua,ucap,hu,_⟩:=V4.val
 obtain⟨ul,hul⟩:∃m,m=(c.qs.take n.toNat).length:=⟨_,rfl⟩
 rw[<-hul]at hu
 subst hu
 have n4:=o4.next
 have keep4:∀z,h.next<=z->z<h3.next->h4.obj z=h3.obj z:=fun z h1 h2=>o4.obj z h2 fun hz=>by
  have:=lt3 z (Alt z hz);omega
 have p4:=(keep4 h.next (by omega) (by omega)).trans p3
 have x4:=(keep4 (h.next+1+1) (by omega) (by omega)).trans x3
 have y4:=(keep4 h2.next (by omega) (by omega)).trans y3
 have S4:=(S3.out k).keepC hA o4
 have os4:=S4.os
 simp(disch:=omega)only[c15,↓R15,p4,x4,y4,os4,K9,↓b6y,↓l9,m9,zA,zB,zC,zD,zE,zF,zG,zH,zI,reduceCtorEq,zJ,zK,zL,zM]
 obtain⟨h5,h5d⟩:∃h5,h5=(((h4.upd h2.next (.cells [.int .i64 0,.int .i64 0,.slice ua ul ucap,.slice none 0 0] 42 .fix)).upd h2.next (.cells [.int .i64 0,.int .i64 0,.slice ua ul ucap,.slice none 0 0] 42 .fix)).upd (h.next+1+1) (.cells [.int .i64 0,.int .i64 0,.slice ua ul ucap,.slice none 0 0] 42 .fix)):=⟨_,rfl⟩
 have n5:h5.next=h4.next:=by rw[h5d];rfl
 have keep5:∀z,z≠h2.next->z≠h.next+1+1->h5.obj z=h4.obj z:=fun z e1 e2=>by rw[h5d];rw[a6 _ _ e2,a6 _ _ e1,a6 _ _ e1]
 have p5:=(keep5 h.next (by omega) (by omega)).trans p4
 have os5:=(keep5 a.s (by omega) (by omega)).trans os4
 have x5:h5.obj (h.next+1+1)=.cells [.int .i64 0,.int .i64 0,.slice ua ul ucap,.slice none 0 0] 42 .fix:=by rw[h5d];exact a9 _ _ _
 show u9 cp _ _ ((((h4.upd h2.next (.cells [.int .i64 0,.int .i64 0,.slice ua ul ucap,.slice none 0 0] 42 .fix)).upd h2.next (.cells [.int .i64 0,.int .i64 0,.slice ua ul ucap,.slice none 0 0] 42 .fix)).upd (h.next+1+1) (.cells [.int .i64 0,.int .i64 0,.slice ua ul ucap,.slice none 0 0] 42 .fix))) _
 rw[<-h5d,a8 cp e4j]
 simp(disch:=omega)only[c35,↓R35,p5,os5,x5,↓l9,m9,zA,zB,zC,zD,zE,zF,zG,zH,zI,reduceCtorEq,zJ,zK,zL,zM]
 have o6:OldX a.s h5 (h5.upd a.s (.cells (P0 (v.rd r).now (v.rd r).first (v.rd r).again (v.rd r).read a.bu a.cas.length a.ou a.crv a.cv a.rv K9) 93 .fix)):=OldX.upd _ _ _
 have lt4:∀z,a.own (some k) z->z<h.next:=fun z hz=>lt3 z (by
  rcases hz with hz|hz|hz|hz| ⟨i,A',he,hA2,hz⟩|hz
  ·exact .inl hz
  ·exact .inr (.inl hz)
  ·exact .inr (.inr (.inl hz))
  ·exact .inr (.inr (.inr (.inl hz)))
  ·exact .inr (.inr (.inr (.inr (.inl ⟨i,A',by simp,hA2,hz⟩))))
  ·exact .inr (.inr (.inr (.inr (.inr hz)))))
 have S5:SrvAt h5 a (v.rd r) K9 (some k):=S4.keep (by omega) fun z hz hl=>by
  have:=lt4 z hz
  exact keep5 z (by omega) (by omega)
 have S6:=S5.upS o6 (a9 _ _ _)
 have c5:=c4.keep (h' :=h5) (by omega) fun z hz=>keep5 z (by have:=lt3 z (Alt z hz);omega) (by have:=lt3 z (Alt z hz);omega)
 have tA:¬A.own a.s:=fun hz=>by have:=S.tC k A a.s hA hz;rw[S.ts]at this;omega
 have c6:=c5.up o6 tA
 have oF:OldF (a.own none) h (h5.upd a.s (.cells (P0 (v.rd r).now (v.rd r).first (v.rd r).again (v.rd r).read a.bu a.cas.length a.ou a.crv a.cv a.rv K9) 93 .fix)):=⟨by rw[r9];omega,fun z hz hn=>by
  have hs:z≠a.s:=fun e=>hn (by rw[e];exact .inl rfl)
  rw[a6 _ _ hs,keep5 z (by omega) (by omega),o4.obj z (by omega) (fun hz' =>hn (Alt z hz')),oX3.obj z hz hs]⟩
 refine hQ _ _ b oF (S6.in_ hA c6) (V4.keep (by rw[r9];omega) fun hl=>?_) (by omega)
 rw[a6 _ _ (by omega)]
 exact keep5 b (by omega) (by omega)
end
def d0m(ver rem ret:Int):List Int:=ver::(e1H rem++e1H ret)
theorem e0Q(op ver rem ret:Int):a2N op ver rem ret=168::1::0::18::(op+128)::d0m ver rem ret:=by
 unfold a2N J5 d0m e1H
 have:(([op+128,ver]++M1 8 (rem % 18446744073709551616))++M1 8 (ret % 18446744073709551616)).length=18:=by simp[E1]
 rw[this]
 simp
theorem a9f(op ver rem ret:Int)(hop:0<=op/\op<128)(hv:0<=ver/\ver<256):E4 (a2N op ver rem ret):=fun x hx=>by
 rw[e0Q]at hx
 simp only[vxz]at hx
 rcases hx with rfl|rfl|rfl|rfl|rfl|hx
 iterate 5 omega
 unfold d0m at hx
 rcases List.mem_cons.1 hx with rfl|hx
 ·omega
 ·exact((b0O _).app (b0O _)) x hx
theorem a4J{B now held cost ver ret:Int}(h:H9 B now held cost=some (ver,ret)):2<=ver/\ver<=3:=by
 unfold H9 at h
 split at h
 ·cases h;omega
 ·split at h
  ·cases h;omega
  ·split at h
   ·cases h;omega
   ·cases h
theorem a7E(R:RuleV)(rp:RP)(v:LV)(now held:Int)(key:ByteArray)(cost:Int):1<=(B3 R rp v now held key cost).1.1/\(B3 R rp v now held key cost).1.1<=3:=by
 unfold B3
 split
 ·rename_i hr
  have:=a4J hr
  exact⟨Int.le_trans (by decide) this.1,this.2⟩
 ·have h1:(1:Int)<=1/\(1:Int)<=3:=by decide
  have h2:(1:Int)<=2/\(2:Int)<=3:=by decide
  simp only
  split
  ·split
   ·exact h1
   ·exact h2
  ·split
   ·exact h1
   ·exact h2
theorem b5j(R:RuleV)(rp:RP)(v:LV)(now:Int)(key:ByteArray):(F8 R rp v now key).2.1.length<=2:=by
 unfold F8
 split
 ·exact vJz _
 ·split
  ·exact vLz _
  ·split
   ·exact vJz _
   ·split
    ·exact vJz _
    ·exact uzP _
theorem a3x(R:RuleV)(rp:RP)(v:LV)(now held:Int)(key:ByteArray)(cost:Int):(B3 R rp v now held key cost).2.1.length<=2:=by
 unfold B3
 split
 ·exact vJz _
 ·simp only
  split
  ·split<;>exact b5j _ _ _ _ _
  ·split<;>exact b5j _ _ _ _ _
section
variable {h:Heap} {a:LA} {v:LV}
theorem c8T(L:Lmt h a v){k tm:Int}(B:LB k tm v)(hk:k+1<=1000000000){now held cost:Int}(hnow:0<=now/\now<=tm){key:ByteArray}(hs:key.size<=64)
  (hQ:∀h' ev,OldF a.own h h' ->Lmt h' a (B3 a.R a.rp v now held key cost).2.2->e2O h h' ev (B3 a.R a.rp v now held key cost).2.1->
   Q (.tuple #[.agg #[.int .i64 (B3 a.R a.rp v now held key cost).1.1,.int .i64 (B3 a.R a.rp v now held key cost).1.2.1,.int .i64 (B3 a.R a.rp v now held key cost).1.2.2],ev]) h'):
  u9 cp 120 [.pointer (some ⟨a.p,0,none⟩),.int .i64 now,.int .i64 held,.string key,.int .i64 cost] h Q:=by
 cases hr:H9 a.R.B now held cost with
 |none=>exact d8u L B hk hnow hs hr hQ
 |some x=>
  obtain⟨ver,ret⟩:=x
  have e:B3 a.R a.rp v now held key cost=((ver,0,ret),[],v.cnt ver):=by unfold B3;rw[hr]
  rw[e]at hQ
  have inL:a.own a.p:=by
   have:=L.geo.il
   have:=L.geo.ib
   unfold LA.own;omega
  exact a7Z L now held cost key hr fun h' o L' =>hQ h' _ (o.f inL) L' (.inl ⟨rfl,rfl⟩)
end
def b1w(L:LA)(l:LimV)(v:LV):Prop:=∀h,LimAt h L l->Lmt h L v
theorem Lmt.rel{h:Heap}{L:LA}{v:LV}(M:Lmt h L v):∃l,LimAt h L l/\b1w L l v:=by
 obtain⟨tp,tu,os,ws,A,back⟩:=M.toAt
 exact⟨_,A,fun h' A' =>back h' v rfl rfl A'⟩
def evO(i:Int)(l:List EvT'):List EvT:=l.map fun e=>(i,e.2)
section
variable {h h' :Heap} {a:SrvA} {v:SrvV} {ev:Value} {ex:Option Nat}
def SrvA.ansF(a:SrvA)(N:Nat):Nat->Prop:=fun z=>z=a.s\/(∃(i:Nat) (L:LA),a.las[i]? =some L/\L.own z)\/(N<=z/\¬a.own none z)
def a3p(a:SrvA)(N:Nat)(evs:List EvT)(ev:Value)(eb:Nat):Prop:=evs=[]/\ev=.slice none 0 0\/¬a.own none eb/\N<=eb
theorem c7U(S:SrvAt h a v ev ex)(tv:v.T){q:ReqV}(rq:ReqOK a.las.length q)(hop:q.op=1){L:LA}{l:LimV}{x:LV}(hL:a.las[q.rule.toNat]? =some L)(hl:v.ls[q.rule.toNat]? =some l)(hx:b1w L l x)
  {k tm:Int} (B:LB k tm x) (hk:k+1<=1000000000) (hnow:0<=v.now/\v.now<=tm) {evs:List EvT} {eb N:Nat} (V:E3 h 123 EvE ev evs eb) (he:a3p a N evs ev eb) (hel:evs.length<=2000000000) (hN:N<=h.next) (hown:∀z,a.own none z->z<h.next)
  {r:(Int×Int×Int)×List EvT' ×LV} (hr:r=B3 L.R L.rp x v.now (Q5 v.now v.first v.again L.R.Wd) (bs q.key) q.cost) {Q:Value->Heap->Prop}
  (hQ:∀h' ev' eb' l' u b,OldF (a.ansF N) h h' ->SrvAt h' a { v with ls:=v.ls.set q.rule.toNat l' } ev' ex->b1w L l' r.2.2->E3 h' 123 EvE ev' (evs++evO q.rule r.2.1) eb' ->a3p a N (evs++evO q.rule r.2.1) ev' eb' ->
   E3 h' 5 B8 u (a2N 1 r.1.1 r.1.2.1 r.1.2.2) b->h.next<=b->Q u h'):
  u9 cp 117 [.pointer (some ⟨a.s,0,none⟩),q.val] h Q:=by
 rw[a8 cp c6U]
 have r1:=rq.rule
 obtain⟨i,hi⟩:∃i:Nat,q.rule=i:=⟨q.rule.toNat,by omega⟩
 rw[hi,vAz]at hL hl hQ
 have il:i<a.las.length:=(List.getElem?_eq_some_iff.1 hL).1
 obtain⟨h1,h1d,o1,n1,g1⟩:=K2 h (.cells [.int .i64 1,.int .i64 i,.int .u32 q.cost,.string (bs q.key),.int .i64 q.k] 61 .fix)
 have S1:=S.old o1
 have os:=S1.os
 have L1:=hx _ (S1.L i L l hL hl)
 have ok:=L1.geo.ok
 have okW:=ok.Wd
 obtain⟨cap,hv,hrd⟩:=S1.K.read (i:=i) (x:=L.R.t) (by rw[uzJ,hL];rfl)
 rw[uzL]at hv
 have hgw:(h1.obj a.kb).get (i*9+1)=some (.int .i64 L.R.Wd):=by
  have:=a0r (i:=1) hrd (by decide) (v:=.int .i64 L.R.Wd) rfl
  rwa [vsz]at this
 obtain⟨cap2,hv2,hrb,hgp⟩:=S1.W.get (i:=i) (p:=L.p) (by rw[uzJ,hL];rfl)
 rw[uzL]at hv2
 have hgp:(h1.obj a.rb).get i=some (.pointer (some ⟨L.p,0,none⟩)):=hgp
 have fN:=fun Q=>a1F os Q
 have fH:=fun Q=>a0A os L.R.Wd (by unfold D5;omega) (by omega) tv.first tv.now Q
 obtain⟨held,hheld⟩:∃held,held=Q5 v.now v.first v.again L.R.Wd:=⟨_,rfl⟩
 rw[<-hheld]at fH hr
 have os0:=os
 rw[hv,hv2]at os
 have wc:IntKind.i64.wrap q.cost=q.cost:=by have:=rq.cost;rw[R7];omega
 have ks:(bs q.key).size<=64:=by rw[a1B];exact rq.len
 unfold ReqV.val a1U
 rw[hi,hop]
 simp(disch:=omega)only[a0Q,↓a2k,<-h1d,g1,os,hgw,hgp,fN,fH,wc,zN,uzS,↓l9,m9,zA,zB,zC,zD,zE,zF,zG,zH,zI,reduceCtorEq,zJ,zK,zL,zM]
 refine c8T L1 B hk hnow ks fun h2 ce o2 L2 E2=>?_
 rw[<-hr]at L2 E2 ⊢
 obtain⟨⟨ver,rem,ret⟩,rl,x'⟩:=r
 have hver:1<=ver/\ver<=3:=by
  have:=a7E L.R L.rp x v.now held (bs q.key) q.cost
  rw[<-hr]at this;exact this
 have hrl:rl.length<=2:=by
  have:=a3x L.R L.rp x v.now held (bs q.key) q.cost
  rw[<-hr]at this;exact this
 simp only at L2 E2 hQ ⊢
 have n2:=o2.next
 obtain⟨l',A2,hx'⟩:=L2.rel
 have ownL:∀z,L.own z->z<h.next:=fun z hz=>uzN hz.2 (S.L i L l hL hl).lt
 have S2:=S1.upL hL o2 A2
 have g2:=(o2.obj h.next (by omega) (fun hz=>by have:=ownL _ hz;omega)).trans g1
 obtain⟨h3,h3d,o3,n3,q3⟩:=T9 h2 (.cells [.int .i64 0,.int .i64 0,.int .i64 0] 55 .fix) (.cells [.int .i64 ver,.int .i64 rem,.int .i64 ret] 55 .fix)
 have g3:=(o3.obj h.next (by omega)).trans g2
 have S3:=S2.old o3
 have eL:∀z,¬a.own none z->¬L.own z:=fun z hz hL' =>hz (.inr (.inr (.inr (.inr (.inr ⟨i,L,hL,hL'⟩)))))
 have V3:E3 h3 123 EvE ev evs eb:=by
  rcases he with⟨e1,e2⟩| ⟨e1,e2⟩
  ·rw[e1,e2];exact E3.nil _ _ _ _
  ·refine V.keep (by omega) fun hlb=>?_
   rw[o3.obj eb (by omega),o2.obj eb (by omega) (eL eb e1),o1.obj eb hlb]
 have oF3:OldF (a.ansF N) h h3:=((o1.f _).trans (o2.mono fun z hz=> .inr (.inl ⟨i,L,hL,hz⟩))).trans (o3.f _)
 obtain⟨ca,hce,hcr⟩:∃ca,ce=.slice ca rl.length rl.length/\∀(j:Nat) (e:EvT'),rl[j]? =some e->∃b,ca=some ⟨b,0,none⟩/\h.next<b/\b<h2.next/\(h2.obj b).read (j*4) 4=some (EvE'.enc e):=by
  rcases E2 with⟨e1,e2⟩| ⟨b,b1,b2,e1,e2⟩
  ·subst e1;exact⟨none,e2,fun j e hj=>by simp at hj⟩
  ·refine⟨_,e1,fun j e hj=>⟨b,rfl,by omega,b2,?_⟩⟩
   have V' :E3 h2 123 EvE' (.slice (some ⟨b,0,none⟩) rl.length rl.length) rl b:=.inr ⟨rl.length,[],rfl,b2,by rw[vtz];exact e2,by simp,uzP _⟩
   obtain⟨_,_,hh⟩:=V'.read hj
   rw[vsz]at hh;exact hh
 subst hce
 simp(disch:=omega)only[a0Q,↓a2k,<-h3d,q3,g3,↓l9,m9,zA,zB,zC,zD,zE,zF,zG,zH,zI,reduceCtorEq,zJ,zK,zL,zM]
 refine A6 cp a2P _ (fun d e hh=>∃(j:Nat) (ev' :Value) (eb' :Nat),j+d=rl.length/\OldF (a.ansF N) h hh/\h3.next<=hh.next/\(∀z,h.next<=z->z<h3.next->hh.obj z=h3.obj z)/\SrvAt hh a { v with ls:=v.ls.set i l' } ev' ex/\E3 hh 123 EvE ev' (evs++evO i (rl.take j)) eb' /\a3p a N (evs++evO i (rl.take j)) ev' eb' /\(ev' =.slice none 0 0\/eb' <h.next\/h3.next<=eb')/\
   e 0=.pointer (some ⟨a.s,0,none⟩)/\e 3=.pointer (some ⟨h.next,0,none⟩)/\e 8=.pointer (some ⟨h2.next,0,none⟩)/\e 54=.slice ca rl.length rl.length/\e 55=.int .i64 (rl.length:Int)/\e 56=.int .i64 (j:Int)) ?_ rl.length _ _
   ⟨0,ev,eb,by omega,oF3,uzP _,fun z _ _=>rfl,S3,by rw[List.take_zero];show E3 _ _ _ _ (evs++[]) _;rw[vtz];exact V3,by rw[List.take_zero];show a3p _ _ (evs++[]) _ _;rw[vtz];exact he,?_,rfl,rfl,rfl,rfl,rfl,rfl⟩
 rotate_left
 ·rcases V with⟨e1,_⟩| ⟨_,_,_,e1,_⟩
  ·exact .inl e1
  ·exact .inr (.inl e1)
 rintro d e hh ⟨j,ev',eb',hj,oh,nh,kh,Sh,Vh,fh,hebb,e0,e3,e8,e54,e55,e56⟩
 have ohn:=oh.next
 have q4:=(kh h2.next (by omega) (by omega)).trans q3
 have g4:=(kh h.next (by omega) (by omega)).trans g3
 by_cases cj:j<rl.length
 rotate_left
 ·have b1:decide ((j:Int)<(rl.length:Int))=false:=dFz (by omega)
  obtain rfl:j=rl.length:=by omega
  simp(disch:=omega)only[a2P,a0Q,↓a2k,e0,e3,e8,e54,e55,e56,b1,q4,g4,↓l9,m9,zA,zB,zC,zD,zE,zF,zG,zH,zI,reduceCtorEq,zJ,zK,zL,zM]
  refine a4b hh 1 (.inl rfl) ver rem ret (by omega) fun h4 u b V4 o4 hb=>?_
  simp(disch:=omega)only[a0Q,↓a2k,↓l9,m9,zA,zB,zC,zD,zE,zF,zG,zH,zI,reduceCtorEq,zJ,zK,zL,zM]
  rw[List.take_length]at Vh fh
  exact hQ h4 ev' eb' l' u b (oh.trans (o4.f _)) (Sh.old o4) hx' (Vh.old o4) fh V4 (by omega)
 have b1:decide ((j:Int)<(rl.length:Int))=true:=dTz (by omega)
 have hxe:rl[j]? =some rl[j]:=uzF cj
 obtain⟨y,hy⟩:∃y,y=rl[j]:=⟨_,rfl⟩
 rw[<-hy]at hxe
 obtain⟨b,hca,hb1,hb2,hbr⟩:=hcr j y hxe
 have hbr:(hh.obj b).read (j*4) 4=some (EvE'.enc y):=by rw[kh b (by omega) (by omega),o3.obj b hb2];exact hbr
 obtain⟨y1,y2,y3,y4⟩:=y
 have hbr:(hh.obj b).read (j*4) 4=some [.int .i64 y1,.string y2,.bool y3,.int .i64 y4]:=hbr
 subst hca
 obtain⟨ea,ecap,rfl,_⟩:=Vh.val
 have osh:=Sh.os
 have lsh:=Sh.ls
 have nx:(j:Int)+1=((j+1:Nat):Int):=by omega
 have wj:IntKind.i64.wrap ((j+1:Nat):Int)=((j+1:Nat):Int):=by rw[R7];omega
 have tj:evs++evO i (rl.take (j+1))=(evs++evO i (rl.take j))++[((i:Int),y2,y3,y4)]:=by
  rw[I7 hxe];unfold evO;rw[List.map_append,vvz];rfl
 obtain⟨h4,h4d⟩:∃h4,h4=((hh.new (.cells [.int .i64 0,.string ⟨#[]⟩,.bool false,.int .i64 0] 123 .fix)).upd hh.next (.cells [.int .i64 y1,.string y2,.bool y3,.int .i64 y4] 123 .fix)).upd hh.next (.cells [.int .i64 i,.string y2,.bool y3,.int .i64 y4] 123 .fix):=⟨_,rfl⟩
 have o4:Old hh h4:=by rw[h4d];exact⟨vLz _,fun z hz=>by rw[a6 _ _ (by omega),a6 _ _ (by omega),f4 _ _ (by omega)]⟩
 have n4:h4.next=hh.next+1:=by rw[h4d];rfl
 have p4:h4.obj hh.next=.cells [.int .i64 i,.string y2,.bool y3,.int .i64 y4] 123 .fix:=by rw[h4d];exact a9 _ _ _
 have os4:=(o4.obj a.s lsh).trans osh
 obtain⟨h5,h5d,o5,n5,_⟩:=K2 h4 (.cells [.int .i64 i,.string y2,.bool y3,.int .i64 y4] 123 .grow)
 have src5:D1 h5 4 (.slice (some ⟨h4.next,0,none⟩) 1 1)=some (EvE.all [((i:Int),y2,y3,y4)],[((i:Int),y2,y3,y4)].length):=by
  rw[h5d];exact O9 EvE h4 ((i:Int),y2,y3,y4) _ 1
 have V5:=(Vh.old o4).old o5
 have g4' :=(o4.obj h.next (by omega)).trans g4
 simp(disch:=omega)only[a2P,a0Q,↓a2k,e0,e3,e8,e54,e55,e56,b1,q4,g4,hbr,y6,<-h4d,p4,g4',os4,G0,vtz,↓l9,m9,zA,zB,zC,zD,zE,zF,zG,zH,zI,reduceCtorEq,zJ,zK,zL,zM]
 rw[<-h5d]
 have hlen:(evs++evO i (rl.take j)).length<=2000000002:=by
  unfold evO
  rw[uzG,uzL,vqz];omega
 have s0:(evs++evO i (rl.take j)).length+[((i:Int),y2,y3,y4)].length=(evs++evO i (rl.take j)).length+1:=rfl
 obtain⟨eb2,V5,fr,fr2⟩:∃eb2,E3 h5 123 EvE (.slice ea (evs++evO i (rl.take j)).length ecap) (evs++evO i (rl.take j)) eb2/\(¬a.own none eb2/\N<=eb2)/\(eb2<h.next\/h3.next<=eb2):=by
  rcases fh with⟨e1,e2⟩|e
  ·rw[e1]at e2 ⊢
   rw[e2]
   exact⟨h5.next,E3.nil _ _ _ _,⟨fun hz=>by have:=hown _ hz;omega,by omega⟩,.inr (by omega)⟩
  ·rcases hebb with hebb|hebb
   ·rw[hebb]
    rcases V5 with⟨e1,e2⟩| ⟨_,_,e1,_⟩
    ·rw[e2]
     exact⟨h5.next,E3.nil _ _ _ _,⟨fun hz=>by have:=hown _ hz;omega,by omega⟩,.inr (by omega)⟩
    ·rw[e1]at hebb;simp at hebb
   ·exact⟨eb',V5,e,hebb⟩
 refine V5.app (m:=[((i:Int),y2,y3,y4)]) rfl src5 (by rw[s0];omega) (by rw[s0];omega) fun v6 h6 b6 V6 n6 hb6 ho6=>?_
 rw[<-tj]at V6
 have own0:∀z,a.own ex z->a.own none z:=fun z hz=>by
  rcases hz with hz|hz|hz|hz| ⟨i,A',he,hA2,hz⟩|hz
  ·exact .inl hz
  ·exact .inr (.inl hz)
  ·exact .inr (.inr (.inl hz))
  ·exact .inr (.inr (.inr (.inl hz)))
  ·exact .inr (.inr (.inr (.inr (.inl ⟨i,A',by simp,hA2,hz⟩))))
  ·exact .inr (.inr (.inr (.inr (.inr hz))))
 have ne6:∀z,a.own none z->z<h5.next->h6.obj z=h5.obj z:=fun z hz hl=>ho6 z hl (.inr fun e=>fr.1 (e▸hz))
 have S6:SrvAt h6 a { v with ls:=v.ls.set i l' } (.slice ea (evs++evO i (rl.take j)).length ecap) ex:=((Sh.old o4).old o5).keep n6 fun z hz hl=>ne6 z (own0 z hz) hl
 have os6:=S6.os
 have sown:a.own none a.s:=.inl rfl
 have hfree:¬a.own none b6/\N<=b6:=by
  rcases hb6 with rfl|hb6
  ·exact fr
  ·exact⟨fun hz=>by have:=hown _ hz;omega,by omega⟩
 have hb7:b6<h.next\/h3.next<=b6:=by
  rcases hb6 with rfl|hb6
  ·exact fr2
  ·exact .inr (by omega)
 have aslt:=hown _ sown
 have bne:b6≠a.s:=fun e=>hfree.1 (by rw[e];exact sown)
 obtain⟨va6,vc6,rfl,_⟩:=V6.val
 obtain⟨h7,h7d⟩:∃h7,h7=h6.upd a.s (.cells (P0 v.now v.first v.again v.read a.bu a.cas.length a.ou a.crv a.cv a.rv (.slice va6 (evs++evO i (rl.take (j+1))).length vc6)) 93 .fix):=⟨_,rfl⟩
 have o7:OldX a.s h6 h7:=by rw[h7d];exact OldX.upd _ _ _
 have n7:h7.next=h6.next:=by rw[h7d];rfl
 have g7:h7.obj a.s=.cells (P0 v.now v.first v.again v.read a.bu a.cas.length a.ou a.crv a.cv a.rv (.slice va6 (evs++evO i (rl.take (j+1))).length vc6)) 93 .fix:=by rw[h7d];exact a9 _ _ _
 have S7:=S6.upS o7 g7
 simp(disch:=omega)only[a2P,a0Q,↓a2k,e0,e3,e8,e54,e55,e56,os6,nx,wj,y6,<-h7d,↓l9,m9,zA,zB,zC,zD,zE,zF,zG,zH,zI,reduceCtorEq,zJ,zK,zL,zM]
 refine⟨d-1,by omega,j+1,_,b6,by omega,?_,by omega,fun z z1 z2=>?_,S7,V6.keep (by omega) fun hl=>o7.obj b6 hl bne,.inr hfree,.inr hb7,?_⟩
 ·refine oh.trans ⟨by omega,fun z hz hn=>?_⟩
  have z1:z≠a.s:=fun e=>hn (.inl e)
  rw[h7d,a6 _ _ z1,ho6 z (by omega) (.inr fun e=>hn (.inr (.inr (e▸⟨fr.2,fr.1⟩)))),o5.obj z (by omega),o4.obj z hz]
 ·rw[h7d,a6 _ _ (by omega),ho6 z (by omega) (.inr (by omega)),o5.obj z (by omega),o4.obj z (by omega)]
  exact kh z z1 z2
 ·repeat' first|assumption|rfl|apply And.intro
end
end Go.Proofs.YtlakhgibjfmjjaaGreat.Can
