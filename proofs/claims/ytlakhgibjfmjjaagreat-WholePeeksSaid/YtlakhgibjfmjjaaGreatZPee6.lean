/- Part 6 of 6 of the proof of the row RowWholePeeks: whatever the input, the law returns true. No condition. -/
import Derived.Test.YtlakhgibjfmjjaaGreatZPee5
import Derived.Below
import Derived.ChangeOld
import Derived.KernelRfl
import Derived.Maps.RangeRun
import Derived.OpenShut
import Derived.ProofKit
import Derived.ShutString
import Derived.SizedLaws
import Derived.Test.YtlakhgibjfmjjaaGreatProg
import Derived.Test.YtlakhgibjfmjjaaGreatRows
import Derived.WalkKit
set_option linter.unusedSimpArgs false
set_option linter.unusedVariables false
set_option linter.defProp false
set_option maxHeartbeats 4000000
open Nat renaming reduceEqDiff → zA, reduceAdd → zB, reduceMul → zC, reduceSub → zD, reduceLT → zE, reduceLeDiff → zF, reduceBEq → zG, lt_of_lt_of_le → uzN, le_refl → uzP, le_trans → uzR, mul_one → uzS, lt_succ_self → vpz, zero_add → vsz, le_of_not_lt → vGz, zero_le → vJz, le_succ → vLz
open Int renaming reduceLT → zH, reduceLE → zI, reduceToNat → zJ, reduceAdd → zK, reduceSub → zL, reduceMul → zM, reduceBEq → zN, mul_nonneg → uzO, le_refl → uzQ, toNat_natCast → vAz, mul_le_mul → vHz
open Option renaming some.inj → uzA, some.injEq → uzC, map_eq_some_iff → uzD, map_some → vlz, getD_some → vFz
open Prod renaming mk.injEq → uzB
open List renaming getElem?_eq_getElem → uzF, length_append → uzG, getElem?_set_self → uzH, getElem?_set_ne → uzI, getElem?_map → uzJ, mem_of_getElem? → uzK, length_map → uzL, length_cons → uzM, replicate → vaz, set_cons_zero → vbz, getD_eq_getElem?_getD → vcz, length_singleton → vdz, set_cons_succ → vez, length_set → viz, length_nil → vkz, getElem?_eq_none → vmz, take_of_length_le → vnz, length_take → vqz, nil_append → vrz, append_nil → vtz, append_assoc → vvz, drop_zero → vwz, mem_cons_self → vyz, cons_append → vCz, mem_or_eq_of_mem_set → vIz
open Bool renaming false_eq_true → vgz, and_eq_true → vjz
namespace Go.Proofs.YtlakhgibjfmjjaaGreat.Can
open Go
attribute [local congr] u5 u4 l5 l8 r8 s9 u6 w9 u7
variable {Q : Value → Heap → Prop}
def a0J(R:RuleV)(rp:RP)(v:LV)(now:Int)(key:ByteArray):Option F1:=
 match plK R.C v.P.keys key with
 |some i=>some (A5 v i)
 |none=>if v.P.fl=[]/\(Y1 R.Wd now v.P 0 R.C).isSome=false then none else some (now,now,V9 rp v.G key,0)
def a9b(ret:Int):Int:=if 0<ret then 2 else 1
def N5(R:RuleV)(rp:RP)(v:LV)(now held:Int)(key:ByteArray)(cost:Int):(Int×Int×Int)×LV:=
 match H9 R.B now held cost with
 |some (ver,ret)=>((ver,0,ret),v)
 |none=>
  let w:LV:={ v with G:=toG v.G now }
  match a0J R rp w now key with
  |some c=>((a9b (a0P R c now cost),a0L R c now,a0P R c now cost),w)
  |none=>((a9b (a0c rp w.G.now w.G.st w.G.cs key cost),a0w R (R.L-V9 rp w.G key),a0c rp w.G.now w.G.st w.G.cs key cost),w)
section
variable {h:Heap} {a:LA} {v:LV}
theorem e1X(L:Lmt h a v){k tm:Int}(B:LB k tm v){now held cost:Int}(hnow:0<=now/\now<=tm){key:ByteArray}(hs:key.size<=64)
  (hQ:∀h',OldF a.own h h' ->Lmt h' a (N5 a.R a.rp v now held key cost).2->Q (.agg #[.int .i64 (N5 a.R a.rp v now held key cost).1.1,.int .i64 (N5 a.R a.rp v now held key cost).1.2.1,.int .i64 (N5 a.R a.rp v now held key cost).1.2.2]) h'):
  u9 cp 122 [.pointer (some ⟨a.p,0,none⟩),.int .i64 now,.int .i64 held,.string key,.int .i64 cost] h Q:=by
 rw[a8 cp e5r]
 obtain⟨h1,h1d,o1,n1,g1⟩:=K2 h (.cells [.int .i64 0,.int .i64 0,.int .i64 0] 55 .fix)
 simp(disch:=omega)only[a8L,↓b5O,<-h1d,↓l9,m9,zA,zB,zC,zD,zE,zF,zG,zH,zI,reduceCtorEq,zJ,zK,zL,zM]
 refine a8e (L.old o1) now held cost fun h2 o2=>?_
 have n2:=o2.next
 have g2:=(o2.obj h.next (by omega)).trans g1
 have lt:=L.geo.lt
 have own5:∀z,a.b5<=z->¬a.own z:=fun z hz h=>by have:=h.2;omega
 cases hr:H9 a.R.B now held cost with
 |some x=>
  obtain⟨ver,ret⟩:=x
  have e:N5 a.R a.rp v now held key cost=((ver,0,ret),v):=by unfold N5;rw[hr]
  rw[e]at hQ
  obtain⟨h3,h3d,o3,n3,q3⟩:=T9 h2 (.cells [.int .i64 0,.int .i64 0,.int .i64 0] 55 .fix) (.cells [.int .i64 ver,.int .i64 0,.int .i64 ret] 55 .fix)
  have g3:=(o3.obj h.next (by omega)).trans g2
  simp(disch:=omega)only[a8L,↓b5O,vlz,vFz,Option.isSome_some,<-h3d,q3,g3,setAt,vbz,vez,a9,E5,↓l9,m9,zA,zB,zC,zD,zE,zF,zG,zH,zI,reduceCtorEq,zJ,zK,zL,zM]
  refine hQ _ ⟨by show h.next<=h3.next;omega,fun z hz _=>by rw[a6 _ _ (by omega),o3.obj z (by omega),o2.obj z (by omega),o1.obj z hz]⟩ ?_
  exact(((L.old o1).old o2).old o3).oldF (OldF.upd (F:=fun z=>z=h.next) _ _ _ rfl) fun z hz he=>own5 z (by omega) hz
 |none=>
  obtain⟨r1,r2,r3,r4⟩:=a1s hr
  have okB:=L.geo.ok.B
  have okL:=L.geo.ok.L
  have pk:=RuleV.pace L.geo.ok
  have t0:=B.t0
  have k0:=B.k0
  have bn:=B.now
  obtain⟨h3,h3d,o3,n3,_⟩:=T9 h2 (.cells [.int .i64 0,.int .i64 0,.int .i64 0] 55 .fix) (.cells [.int .i64 0,.int .i64 0,.int .i64 0] 55 .fix)
  have L3:=(((L.old o1).old o2).old o3)
  have ol3:=L3.ol
  simp(disch:=omega)only[a8L,↓b5O,Option.map_none,Option.getD_none,Option.isSome_none,<-h3d,ol3,↓l9,m9,zA,zB,zC,zD,zE,zF,zG,zH,zI,reduceCtorEq,zJ,zK,zL,zM]
  refine e2L L3.G now fun h4 o4 G4=>?_
  have L4:=L3.setG (g:=toG v.G now) ⟨o4.next,fun z hz hn=>o4.obj z hz fun e=>hn (.inl e)⟩ G4
  have ol4:=L4.ol
  have n4:=o4.next
  have pn:=L.geo.pn
  have gx:a.own a.rp.x:=L.gOwn (.inl rfl)
  have oA4:OldF a.own h h4:=((((o1.trans o2).trans o3).f _)).trans ⟨o4.next,fun z hz hn=>o4.obj z hz fun e=>hn (e▸gx)⟩
  simp(disch:=omega)only[a8L,↓b5O,ol4,↓l9,m9,zA,zB,zC,zD,zE,zF,zG,zH,zI,reduceCtorEq,zJ,zK,zL,zM]
  refine b5b L4.P (by omega) fun h5 o5=>?_
  rw[pn]
  have n5:=o5.next
  have L5:=L4.old o5
  have ol5:=L5.ol
  have sm:∀z,0<=z->z<=tm+8192\/z<=5000*(k+1)->Cl.Small z:=fun z h1 h2=>by unfold Cl.Small;omega
  have sN:=sm _ hnow.1 (.inl (by omega))
  simp(disch:=omega)only[a8L,↓b5O,ol4,ol5,List.drop_succ_cons,vwz,List.take_succ_cons,List.take_zero,↓l9,m9,zA,zB,zC,zD,zE,zF,zG,zH,zI,reduceCtorEq,zJ,zK,zL,zM]
  refine b5e L5.P pk (fun i c hc=>sm _ (B.cells i c hc).2.1.1 (.inl (by have:=(B.cells i c hc).2.1.2;omega))) sN fun h6 o6=>?_
  rw[pn]
  have n6:=o6.next
  have L6:=L5.old o6
  have ol6:=L6.ol
  obtain⟨w,hw⟩:∃w:LV,w={ v with G:=toG v.G now }:=⟨_,rfl⟩
  rw[<-hw]at L4 L5 L6
  have wP:w.P=v.P:=by rw[hw]
  have wB:LB k tm w:=by rw[hw];exact⟨B.k0,B.t0,B.cells,B.pos,B.bd,by show 0<=max v.G.now now/\max v.G.now now<=tm;omega,B.tot⟩
  have pl:N5 a.R a.rp v now held key cost=(match a0J a.R a.rp w now key with
    |some c=>((a9b (a0P a.R c now cost),a0L a.R c now,a0P a.R c now cost),w)
    |none=>((a9b (a0c a.rp w.G.now w.G.st w.G.cs key cost),a0w a.R (a.R.L-V9 a.rp w.G key),a0c a.rp w.G.now w.G.st w.G.cs key cost),w)):=by
   rw[hw];unfold N5;rw[hr]
  have oA6:OldF a.own h h6:=(oA4.trans (o5.f _)).trans (o6.f _)
  have g6:h6.obj h.next=.cells [.int .i64 0,.int .i64 0,.int .i64 0] 55 .fix:=by
   rw[o6.obj h.next (by omega),o5.obj h.next (by omega),o4.obj h.next (by omega) (fun e=>own5 h.next lt (by rw[e];exact gx)),o3.obj h.next (by omega)];exact g2
  obtain⟨id,hid⟩:∃id,id=Y1 a.R.Wd now v.P 0 a.R.C:=⟨_,rfl⟩
  rw[show Y1 a.R.Wd now ({ v with G:=toG v.G now }:LV).P 0 a.R.C=id from hid.symm]
  unfold c7i
  have hW:=L.G.hW
  have hN:=L.G.hN
  have hwlen:w.P.cells.length=a.pa.n:=L6.P.ok.len
  have fin:∀(hh:Heap) (q:Nat) (rem ret:Int) (e:a7),Lmt hh a w->OldF a.own h6 hh->h6.next<=q/\q<hh.next->hh.obj q=.cells [.int .i64 1,.int .i64 rem,.int .i64 ret] 55 .fix->e 10=.pointer (some ⟨h.next,0,none⟩)->e 17=.pointer (some ⟨q,0,none⟩)->N5 a.R a.rp v now held key cost=((a9b ret,rem,ret),w)->
    H1 cp (a1a e) hh (a1X cp (.cond (fun e=>e 123) (.region a1b) .skip) (a1X cp (.seq (.region a1c) .ret) (a1t [.c 10 (some 3)] Q))):=by
   intro hh q rem ret e Lh oh nh qh e10 e17 hp
   rw[hp]at hQ
   have gh:hh.obj h.next=.cells [.int .i64 0,.int .i64 0,.int .i64 0] 55 .fix:=(oh.obj _ (by omega) (own5 _ lt)).trans g6
   have res:∀(ver:Int) (hx:Heap),hx.next=hh.next->(∀z,z≠q->hx.obj z=hh.obj z)->OldF a.own h (hx.upd h.next (.cells [.int .i64 ver,.int .i64 rem,.int .i64 ret] 55 .fix))/\Lmt (hx.upd h.next (.cells [.int .i64 ver,.int .i64 rem,.int .i64 ret] 55 .fix)) a w:=fun ver hx hn ho=>by
    refine⟨⟨by rw[r9];omega,fun z hz hn=>?_⟩,Lh.keep (by rw[r9];omega) fun z hz=>?_⟩
    ·rw[a6 _ _ (by omega),ho z (by omega),oh.obj z (by omega) hn];exact oA6.obj z hz hn
    ·have:=hz.2
     have:=Lh.geo.lt
     rw[a6 _ _ (fun e=>own5 z (by omega) hz),ho z (fun e=>own5 z (by omega) hz)]
   by_cases hr0:ret>0
   ·have b1:=dTz hr0
    have ev:a9b ret=2:=if_pos hr0
    rw[ev]at hQ
    obtain⟨hx,hxd⟩:∃hx,hx=hh.upd q (.cells [.int .i64 2,.int .i64 rem,.int .i64 ret] 55 .fix):=⟨_,rfl⟩
    have qx:hx.obj q=.cells [.int .i64 2,.int .i64 rem,.int .i64 ret] 55 .fix:=by rw[hxd];exact a9 _ _ _
    have gx' :hx.obj h.next=.cells [.int .i64 0,.int .i64 0,.int .i64 0] 55 .fix:=by rw[hxd,a6 _ _ (by omega)];exact gh
    simp(disch:=omega)only[a8L,↓b5O,e10,e17,qh,b1,setAt,vbz,vez,<-hxd,qx,gx',a9,E5,↓l9,m9,zA,zB,zC,zD,zE,zF,zG,zH,zI,reduceCtorEq,zJ,zK,zL,zM]
    obtain⟨r1,r2⟩:=res 2 hx (by rw[hxd];rfl) fun z hz=>by rw[hxd];exact a6 _ _ hz
    exact hQ _ r1 r2
   ·have b1:=dFz hr0
    have ev:a9b ret=1:=if_neg hr0
    rw[ev]at hQ
    simp(disch:=omega)only[a8L,↓b5O,e10,e17,qh,b1,gh,setAt,vbz,vez,a9,E5,↓l9,m9,zA,zB,zC,zD,zE,zF,zG,zH,zI,reduceCtorEq,zJ,zK,zL,zM]
    obtain⟨r1,r2⟩:=res 1 hh rfl fun z _=>rfl
    exact hQ _ r1 r2
  have cel:∀(hh:Heap) (e:a7) (b o:Nat) (c:F1),Lmt hh a w->OldF a.own h6 hh->h6.next<=hh.next->b<hh.next->(∀h' :Heap,(∀z,z<hh.next->h'.obj z=hh.obj z)->(h'.obj b).read o 4=some [.int .i64 c.1,.int .i64 c.2.1,.int .i64 c.2.2.1,.int .i64 c.2.2.2])->(0<=c.1/\c.1<=tm+8192)/\(0<=c.2.1/\c.2.1<=tm)/\(0<=c.2.2.1/\c.2.2.1<=5000*(k+1))/\(0<=c.2.2.2/\c.2.2.2<=5000*(k+1))->
    e 0=.pointer (some ⟨a.p,0,none⟩)->e 1=.int .i64 now->e 3=.string key->e 4=.int .i64 cost->e 10=.pointer (some ⟨h.next,0,none⟩)->e 13=.pointer (some ⟨b,o,none⟩)->a0J a.R a.rp w now key=some c->
    H1 cp (a0j e) hh (a1X cp (.seq (.seq (.region a0k) (.cond (fun e=>e 76) (.seq (.region a0S) (.region a0U)) (.seq (.region a0W) (.region a0Z)))) (.seq (.seq (.region a1a) (.cond (fun e=>e 123) (.region a1b) .skip)) (.seq (.region a1c) .ret))) (a1t [.c 10 (some 3)] Q)):=by
   intro hh e b o c Lh oh nh hb rd bc e0 e1 e3 e4 e10 e13 hc
   obtain⟨c1,c2,c3,c4⟩:=bc
   have sF:=sm _ c1.1 (.inl c1.2)
   have sS:=sm _ c2.1 (.inl (by omega))
   have sC:=sm _ c3.1 (.inr c3.2)
   have sU:=sm _ c4.1 (.inr c4.2)
   obtain⟨h7,h7d,o7,n7,q7⟩:=T9 hh (.cells [.int .i64 0,.int .i64 0,.int .i64 0] 55 .fix) (.cells [.int .i64 1,.int .i64 0,.int .i64 0] 55 .fix)
   have L7:=Lh.old o7
   have ol7:=L7.ol
   have rd7:=rd h7 fun z hz=>o7.obj z hz
   simp(disch:=omega)only[a0j,a0k,a0S,a0T,e0,e1,e3,e4,e10,e13,y6,setAt,vbz,vez,<-h7d,rd7,ol7,E5,List.drop_succ_cons,vwz,List.take_succ_cons,List.take_zero,↓l9,m9,zA,zB,zC,zD,zE,zF,zG,zH,zI,reduceCtorEq,zJ,zK,zL,zM]
   refine Cl.room_ok h7 pk sF sS sC sU sN fun h8 o8=>?_
   have n8:=o8.next
   have q8:=(o8.obj hh.next (by omega)).trans q7
   have hrc:Cl.room c.1 c.2.1 c.2.2.1 c.2.2.2 a.R.u a.R.Wd a.R.B a.R.L now=a0L a.R c now:=rfl
   have hwc:Cl.wait c.1 c.2.1 c.2.2.1 c.2.2.2 a.R.u a.R.Wd a.R.B a.R.L now cost=a0P a.R c now cost:=rfl
   obtain⟨h9,h9d⟩:∃h9,h9=h8.upd hh.next (.cells [.int .i64 1,.int .i64 (a0L a.R c now),.int .i64 0] 55 .fix):=⟨_,rfl⟩
   have q9:h9.obj hh.next=.cells [.int .i64 1,.int .i64 (a0L a.R c now),.int .i64 0] 55 .fix:=by rw[h9d];exact a9 _ _ _
   have n9:h9.next=h8.next:=by rw[h9d];rfl
   have o9:OldF (fun z=>z=hh.next) h8 h9:=by rw[h9d];exact OldF.upd _ _ _ rfl
   have L9:=((L7.old o8).oldF o9 fun z hz he=>own5 z (by omega) hz)
   have ol9:=L9.ol
   have k9:∀z,z<hh.next->h9.obj z=hh.obj z:=fun z hz=>by rw[o9.obj z (by omega) (by omega),o8.obj z (by omega),o7.obj z hz]
   have rd9:=rd h9 k9
   rw[hrc]
   simp(disch:=omega)only[a0U,a0V,e0,e1,e3,e4,e10,e13,q8,setAt,vbz,vez,<-h9d,rd9,ol9,E5,List.drop_succ_cons,vwz,List.take_succ_cons,List.take_zero,↓l9,m9,zA,zB,zC,zD,zE,zF,zG,zH,zI,reduceCtorEq,zJ,zK,zL,zM]
   refine Cl.cwait_ok h9 pk sF sS sC sU sN r1 r2 fun h10 o10=>?_
   have n10:=o10.next
   have q10:=(o10.obj hh.next (by omega)).trans q9
   obtain⟨h11,h11d⟩:∃h11,h11=h10.upd hh.next (.cells [.int .i64 1,.int .i64 (a0L a.R c now),.int .i64 (a0P a.R c now cost)] 55 .fix):=⟨_,rfl⟩
   have q11:h11.obj hh.next=.cells [.int .i64 1,.int .i64 (a0L a.R c now),.int .i64 (a0P a.R c now cost)] 55 .fix:=by rw[h11d];exact a9 _ _ _
   have n11:h11.next=h10.next:=by rw[h11d];rfl
   have o11:OldF (fun z=>z=hh.next) h10 h11:=by rw[h11d];exact OldF.upd _ _ _ rfl
   have L11:=((L9.old o10).oldF o11 fun z hz he=>own5 z (by omega) hz)
   rw[hwc]
   simp(disch:=omega)only[e0,e1,e3,e4,e10,e13,q10,setAt,vbz,vez,<-h11d,E5,↓l9,m9,zA,zB,zC,zD,zE,zF,zG,zH,zI,reduceCtorEq,zJ,zK,zL,zM]
   refine fin h11 hh.next _ _ _ L11 ?_ ⟨nh,by omega⟩ q11 e10 rfl (by rw[pl,hc])
   exact oh.trans ⟨by omega,fun z hz _=>by rw[o11.obj z (by omega) (by omega),o10.obj z (by omega)];exact k9 z hz⟩
  cases hf:plK a.R.C v.P.keys key with
  |some i=>
   have hfw:plK a.R.C w.P.keys key=some i:=by rw[wP];exact hf
   have hiC:=(F9 hf).1
   have pn' :a.pa.n=a.R.C:=pn
   have hci:w.P.cells[i]? =some (A5 w i):=by unfold A5;rw[vcz,uzF (by omega)];rfl
   have hpc:a0J a.R a.rp w now key=some (A5 w i):=by unfold a0J;rw[hfw]
   obtain⟨c1,c2,c3,c4⟩:=wB.cells i _ hci
   obtain⟨tab6,p6,_⟩:=L6.P.at_
   have cb6:=L6.P.lt a.pa.cb (by simp[PA.own])
   have oc6:=p6.oc
   simp(disch:=omega)only[Q7,a1C,Q8,vlz,E5,↓l9,m9,zA,zB,zC,zD,zE,zF,zG,zH,zI,reduceCtorEq,zJ,zK,zL,zM]
   refine cel h6 _ a.pa.cb (i*4) (A5 w i) L6 (OldF.refl _ _) (uzP _) cb6 (fun h' hk=>?_) ⟨c1,c2,⟨c3.1,by omega⟩,⟨c4.1,by omega⟩⟩ rfl rfl rfl rfl rfl rfl hpc
   rw[hk _ cb6,oc6,N8,if_pos (by rw[J9];omega)]
   have:=Z5 _ hci
   rw[F2]at this
   rw[this]
  |none=>
   have hfw:plK a.R.C w.P.keys key=none:=by rw[wP];exact hf
   have fb:=fun Q=>b5c L6.P Q
   rw[wP]at fb
   by_cases hc:v.P.fl=[]/\id.isSome=false
   ·have hpc:a0J a.R a.rp w now key=none:=by unfold a0J;rw[hfw];simp only;rw[if_pos (by rw[wP];exact⟨hc.1,by rw[<-hid];exact hc.2⟩)]
    have d1:=dTz hc.1
    have d2:=hc.2
    have bn' :=wB.now
    obtain⟨h7,h7d,o7,n7,q7⟩:=T9 h6 (.cells [.int .i64 0,.int .i64 0,.int .i64 0] 55 .fix) (.cells [.int .i64 1,.int .i64 0,.int .i64 0] 55 .fix)
    have L7:=L6.old o7
    have ol7:=L7.ol
    simp(disch:=omega)only[Q7,a1C,Q8,a0j,a0k,a0W,a0X,Option.map_none,ol6,fb,d1,d2,Bool.not_true,y6,setAt,vbz,vez,<-h7d,ol7,E5,↓l9,m9,zA,zB,zC,zD,zE,zF,zG,zH,zI,reduceCtorEq,zJ,zK,zL,zM]
    refine K3 L7.G (by omega) key (by omega) (fun j=>wB.pos.least a.rp w.G.st key j) fun h8 o8=>?_
    have n8:=o8.next
    have L8:=L7.old o8
    have ol8:=L8.ol
    have q8:=(o8.obj h6.next (by omega)).trans q7
    obtain⟨es,hes⟩:∃es,es=V9 a.rp w.G key:=⟨_,rfl⟩
    have hes' :a1T a.rp w.G.now w.G.st w.G.cs key=es:=hes.symm
    have ein:=a3E (rp:=a.rp) (g:=w.G) (M:=64*k) hW.1 hN.2 wB.pos (by omega) wB.bd key
    rw[<-hes]at ein
    rw[hes']
    have fb8:=fun Q=>a2n L8 (a.R.L-es) Q
    obtain⟨h9,h9d⟩:∃h9,h9=h8.upd h6.next (.cells [.int .i64 1,.int .i64 (a0w a.R (a.R.L-es)),.int .i64 0] 55 .fix):=⟨_,rfl⟩
    have o9:OldF (fun z=>z=h6.next) h8 h9:=by rw[h9d];exact OldF.upd _ _ _ rfl
    have L9:=L8.oldF o9 fun z hz he=>own5 z (by omega) hz
    have ol9:=L9.ol
    have n9:h9.next=h8.next:=by rw[h9d];rfl
    have q9:h9.obj h6.next=.cells [.int .i64 1,.int .i64 (a0w a.R (a.R.L-es)),.int .i64 0] 55 .fix:=by rw[h9d];exact a9 _ _ _
    simp(disch:=omega)only[a0Y,a0Z,ol7,ol8,fb8,q8,setAt,vbz,vez,<-h9d,ol9,E5,↓l9,m9,zA,zB,zC,zD,zE,zF,zG,zH,zI,reduceCtorEq,zJ,zK,zL,zM]
    refine c7E L9.G (by omega) key (by omega) cost (by unfold D5;omega) (fun j=>wB.pos.least a.rp w.G.st key j) fun h10 o10=>?_
    have n10:=o10.next
    have q10:=(o10.obj h6.next (by omega)).trans q9
    obtain⟨wt,hwt⟩:∃wt,wt=a0c a.rp w.G.now w.G.st w.G.cs key cost:=⟨_,rfl⟩
    rw[<-hwt]
    obtain⟨h11,h11d⟩:∃h11,h11=h10.upd h6.next (.cells [.int .i64 1,.int .i64 (a0w a.R (a.R.L-es)),.int .i64 wt] 55 .fix):=⟨_,rfl⟩
    have o11:OldF (fun z=>z=h6.next) h10 h11:=by rw[h11d];exact OldF.upd _ _ _ rfl
    have L11:=(L9.old o10).oldF o11 fun z hz he=>own5 z (by omega) hz
    have n11:h11.next=h10.next:=by rw[h11d];rfl
    have q11:h11.obj h6.next=.cells [.int .i64 1,.int .i64 (a0w a.R (a.R.L-es)),.int .i64 wt] 55 .fix:=by rw[h11d];exact a9 _ _ _
    simp(disch:=omega)only[q10,setAt,vbz,vez,<-h11d,E5,↓l9,m9,zA,zB,zC,zD,zE,zF,zG,zH,zI,reduceCtorEq,zJ,zK,zL,zM]
    refine fin h11 h6.next _ _ _ L11 ⟨by omega,fun z hz _=>?_⟩ ⟨uzP _,by omega⟩ q11 rfl rfl (by rw[pl,hpc,hes,hwt])
    rw[o11.obj z (by omega) (by omega),o10.obj z (by omega),o9.obj z (by omega) (by omega),o8.obj z (by omega),o7.obj z hz]
   ·have hpc:a0J a.R a.rp w now key=some (now,now,V9 a.rp w.G key,0):=by unfold a0J;rw[hfw];simp only;rw[if_neg (by rw[wP,<-hid];exact hc)]
    have dd:(v.P.fl=[]->id.isSome=true):=fun e=>by
     cases hh:id.isSome with
     |true=>rfl
     |false=>exact absurd ⟨e,hh⟩ hc
    have frs:∀e:a7,e 0=.pointer (some ⟨a.p,0,none⟩)->e 1=.int .i64 now->e 3=.string key->e 4=.int .i64 cost->e 10=.pointer (some ⟨h.next,0,none⟩)->
      u9 cp 135 [.pointer (some ⟨a.rp.x,0,none⟩),.string key] h6 (a0G cp (fun t72=> .op (.call 142 [.int .i64 now,t72]) fun t73=> .op (.alloc 250 [.int .i64 0,.int .i64 0,.int .i64 0,.int .i64 0]) fun t16=> .op (.store 4 t16 t73) fun _=> .done (e.upd 16 t16))
       (a1X cp (.region a5f) (a1X cp (.seq (.region a0j) (.seq (.seq (.region a0k) (.cond (fun e=>e 76) (.seq (.region a0S) (.region a0U)) (.seq (.region a0W) (.region a0Z)))) (.seq (.seq (.region a1a) (.cond (fun e=>e 123) (.region a1b) .skip)) (.seq (.region a1c) .ret)))) (a1t [.c 10 (some 3)] Q)))):=by
     intro e e0 e1 e3 e4 e10
     have bn' :=wB.now
     refine K3 L6.G (by omega) key (by omega) (fun j=>wB.pos.least a.rp w.G.st key j) fun h7 o7=>?_
     have n7:=o7.next
     obtain⟨es,hes⟩:∃es,es=V9 a.rp w.G key:=⟨_,rfl⟩
     have hes' :a1T a.rp w.G.now w.G.st w.G.cs key=es:=hes.symm
     have ein:=a3E (rp:=a.rp) (g:=w.G) (M:=64*k) hW.1 hN.2 wB.pos (by omega) wB.bd key
     rw[<-hes]at ein hpc
     rw[hes']
     simp(disch:=omega)only[↓l9,m9,zA,zB,zC,zD,zE,zF,zG,zH,zI,reduceCtorEq,zJ,zK,zL,zM]
     refine Cl.cnew_ok h7 now es fun h8 o8=>?_
     have n8:=o8.next
     obtain⟨h9,h9d,o9,n9,q9⟩:=T9 h8 (.cells [.int .i64 0,.int .i64 0,.int .i64 0,.int .i64 0] 250 .fix) (.cells [.int .i64 now,.int .i64 now,.int .i64 es,.int .i64 0] 250 .fix)
     simp(disch:=omega)only[a5f,setAt,vbz,vez,<-h9d,↓l9,m9,zA,zB,zC,zD,zE,zF,zG,zH,zI,reduceCtorEq,zJ,zK,zL,zM]
     refine cel h9 _ h8.next 0 (now,now,es,0) (((L6.old o7).old o8).old o9) (((o7.trans o8).trans o9).f _) (by omega) (by omega) (fun h' hk=>?_) ⟨⟨hnow.1,by show now<=_;omega⟩,hnow,⟨ein.1,by show es<=_;omega⟩,⟨uzQ 0,by show(0:Int)<=_;omega⟩⟩ e0 e1 e3 e4 e10 rfl hpc
     rw[hk _ (by omega),q9]
     rfl
    by_cases hfl:v.P.fl=[]
    ·have d1:=dTz hfl
     have d2:=dd hfl
     simp(disch:=omega)only[Q7,a1C,Q8,a5e,Option.map_none,ol6,fb,d1,d2,Bool.not_true,E5,↓l9,m9,zA,zB,zC,zD,zE,zF,zG,zH,zI,reduceCtorEq,zJ,zK,zL,zM]
     exact frs _ rfl rfl rfl rfl rfl
    ·have d1:=dFz hfl
     simp(disch:=omega)only[Q7,a1C,Q8,a5e,Option.map_none,ol6,fb,d1,Bool.not_false,E5,↓l9,m9,zA,zB,zC,zD,zE,zF,zG,zH,zI,reduceCtorEq,zJ,zK,zL,zM]
     exact frs _ rfl rfl rfl rfl rfl
end
abbrev e1I(x:Int):List Int:=M1 8 (x % 18446744073709551616)
def Y6:List Int->List Int
 | []=>[]
 |x::t=>e1I x++Y6 t
theorem b1i:∀(l:List Int) (x:Int),Y6 (l++[x])=Y6 l++e1I x
 | [],x=>by simp[Y6]
 |y::t,x=>by rw[vCz,Y6,Y6,b1i t x,vvz]
theorem a3Q:∀l:List Int,(Y6 l).length=8*l.length
 | []=>rfl
 |y::t=>by rw[Y6,uzG,E1,a3Q t,uzM];omega
def b7q(rule:Int)(x:List Int):List Int:=J5 168 ([131,rule % 256]++Y6 x)
theorem e0v(rule:Int){x:List Int}(h:x.length=5):(b7q rule x).length=46:=by
 unfold b7q J5
 simp only[uzG,uzM,vkz,a3Q,h]
theorem b5G(h:Heap)(rule x0 x1 x2 x3 x4:Int)
  (hQ:∀h' v' b',E3 h' 5 B8 v' (b7q rule [x0,x1,x2,x3,x4]) b' ->Old h h' ->h.next<=b' ->Q v' h'):
  u9 cp 123 [.int .i64 rule,.agg #[.int .i64 x0,.int .i64 x1,.int .i64 x2,.int .i64 x3,.int .i64 x4]] h Q:=by
 rw[a8 cp e5s]
 obtain⟨h1,h1d,o1,n1,ga⟩:=K2 h (.cells [.int .i64 x0,.int .i64 x1,.int .i64 x2,.int .i64 x3,.int .i64 x4] 63 .fix)
 obtain⟨h2,h2d,o2,n2,_⟩:=K2 h1 (.cells [.int .u8 131,.int .u8 (rule % 256)] 5 .grow)
 have ga2:=(o2.obj h.next (by omega)).trans ga
 have V2:E3 h2 5 B8 (.slice (some ⟨h1.next,0,none⟩) 2 2) [131,rule % 256] h1.next:=.inr ⟨2,[],rfl,by rw[h2d];exact vpz _,by rw[h2d,f9];rfl,rfl,uzP _⟩
 simp(disch:=omega)only[b3u,↓c9X,<-h1d,wu8,G0,vCz,vrz,<-h2d,ga2,y6,↓l9,m9,zA,zB,zC,zD,zE,zF,zG,zH,zI,reduceCtorEq,zJ,zK,zL,zM]
 refine A6 cp a5g _ (fun d e hh=>∃(i b:Nat) (v:Value),i+d=5/\h2.next<=hh.next/\h1.next<=b/\(∀z,z<h1.next->hh.obj z=h2.obj z)/\E3 hh 5 B8 v ([131,rule % 256]++Y6 ([x0,x1,x2,x3,x4].take i)) b/\
   e 5=v/\e 21=.agg #[.int .i64 x0,.int .i64 x1,.int .i64 x2,.int .i64 x3,.int .i64 x4]/\e 22=.int .i64 i) ?_ 5 _ _
  ⟨0,h1.next,_,rfl,uzP _,uzP _,fun _ _=>rfl,V2,rfl,rfl,rfl⟩
 rintro d e hh ⟨i,b,v,hi,hn,hb,ho,V,e5,e21,e22⟩
 subst e5
 have len:∀j,([131,rule % 256]++Y6 ([x0,x1,x2,x3,x4].take j)).length<=42:=fun j=>by
  rw[uzG,a3Q,vqz]
  simp only[uzM,vkz]
  omega
 have step:∀(x:Int),([x0,x1,x2,x3,x4].take (i+1))=[x0,x1,x2,x3,x4].take i++[x]->∀{h' :Heap} {v' :Value} {b' :Nat},E3 h' 5 B8 v' (([131,rule % 256]++Y6 ([x0,x1,x2,x3,x4].take i))++M1 8 (x % 18446744073709551616)) b' ->E3 h' 5 B8 v' ([131,rule % 256]++Y6 ([x0,x1,x2,x3,x4].take (i+1))) b' :=fun x hx h' v' b' W=>by
  rw[hx,b1i,<-vvz];exact W
 have li:=len i
 rcases i with _|_|_|_|_|_|i
 iterate 5
  simp(disch:=omega)only[a5g,b3u,↓c9X,e21,e22,Int.natCast_zero,Int.natCast_succ,a1Z,↓l9,m9,zA,zB,zC,zD,zE,zF,zG,zH,zI,reduceCtorEq,zJ,zK,zL,zM]
  refine a5q hh h1.next (by omega) _ _ b V hb (by omega) 8 (by decide) _ fun h3 v3 b3 V3 hn3 hb3 ho3=>?_
  simp(disch:=omega)only[b3u,↓c9X,e21,e22,↓l9,m9,zA,zB,zC,zD,zE,zF,zG,zH,zI,reduceCtorEq,zJ,zK,zL,zM]
  refine⟨d-1,by omega,_,b3,v3,?_,by omega,hb3,fun z hz=>by rw[ho3 z hz,ho z hz],step _ rfl V3,rfl,rfl⟩
  omega
 ·simp(disch:=omega)only[a5g,b3u,↓c9X,e21,e22,Int.natCast_zero,Int.natCast_succ,↓l9,m9,zA,zB,zC,zD,zE,zF,zG,zH,zI,reduceCtorEq,zJ,zK,zL,zM]
  refine a0m hh h1.next (by omega) 168 _ _ b V (by omega) fun h5 v5 b5 V5 hn5 hb5 ho5=>?_
  simp(disch:=omega)only[b3u,↓c9X,↓l9,m9,zA,zB,zC,zD,zE,zF,zG,zH,zI,reduceCtorEq,zJ,zK,zL,zM]
  exact hQ _ _ _ V5 ⟨by omega,fun z hz=>by rw[ho5 z (by omega),ho z (by omega),o2.obj z (by omega),o1.obj z hz]⟩ (by omega)
 ·omega
theorem a8o:∀l:List Int,E4 (Y6 l)
 | []=>fun x hx=>by simp[Y6]at hx
 |y::t=>(Q9 8 _).app (a8o t)
theorem a4O{l:List Int}(h:E4 l):E4 (J5 168 l):=by
 have:E4 [(168:Int),1,(l.length:Int) / 256 % 256,(l.length:Int) % 256]:=fun x hx=>by simp at hx;omega
 exact this.app h
theorem c9N(rule:Int)(l:List Int):E4 (b7q rule l):=by
 have:E4 [(131:Int),rule % 256]:=fun x hx=>by simp at hx;omega
 exact a4O (this.app (a8o l))
def ub(s:ByteArray):List Int:=s.data.toList.map fun b=>(b.toNat:Int)
theorem e0x(s:ByteArray):E4 (ub s)/\bs (ub s)=s/\(ub s).length=s.size:=by
 have e2:bs (ub s)=s:=by
  apply ByteArray.ext
  have e:((fun n:Int=>UInt8.ofNat n.toNat)∘fun b:UInt8=>(b.toNat:Int))=id:=by
   funext b
   simp
  simp[bs,ub,e]
 refine⟨fun x hx=>?_,e2,?_⟩
 ·obtain⟨b,_,rfl⟩:=List.mem_map.1 hx
  have:=b.toNat_lt
  omega
 ·have:=a1B (ub s)
  rw[e2]at this;exact this.symm
abbrev CntT' :=ByteArray×Int×Int
abbrev CntE' :Enc CntT' :=Enc.pair Enc.str (Enc.pair (Enc.int .i64) (Enc.int .i64))
def b6s(c:CntT'):List Int:=(([(c.1.size:Int) % 256]++ub c.1)++e1I c.2.1)++e1I c.2.2
def Q4:List CntT' ->List Int
 | []=>[]
 |x::t=>b6s x++Q4 t
theorem b0H:∀(l:List CntT') (x:CntT'),Q4 (l++[x])=Q4 l++b6s x
 | [],x=>by simp[Q4]
 |y::t,x=>by rw[vCz,Q4,Q4,b0H t x,vvz]
theorem d8x(c:CntT'):(b6s c).length=c.1.size+17:=by
 unfold b6s
 rw[uzG,uzG,uzG,E1,E1,(e0x c.1).2.2,vdz]
 omega
theorem a3y:∀(l:List CntT'),(∀c∈l,c.1.size<=64)->(Q4 l).length<=81*l.length
 | [],_=>by simp[Q4]
 |y::t,h=>by
  have h1:=a3y t fun c hc=>h c (List.mem_cons_of_mem _ hc)
  have h2:=h y vyz
  rw[Q4,uzG,d8x,uzM]
  omega
theorem b4J(h:Heap)(v:Value)(l:List Int)(b:Nat)(V:E3 h 5 B8 v l b)(hlen:l.length<=10000)(n:Nat)(hn8:n<=8)(x:Int)
  (hQ:∀h' v' b',E3 h' 5 B8 v' (l++M1 n x) b' ->h.next<=h'.next->(b' =b\/h.next<=b')->(∀z,z<h.next->z≠b->h'.obj z=h.obj z)->Q v' h'):
  u9 cp 44 [v,.int .i64 n,.int .u64 x] h Q:=by
 rw[a8 cp e6C]
 simp(disch:=omega)only[c44,↓R44,↓l9,m9,zA,zB,zC,zD,zE,zF,zG,zH,zI,reduceCtorEq,zJ,zK,zL,zM]
 refine A6 cp a2p _ (fun d e hh=>∃(i bb:Nat) (vv:Value),i+d=n/\h.next<=hh.next/\(∀z,z<h.next->z≠b->hh.obj z=h.obj z)/\(bb=b\/h.next<=bb)/\E3 hh 5 B8 vv (l++(M1 n x).take i) bb/\
   e 0=vv/\e 2=.int .u64 x/\e 7=.int .i64 ((n:Int)-1-(i:Int))) ?_ n _ _
  ⟨0,b,v,by omega,uzP _,fun _ _ _=>rfl,.inl rfl,by simpa using V,rfl,rfl,by show Value.int .i64 _=_;congr 1;omega⟩
 rintro d e hh ⟨i,bb,vv,hi,hn,ho,hbb,V,e0,e2,e7⟩
 by_cases ci:i<n
 ·have b2:decide ((n:Int)-1-(i:Int)>=0)=true:=dTz (by omega)
  obtain⟨k,hk⟩:∃k:Nat,(8:Int)*((n:Int)-1-(i:Int))=k:=⟨(8*((n:Int)-1-(i:Int))).toNat,by omega⟩
  have nxk:(n:Int)-1-(i:Int)-1=(n:Int)-1-((i+1:Nat):Int):=by omega
  have sh:=fun y:Int=>a2i .u64 y k (by show k<=64;omega)
  obtain⟨c,hc⟩:∃c,c=x / 2 ^ k % 256:=⟨_,rfl⟩
  have gi:(M1 n x)[i]? =some c:=by
   rw[a7L n _ i ci,hc,c7q,show 8*(n-1-i)=k by omega]
  have tki:(M1 n x).take (i+1)=(M1 n x).take i++[c]:=by rw[List.take_add_one,gi];rfl
  have il:((M1 n x).take i).length=i:=by rw[vqz,E1];omega
  simp(disch:=omega)only[a2p,c44,↓R44,e0,e2,e7,b2,hk,sh,wu8,<-hc,G0,vtz,↓l9,m9,zA,zB,zC,zD,zE,zF,zG,zH,zI,reduceCtorEq,zJ,zK,zL,zM]
  refine(V.new8 _).app (m:=[c]) rfl (O9 B8 hh c 5 1) (by rw[vdz,uzG,il];omega) (by rw[vdz,uzG,il];omega) fun v' h' b' V3 hn' hb' ho' =>?_
  have hn'' :hh.next+1<=h'.next:=hn'
  simp(disch:=omega)only[c44,↓R44,e0,e2,e7,nxk,↓l9,m9,zA,zB,zC,zD,zE,zF,zG,zH,zI,reduceCtorEq,zJ,zK,zL,zM]
  refine⟨d-1,by omega,i+1,b',v',by omega,by omega,fun z hz hne=>?_,?_,?_,rfl,rfl⟩
  ·rw[ho' z (by show z<hh.next+1;omega) (.inr (by omega)),f4 _ _ (by omega),ho z hz hne]
  ·rcases hb' with rfl|hb'
   ·exact hbb
   ·have:hh.next+1<=b' :=hb'
    exact .inr (by omega)
  ·rw[tki,<-vvz];exact V3
 ·have b2:decide ((n:Int)-1-(i:Int)>=0)=false:=dFz (by omega)
  obtain rfl:i=n:=by omega
  rw[vnz (by rw[E1];exact uzP _)]at V
  simp(disch:=omega)only[a2p,c44,↓R44,e0,e2,e7,b2,↓l9,m9,zA,zB,zC,zD,zE,zF,zG,zH,zI,reduceCtorEq,zJ,zK,zL,zM]
  exact hQ _ _ _ V hn hbb ho
def b6N(rule:Int)(l:List CntT'):List Int:=J5 168 ([132,rule % 256,(l.length:Int) % 256]++Q4 l)
theorem c8x(c:CntT'):E4 (b6s c):=by
 have h0:E4 [(c.1.size:Int) % 256]:=fun x hx=>by simp at hx;omega
 exact((h0.app (e0x c.1).1).app (Q9 8 _)).app (Q9 8 _)
theorem a7F:∀l:List CntT',E4 (Q4 l)
 | []=>fun x hx=>by simp[Q4]at hx
 |y::t=>(c8x y).app (a7F t)
theorem c9b(rule:Int)(l:List CntT'):E4 (b6N rule l):=by
 have:E4 [(132:Int),rule % 256,(l.length:Int) % 256]:=fun x hx=>by simp at hx;omega
 exact a4O (this.app (a7F l))
theorem d9v(rule:Int)(l:List CntT')(h:∀c∈l,c.1.size<=64):(b6N rule l).length<=7+81*l.length:=by
 have:=a3y l h
 unfold b6N J5
 simp only[uzG,uzM,vkz]
 omega
theorem c8Z(h:Heap)(rule:Int)(v:Value)(l:List CntT')(s:Lst h CntE' v l)(hl:l.length<=64)(hz:∀c∈l,c.1.size<=64)
  (hQ:∀h' v' b',E3 h' 5 B8 v' (b6N rule l) b' ->Old h h' ->h.next<=b' ->Q v' h'):
  u9 cp 124 [.int .i64 rule,v] h Q:=by
 rw[a8 cp e5t]
 obtain⟨la,lc,rfl,hrd⟩:=s
 obtain⟨h2,h2d,o2,n2,_⟩:=K2 h (.cells [.int .u8 132,.int .u8 (rule % 256),.int .u8 ((l.length:Int) % 256)] 5 .grow)
 have V2:E3 h2 5 B8 (.slice (some ⟨h.next,0,none⟩) 3 3) [132,rule % 256,(l.length:Int) % 256] h.next:=.inr ⟨3,[],rfl,by rw[h2d];exact vpz _,by rw[h2d,f9];rfl,rfl,uzP _⟩
 simp(disch:=omega)only[a5U,↓b2P,wu8,G0,vCz,vrz,<-h2d,y6,↓l9,m9,zA,zB,zC,zD,zE,zF,zG,zH,zI,reduceCtorEq,zJ,zK,zL,zM]
 refine A6 cp a5h _ (fun d e hh=>∃(i b:Nat) (v:Value),i+d=l.length/\h2.next<=hh.next/\h.next<=b/\(∀z,z<h.next->hh.obj z=h2.obj z)/\E3 hh 5 B8 v ([132,rule % 256,(l.length:Int) % 256]++Q4 (l.take i)) b/\
   e 5=v/\e 14=.slice la l.length lc/\e 15=.int .i64 l.length/\e 16=.int .i64 i) ?_ l.length _ _
  ⟨0,h.next,_,by omega,uzP _,uzP _,fun _ _=>rfl,by rw[List.take_zero];exact V2,rfl,rfl,rfl,rfl⟩
 rintro d e hh ⟨i,b,v,hi,hn,hb,ho,V,e5,e14,e15,e16⟩
 subst e5
 have li:([132,rule % 256,(l.length:Int) % 256]++Q4 (l.take i)).length<=3+81*64:=by
  have h1:=a3y (l.take i) fun c hc=>hz c (List.mem_of_mem_take hc)
  rw[uzG]
  have h2:(l.take i).length<=64:=by rw[vqz];omega
  simp only[uzM,vkz]
  omega
 by_cases ci:i<l.length
 rotate_left
 ·have b2:decide ((i:Int)<(l.length:Int))=false:=dFz (by omega)
  obtain rfl:i=l.length:=by omega
  rw[List.take_length]at V li
  simp(disch:=omega)only[a5h,a5U,↓b2P,e14,e15,e16,b2,↓l9,m9,zA,zB,zC,zD,zE,zF,zG,zH,zI,reduceCtorEq,zJ,zK,zL,zM]
  refine a0m hh h.next (by omega) 168 _ _ b V (by omega) fun h5 v5 b5 V5 hn5 hb5 ho5=>?_
  simp(disch:=omega)only[a5U,↓b2P,↓l9,m9,zA,zB,zC,zD,zE,zF,zG,zH,zI,reduceCtorEq,zJ,zK,zL,zM]
  exact hQ _ _ _ V5 ⟨by omega,fun z hz=>by rw[ho5 z (by omega),ho z (by omega),o2.obj z (by omega)]⟩ (by omega)
 have b2:decide ((i:Int)<(l.length:Int))=true:=dTz (by omega)
 have nx:(i:Int)+1=((i+1:Nat):Int):=by omega
 have wi:IntKind.i64.wrap ((i+1:Nat):Int)=((i+1:Nat):Int):=by rw[R7];omega
 have hx:l[i]? =some l[i]:=uzF ci
 obtain⟨x,hxd⟩:∃x,x=l[i]:=⟨_,rfl⟩
 rw[<-hxd]at hx
 have tk:=I7 hx
 obtain⟨bx,of,hla,hbx,hr⟩:=hrd i x hx
 subst hla
 have hr:(hh.obj bx).read (of+i*3) 3=some [.string x.1,.int .i64 x.2.1,.int .i64 x.2.2]:=by rw[ho bx hbx,o2.obj bx hbx];exact hr
 have xs:=hz x (uzK hx)
 obtain⟨u1,u2,u3⟩:=e0x x.1
 obtain⟨h3,h3d,o3,n3,g3⟩:=T9 hh (.cells [.string ⟨#[]⟩,.int .i64 0,.int .i64 0] 82 .fix) (.cells [.string x.1,.int .i64 x.2.1,.int .i64 x.2.2] 82 .fix)
 have V3:=V.old o3
 obtain⟨vb,vc,hv,_⟩:=V3.val
 obtain⟨h4,h4d,o4,n4,_⟩:=K2 h3 (.cells [.int .u8 ((x.1.size:Int) % 256)] 5 .grow)
 have g4:=(o4.obj hh.next (by omega)).trans g3
 have src4:D1 h4 1 (.slice (some ⟨h3.next,0,none⟩) 1 1)=some (B8.all [(x.1.size:Int) % 256],[(x.1.size:Int) % 256].length):=by
  rw[h4d];exact O9 B8 h3 _ 5 1
 simp(disch:=omega)only[a5h,a5U,↓b2P,e14,e15,e16,b2,hr,y6,<-h3d,g3,wu8,G0,vtz,<-h4d,↓l9,m9,zA,zB,zC,zD,zE,zF,zG,zH,zI,reduceCtorEq,zJ,zK,zL,zM]
 refine(V3.old o4).app (m:=[(x.1.size:Int) % 256]) (bytes:=1) rfl src4 (by rw[vdz];omega) (by rw[vdz];omega) fun v5 h5 b5 V5 hn5 hb5 ho5=>?_
 have nn5:h4.next<=h5.next:=hn5
 have hb5' :h.next<=b5:=by
  rcases hb5 with rfl|hb5
  ·exact hb
  ·omega
 have bl:b<hh.next:=by
  obtain⟨_,_,_,h1,_⟩:=V.at (by simp)
  exact h1
 have g5:=(ho5 hh.next (by omega) (.inr (by omega))).trans g4
 have k5:∀z,z<h.next->h5.obj z=hh.obj z:=fun z hz=>by rw[ho5 z (by omega) (.inr (by omega)),o4.obj z (by omega),o3.obj z (by omega)]
 have src5:D1 h5 1 (.string x.1)=some (B8.all (ub x.1),(ub x.1).length):=by
  have:=e0p h5 (ub x.1) u1
  rw[u2]at this;exact this
 simp(disch:=omega)only[a5U,↓b2P,e14,e15,e16,g4,g5,↓l9,m9,zA,zB,zC,zD,zE,zF,zG,zH,zI,reduceCtorEq,zJ,zK,zL,zM]
 refine V5.app (m:=ub x.1) (bytes:=1) rfl src5 (by rw[uzG,vdz,u3];omega) (by rw[uzG,vdz,u3];omega) fun v6 h6 b6 V6 hn6 hb6 ho6=>?_
 have nn6:h5.next<=h6.next:=hn6
 have b5ne:b5≠hh.next:=by omega
 have hb6' :h.next<=b6/\b6≠hh.next:=by
  rcases hb6 with rfl|hb6
  ·exact⟨hb5',b5ne⟩
  ·exact⟨by omega,by omega⟩
 have g6:=(ho6 hh.next (by omega) (.inr (fun e=>b5ne e.symm))).trans g5
 have k6:∀z,z<h.next->h6.obj z=hh.obj z:=fun z hz=>by rw[ho6 z (by omega) (.inr (by omega))];exact k5 z hz
 have l6:((([132,rule % 256,(l.length:Int) % 256]++Q4 (l.take i))++[(x.1.size:Int) % 256])++ub x.1).length<=3+81*64+65:=by
  rw[uzG,uzG,vdz,u3];omega
 have b6l:b6<h6.next:=by
  obtain⟨_,_,_,h1,_⟩:=V6.at (by simp)
  exact h1
 simp(disch:=omega)only[a5U,↓b2P,e14,e15,e16,g6,a1Z,↓l9,m9,zA,zB,zC,zD,zE,zF,zG,zH,zI,reduceCtorEq,zJ,zK,zL,zM]
 refine b4J h6 _ _ b6 V6 (by omega) 8 (by decide) _ fun h7 v7 b7 V7 hn7 hb7 ho7=>?_
 have b7ne:b7≠hh.next/\h.next<=b7:=by
  rcases hb7 with rfl|hb7
  ·exact⟨hb6'.2,hb6'.1⟩
  ·exact⟨by omega,by omega⟩
 have g7:=(ho7 hh.next (by omega) (fun e=>hb6'.2 e.symm)).trans g6
 have k7:∀z,z<h.next->h7.obj z=hh.obj z:=fun z hz=>by rw[ho7 z (by omega) (by omega)];exact k6 z hz
 have l7:(((([132,rule % 256,(l.length:Int) % 256]++Q4 (l.take i))++[(x.1.size:Int) % 256])++ub x.1)++M1 8 (x.2.1 % 18446744073709551616)).length<=3+81*64+73:=by
  rw[uzG,E1];omega
 simp(disch:=omega)only[a5U,↓b2P,e14,e15,e16,g6,g7,a1Z,↓l9,m9,zA,zB,zC,zD,zE,zF,zG,zH,zI,reduceCtorEq,zJ,zK,zL,zM]
 refine b4J h7 _ _ b7 V7 (by omega) 8 (by decide) _ fun h8 v8 b8 V8 hn8 hb8 ho8=>?_
 have b8ne:h.next<=b8:=by
  rcases hb8 with rfl|hb8
  ·exact b7ne.2
  ·omega
 have k8:∀z,z<h.next->h8.obj z=h2.obj z:=fun z hz=>by rw[ho8 z (by omega) (by omega),k7 z hz];exact ho z hz
 simp(disch:=omega)only[a5U,↓b2P,e14,e15,e16,nx,wi,↓l9,m9,zA,zB,zC,zD,zE,zF,zG,zH,zI,reduceCtorEq,zJ,zK,zL,zM]
 refine⟨d-1,by omega,i+1,b8,v8,by omega,by omega,b8ne,k8,?_,?_⟩
 ·rw[tk,b0H]
  have e:[132,rule % 256,(l.length:Int) % 256]++(Q4 (l.take i)++b6s x)=(((([132,rule % 256,(l.length:Int) % 256]++Q4 (l.take i))++[(x.1.size:Int) % 256])++ub x.1)++M1 8 (x.2.1 % 18446744073709551616))++M1 8 (x.2.2 % 18446744073709551616):=by
   unfold b6s
   simp only[vvz]
  rw[e];exact V8
 ·repeat' first|assumption|rfl|apply And.intro
def a1h(u:SV)(p:Nat):CntT' :=((u.keys p).getD .empty,F6 u.ns p,F6 u.es p)
theorem d9Z{CP:CProg}{id:Nat}{post:CC}{e:a7}{b:Nat}{Q:B5}{h:Heap}(q:I1 CP post e ((h.upd b (.loop 2 (some (.exit id)))).upd b .gone) Q):a4Y CP id post e b Q (h.upd b (.loop 2 (some (.exit id)))):=by
 unfold a4Y
 rw[a9]
 unfold a1n
 simp only[if_true]
 exact q
section
variable {h:Heap} {a:SA} {u:SV}
theorem e2e(P:Sum h a u){b:Nat}{y:YF}{J:Nat->Heap->Prop}{Q:Heap->Prop}(hJ0:J 0 h)(hJP:∀i hh,J i hh->Sum hh a u)
  (hstep:∀i hh p key,u.ord[i]? =some p->u.keys p=some key->J i hh->a3o (cp.put b y) b [.agg #[.string key,.int .i64 (F6 u.ns p),.int .i64 (F6 u.es p)]] hh fun r h' =>(r=.bool true/\J (i+1) h')\/(r=.bool false/\Q h'))
  (hend:∀hh,J u.ord.length hh->Q hh):u9 (cp.put b y) 164 [.pointer (some ⟨a.p,0,none⟩),.func (.yield b) #[] #[]] h fun _ h' =>Q h' :=by
 rw[a8 (cp.put b y) (d9O e6e)]
 have fl:=fun Q=>a5s (b:=b) (y:=y) (fun Q=>a5u P Q) Q
 simp(disch:=omega)only[b3G,↓d0c,fl,E5,↓l9,m9,zA,zB,zC,zD,zE,zF,zG,zH,zI,reduceCtorEq,zJ,zK,zL,zM]
 refine A6 (cp.put b y) a1D _ (fun d e hh=>∃i,i+d=u.ord.length/\J i hh/\e 0=.pointer (some ⟨a.p,0,none⟩)/\e 1=.func (.yield b) #[] #[]/\e 9=.int .i64 (u.ord.length:Nat)/\e 10=.int .i64 i) ?_ u.ord.length _ _
  ⟨0,by omega,hJ0,rfl,rfl,rfl,rfl⟩
 rintro d e hh ⟨i,hid,hJ,e0,e1,e9,e10⟩
 by_cases hin:i<u.ord.length
 ·have b1:decide ((i:Int)<((u.ord.length:Nat):Int))=true:=dTz (by omega)
  have nx:(i:Int)+1=((i+1:Nat):Int):=by omega
  obtain⟨tab,os,ws,p,t,o⟩:=(hJP i hh hJ).at_
  have hn:=p.hn
  have len:=o.len
  have wi:IntKind.i64.wrap ((i+1:Nat):Int)=((i+1:Nat):Int):=by rw[R7];omega
  obtain⟨q,hq⟩:∃q,u.ord[i]? =some q:=⟨_,uzF hin⟩
  obtain⟨hqn,hqk⟩:=(o.mem q).1 (uzK hq)
  obtain⟨key,hkey⟩:=Option.ne_none_iff_exists'.1 hqk
  have op:=p.op
  have oo:=p.oo
  have on:=p.on
  have oe:=p.oe
  have ln:=p.ln
  have le:=p.le
  have lo:=p.lo
  have g1:=C5 .i32 os (o.at_ _ _ hq).1
  have g2:=C5 .i64 u.ns (J0 (p:=q) (by omega))
  have g3:=C5 .i64 u.es (J0 (p:=q) (by omega))
  have fk:=fun Q=>a5s (b:=b) (y:=y) (fun Q=>Keys.st_key p.s.S hqn hkey Q) Q
  simp(disch:=omega)only[a1D,b3G,↓d0c,e0,e1,e9,e10,b1,op,oo,on,oe,g1,g2,g3,fk,uzS,y6,nx,E5,b0E,↓l9,m9,zA,zB,zC,zD,zE,zF,zG,zH,zI,reduceCtorEq,zJ,zK,zL,zM]
  refine(hstep i hh q key hq hkey hJ).mono fun r h2 hr=>?_
  rcases hr with⟨rfl,J2⟩| ⟨rfl,hq⟩
  ·simp(disch:=omega)only[a1D,b3G,↓d0c,e0,e1,e9,e10,nx,wi,Bool.not_true,↓l9,m9,zA,zB,zC,zD,zE,zF,zG,zH,zI,reduceCtorEq,zJ,zK,zL,zM]
   exact⟨d-1,by omega,i+1,by omega,J2,rfl⟩
  ·simp(disch:=omega)only[a1D,b3G,↓d0c,e0,e1,e9,e10,nx,Bool.not_false,↓l9,m9,zA,zB,zC,zD,zE,zF,zG,zH,zI,reduceCtorEq,zJ,zK,zL,zM]
   exact hq
 ·have b1:decide ((i:Int)<((u.ord.length:Nat):Int))=false:=dFz (by omega)
  obtain rfl:i=u.ord.length:=by omega
  simp(disch:=omega)only[a1D,b3G,↓d0c,e0,e1,e9,e10,b1,↓l9,m9,zA,zB,zC,zD,zE,zF,zG,zH,zI,reduceCtorEq,zJ,zK,zL,zM]
  exact hend _ hJ
def a2C(n:Nat)(u:SV)(k:Int):List CntT' :=(u.ord.take (min (max k 1) (n:Int)).toNat).map (a1h u)
theorem e2k(P:Sum h a u)(k:Int)(hk:0<=k/\k<=255)(hQ:∀h' v' b,Old h h' ->E3 h' 82 CntE' v' (a2C a.n u k) b->h.next<=b->Q v' h'):
  u9 cp 143 [.pointer (some ⟨a.p,0,none⟩),.int .i64 k] h Q:=by
 rw[a8 cp e5L]
 refine a5G cp _ _ _ _ _ _ _ _ _ _ ?_
 obtain⟨tab,os,ws,p,t,o⟩:=P.at_
 have op:=p.op
 have hn:=p.hn
 have lt:=p.lt
 obtain⟨kk,hkk⟩:∃kk:Nat,(kk:Int)=min (max k 1) (a.n:Int):=⟨(min (max k 1) (a.n:Int)).toNat,by omega⟩
 obtain⟨h1,h1d⟩:∃h1,h1=((h.new (.cells [.int .i64 k] 3 .fix)).new (.cells [.slice none 0 0] 64 .fix)).upd h.next (.cells [.int .i64 (kk:Nat)] 3 .fix):=⟨_,rfl⟩
 have n1:h1.next=h.next+1+1:=by rw[h1d];rfl
 have o1:Old h h1:=by rw[h1d];exact⟨by simp only[r9,j0];omega,fun z hz=>by rw[a6 _ _ (by omega),f4 _ _ (by simp only[j0];omega),f4 _ _ (by omega)]⟩
 have op1:(((h.new (.cells [.int .i64 k] 3 .fix)).new (.cells [.slice none 0 0] 64 .fix)).obj a.p)=.cells (e2l a u.tot) 169 .fix:=by
  have:=lt a.p (by simp[SA.own])
  rw[f4 _ _ (by simp only[j0];omega),f4 _ _ (by omega)];exact op
 have og:(((h.new (.cells [.int .i64 k] 3 .fix)).new (.cells [.slice none 0 0] 64 .fix)).obj h.next)=.cells [.int .i64 k] 3 .fix:=by
  rw[f4 _ _ (by simp only[j0];omega)];exact f9 _ _
 simp(disch:=omega)only[a8N,↓b5Q,E5,og,op1,↓Cl.mm_max,↓Cl.mm_min,<-hkk,setAt,vbz,<-h1d,↓l9,m9,zA,zB,zC,zD,zE,zF,zG,zH,zI,reduceCtorEq,zJ,zK,zL,zM]
 have q0:h1.obj h.next=.cells [.int .i64 (kk:Nat)] 3 .fix:=by rw[h1d];exact a9 _ _ _
 have q1:h1.obj (h.next+1)=.cells [.slice none 0 0] 64 .fix:=by rw[h1d,a6 _ _ (by omega)];exact f9 _ _
 have P1:=P.old o1
 generalize he1:(((((((T6 _).upd 3 _).upd 4 _).upd 5 _).upd 9 _).upd 6 _).upd 20 _:a7)=e1
 have e3:e1 3=.pointer (some ⟨h.next,0,none⟩):=by rw[<-he1];rfl
 have e5:e1 5=.pointer (some ⟨h.next+1,0,none⟩):=by rw[<-he1];rfl
 have e20:e1 20=.func (.func 164) #[.pointer (some ⟨a.p,0,none⟩)] #[]:=by rw[<-he1];rfl
 clear he1
 obtain⟨h2,h2d,o2,n2,ql⟩:=K2 h1 (.loop 0 none)
 have P2:=P1.old o2
 have tl:a2C a.n u k=(u.ord.take kk).map (a1h u):=by unfold a2C;rw[<-hkk,vAz]
 have own:∀z∈a.own,z<h.next:=lt
 show b0Y cp (a5a cp h1.next [21] e1 b6g a6A) h1.next (e1 20) (h1.new (.loop 0 none)) _
 rw[e20,<-h2d]
 refine(e2e P2 (b:=h1.next) (Q:=fun hh=>a4Y cp 0 b1G e1 h1.next (a1t [.t 4] Q) hh)
  (J:=fun i hh=>Old h hh/\h1.next<hh.next/\i<=kk/\hh.obj h.next=.cells [.int .i64 (kk:Nat)] 3 .fix/\hh.obj h1.next=.loop 0 none/\∃vv bb,hh.obj (h.next+1)=.cells [vv] 64 .fix/\E3 hh 82 CntE' vv ((u.ord.take i).map (a1h u)) bb/\h2.next<=bb) ?_ ?_ ?_ ?_)
 ·exact⟨o1.trans o2,by omega,vJz _,(o2.obj _ (by omega)).trans q0,ql,.slice none 0 0,h2.next,(o2.obj _ (by omega)).trans q1,E3.nil _ _ _ _,uzP _⟩
 ·exact fun i hh j=>P.keep j.1.next fun z hz=>j.1.obj z (lt z hz)
 ·rintro i hh p key hp hkey ⟨j1,j2,j3,j4,j5,vv,bb,j6,j7,j8⟩
  have hil:=(List.getElem?_eq_some_iff.1 hp).1
  have ll:((u.ord.take i).map (a1h u)).length=i:=by rw[uzL,vqz];omega
  have ol:=o.len
  refine a4a cp rfl (by rw[j5];rfl) ?_
  obtain⟨h3,h3d,o3,n3,g3⟩:=T9 hh (.cells [.string ⟨#[]⟩,.int .i64 0,.int .i64 0] 82 .fix) (.cells [.string key,.int .i64 (F6 u.ns p),.int .i64 (F6 u.es p)] 82 .fix)
  simp(disch:=omega)only[b6g,a8N,↓b5Q,a3h,setAt,vbz,vez,y6,<-h3d,↓l9,m9,zA,zB,zC,zD,zE,zF,zG,zH,zI,reduceCtorEq,zJ,zK,zL,zM]
  have k5:=(o3.obj h1.next (by omega)).trans j5
  refine⟨by rw[k5];rfl,?_⟩
  obtain⟨h4,h4d⟩:∃h4,h4=h3.upd h1.next (.loop 1 none):=⟨_,rfl⟩
  have n4:h4.next=hh.next+1:=by rw[h4d];exact n3
  have k4:∀z,z≠h1.next->h4.obj z=h3.obj z:=fun z hz=>by rw[h4d];exact a6 _ _ hz
  have kb:h4.obj h1.next=.loop 1 none:=by rw[h4d];exact a9 _ _ _
  have r0:h4.obj h.next=.cells [.int .i64 (kk:Nat)] 3 .fix:=by rw[k4 _ (by omega),o3.obj _ (by omega)];exact j4
  have r1:h4.obj (h.next+1)=.cells [vv] 64 .fix:=by rw[k4 _ (by omega),o3.obj _ (by omega)];exact j6
  have r3:h4.obj hh.next=.cells [.string key,.int .i64 (F6 u.ns p),.int .i64 (F6 u.es p)] 82 .fix:=by rw[k4 _ (by omega)];exact g3
  have V4:E3 h4 82 CntE' vv ((u.ord.take i).map (a1h u)) bb:=j7.keep (by omega) fun hl=>by rw[k4 _ (by omega),o3.obj _ hl]
  have oh4:∀z,z<h.next->h4.obj z=h.obj z:=fun z hz=>by rw[k4 z (by omega),o3.obj z (by omega),j1.obj z hz]
  obtain⟨va,vc,hvv,_⟩:=V4.val
  rw[ll]at hvv
  subst hvv
  rw[<-h4d]
  by_cases ck:i=kk
  ·have b1:((i:Int)==((kk:Nat):Int))=true:=beq_iff_eq.2 (by omega)
   simp(disch:=omega)only[a6A,a8N,↓b5Q,e3,e5,r0,r1,b1,↓l9,m9,zA,zB,zC,zD,zE,zF,zG,zH,zI,reduceCtorEq,zJ,zK,zL,zM]
   refine⟨by rw[kb];rfl,.inr ?_⟩
   refine d9Z ?_
   have nb:h.next+1≠h1.next:=by omega
   have rF:((h4.upd h1.next (.loop 2 (some (.exit 0)))).upd h1.next .gone).obj (h.next+1)=.cells [.slice va i vc] 64 .fix:=by rw[a6 _ _ nb,a6 _ _ nb];exact r1
   simp(disch:=omega)only[b1G,a8N,↓b5Q,e3,e5,rF,↓l9,m9,zA,zB,zC,zD,zE,zF,zG,zH,zI,reduceCtorEq,zJ,zK,zL,zM]
   refine hQ _ _ bb ⟨by show h.next<=h4.next;omega,fun z hz=>by rw[a6 _ _ (by omega),a6 _ _ (by omega)];exact oh4 z hz⟩ ?_ (by omega)
   rw[tl,<-ck]
   exact V4.keep (uzP _) fun _=>by rw[a6 _ _ (by omega),a6 _ _ (by omega)]
  ·have b1:((i:Int)==((kk:Nat):Int))=false:=beq_eq_false_iff_ne.2 (by omega)
   obtain⟨h5,h5d,o5,n5,_⟩:=K2 h4 (.cells [.string key,.int .i64 (F6 u.ns p),.int .i64 (F6 u.es p)] 82 .grow)
   have hc:a1h u p=(key,F6 u.ns p,F6 u.es p):=by unfold a1h;rw[hkey];rfl
   have src5:D1 h5 3 (.slice (some ⟨h4.next,0,none⟩) 1 1)=some (CntE'.all [a1h u p],[a1h u p].length):=by
    rw[h5d,hc];exact O9 CntE' h4 (key,F6 u.ns p,F6 u.es p) _ 1
   simp(disch:=omega)only[a6A,a8N,↓b5Q,e3,e5,r0,r1,r3,b1,y6,G0,vtz,<-h5d,↓l9,m9,zA,zB,zC,zD,zE,zF,zG,zH,zI,reduceCtorEq,zJ,zK,zL,zM]
   refine(V4.old o5).app (m:=[a1h u p]) rfl src5 (by rw[ll,vdz];omega) (by rw[ll,vdz];omega) fun v6 h6 b6 V6 n6 hb6 ho6=>?_
   have nn6:h5.next<=h6.next:=n6
   have hb7:h2.next<=b6:=by
    rcases hb6 with rfl|hb6
    ·exact j8
    ·omega
   obtain⟨va6,vc6,hv6,_⟩:=V6.val
   subst hv6
   have k6:∀z,z<h2.next->h6.obj z=h4.obj z:=fun z hz=>by rw[ho6 z (by omega) (.inr (by omega)),o5.obj z (by omega)]
   have r16:=(k6 (h.next+1) (by omega)).trans r1
   have r06:=(k6 h.next (by omega)).trans r0
   have kb6:=(k6 h1.next (by omega)).trans kb
   simp(disch:=omega)only[a6A,a8N,↓b5Q,e3,e5,r16,setAt,vbz,vez,↓l9,m9,zA,zB,zC,zD,zE,zF,zG,zH,zI,reduceCtorEq,zJ,zK,zL,zM]
   have nb:h1.next≠h.next+1:=by omega
   refine⟨by rw[kb6];rfl,.inl ⟨⟨?_,fun z hz=>?_⟩,?_,by omega,r06,_,b6,rfl,?_,hb7⟩⟩
   ·show h.next<=h6.next;omega
   ·rw[a6 _ _ (by omega),a6 _ _ (by omega),k6 z (by omega)];exact oh4 z hz
   ·omega
   ·rw[I7 hp,List.map_append,List.map_cons,List.map_nil]
    exact V6.keep (uzP _) fun _=>by rw[a6 _ _ (by omega),a6 _ _ (by omega)]
 ·rintro hh ⟨j1,j2,j3,j4,j5,vv,bb,j6,j7,j8⟩
  refine a8r j5 ?_
  have rF:(hh.upd h1.next .gone).obj (h.next+1)=.cells [vv] 64 .fix:=by rw[a6 _ _ (by omega)];exact j6
  simp(disch:=omega)only[b1G,a8N,↓b5Q,e3,e5,rF,↓l9,m9,zA,zB,zC,zD,zE,zF,zG,zH,zI,reduceCtorEq,zJ,zK,zL,zM]
  refine hQ _ _ bb ⟨j1.next,fun z hz=>by rw[a6 _ _ (by omega)];exact j1.obj z hz⟩ ?_ (by omega)
  rw[tl,vnz (show u.ord.length<=kk from j3)]
  rw[List.take_length]at j7
  exact j7.keep (uzP _) fun _=>by rw[a6 _ _ (by omega)]
end
section
variable {h:Heap} {a:LA} {v:LV}
theorem e1U(L:Lmt h a v)(k:Int)(hk:0<=k/\k<=255)(hQ:∀h' v' b,Old h h' ->E3 h' 82 CntE' v' (a2C a.R.T v.U k) b->h.next<=b->Q v' h'):
  u9 cp 125 [.pointer (some ⟨a.p,0,none⟩),.int .i64 k] h Q:=by
 rw[a8 cp e5u]
 have ol:=L.ol
 have un:=L.geo.un
 simp(disch:=omega)only[d0z,↓e4M,ol,↓l9,m9,zA,zB,zC,zD,zE,zF,zG,zH,zI,reduceCtorEq,zJ,zK,zL,zM]
 refine e2k L.U k hk fun h1 v1 b1 o1 V1 hb1=>?_
 rw[un]at V1
 simp(disch:=omega)only[d0z,↓e4M,↓l9,m9,zA,zB,zC,zD,zE,zF,zG,zH,zI,reduceCtorEq,zJ,zK,zL,zM]
 exact hQ h1 v1 b1 o1 V1 hb1
end
section
variable {h h' :Heap} {a:SrvA} {v:SrvV} {ev:Value} {ex:Option Nat}
theorem d0o(S:SrvAt h a v ev ex)(tv:v.T){q:ReqV}(rq:ReqOK a.las.length q)(hop:q.op=2){L:LA}{l:LimV}{x:LV}(hL:a.las[q.rule.toNat]? =some L)(hl:v.ls[q.rule.toNat]? =some l)(hx:b1w L l x)
  {k tm:Int} (B:LB k tm x) (hnow:0<=v.now/\v.now<=tm) {r:(Int×Int×Int)×LV} (hr:r=N5 L.R L.rp x v.now (Q5 v.now v.first v.again L.R.Wd) (bs q.key) q.cost) {Q:Value->Heap->Prop}
  (hQ:∀h' l' u b,OldF L.own h h' ->SrvAt h' a { v with ls:=v.ls.set q.rule.toNat l' } ev ex->b1w L l' r.2->E3 h' 5 B8 u (a2N 2 r.1.1 r.1.2.1 r.1.2.2) b->h.next<=b->Q u h') (hver:0<=r.1.1/\r.1.1<256):
  u9 cp 117 [.pointer (some ⟨a.s,0,none⟩),q.val] h Q:=by
 rw[a8 cp c6U]
 have r1:=rq.rule
 obtain⟨i,hi⟩:∃i:Nat,q.rule=i:=⟨q.rule.toNat,by omega⟩
 rw[hi,vAz]at hL hl hQ
 have il:i<a.las.length:=(List.getElem?_eq_some_iff.1 hL).1
 obtain⟨h1,h1d,o1,n1,g1⟩:=K2 h (.cells [.int .i64 2,.int .i64 i,.int .u32 q.cost,.string (bs q.key),.int .i64 q.k] 61 .fix)
 have S1:=S.old o1
 have os:=S1.os
 have L1:=hx _ (S1.L i L l hL hl)
 have ok:=L1.geo.ok
 have okW:=ok.Wd
 obtain⟨cap,hv,hrd⟩:=S1.K.read (i:=i) (x:=L.R.t) (by rw[uzJ,hL];rfl)
 rw[uzL]at hv
 have hgw:(h1.obj a.kb).get (i*9+1)=some (.int .i64 L.R.Wd):=by
  have:=a0r (i:=1) hrd (by decide) (v:=.int .i64 L.R.Wd) rfl
  rwa [vsz]at this
 obtain⟨cap2,hv2,hrb,hgp⟩:=S1.W.get (i:=i) (p:=L.p) (by rw[uzJ,hL];rfl)
 rw[uzL]at hv2
 have hgp:(h1.obj a.rb).get i=some (.pointer (some ⟨L.p,0,none⟩)):=hgp
 have fN:=fun Q=>a1F os Q
 have fH:=fun Q=>a0A os L.R.Wd (by unfold D5;omega) (by omega) tv.first tv.now Q
 obtain⟨held,hheld⟩:∃held,held=Q5 v.now v.first v.again L.R.Wd:=⟨_,rfl⟩
 rw[<-hheld]at fH hr
 rw[hv,hv2]at os
 have wc:IntKind.i64.wrap q.cost=q.cost:=by have:=rq.cost;rw[R7];omega
 have ks:(bs q.key).size<=64:=by rw[a1B];exact rq.len
 unfold ReqV.val a1U
 rw[hi,hop]
 simp(disch:=omega)only[a0Q,↓a2k,<-h1d,g1,os,hgw,hgp,fN,fH,wc,zN,uzS,↓l9,m9,zA,zB,zC,zD,zE,zF,zG,zH,zI,reduceCtorEq,zJ,zK,zL,zM]
 refine e1X L1 B hnow ks fun h2 o2 L2=>?_
 rw[<-hr]at L2 ⊢
 obtain⟨⟨ver,rem,ret⟩,x'⟩:=r
 simp only at L2 hQ hver ⊢
 have n2:=o2.next
 obtain⟨l',A2,hx'⟩:=L2.rel
 have ownL:∀z,L.own z->z<h.next:=fun z hz=>uzN hz.2 (S.L i L l hL hl).lt
 have S2:=S1.upL hL o2 A2
 have g2:=(o2.obj h.next (by omega) (fun hz=>by have:=ownL _ hz;omega)).trans g1
 simp(disch:=omega)only[a0Q,↓a2k,g1,g2,↓l9,m9,zA,zB,zC,zD,zE,zF,zG,zH,zI,reduceCtorEq,zJ,zK,zL,zM]
 refine a4b h2 2 (.inr rfl) ver rem ret hver fun h3 u b V3 o3 hb=>?_
 simp(disch:=omega)only[a0Q,↓a2k,↓l9,m9,zA,zB,zC,zD,zE,zF,zG,zH,zI,reduceCtorEq,zJ,zK,zL,zM]
 exact hQ h3 l' u b (((o1.f _).trans o2).trans (o3.f _)) (S2.old o3) hx' V3 (by omega)
theorem c7V(S:SrvAt h a v ev ex)(tv:v.T){q:ReqV}(rq:ReqOK a.las.length q)(hop:q.op=3){L:LA}{l:LimV}{x:LV}(hL:a.las[q.rule.toNat]? =some L)(hl:v.ls[q.rule.toNat]? =some l)(hx:b1w L l x)
  (hQ:∀h' u b,Old h h' ->E3 h' 5 B8 u (b7q q.rule [x.al,x.de,x.bd,(L.R.C:Int)-x.P.fl.length,x.U.tot]) b->h.next<=b->Q u h'):
  u9 cp 117 [.pointer (some ⟨a.s,0,none⟩),q.val] h Q:=by
 rw[a8 cp c6U]
 have r1:=rq.rule
 obtain⟨i,hi⟩:∃i:Nat,q.rule=i:=⟨q.rule.toNat,by omega⟩
 rw[hi,vAz]at hL hl
 rw[hi]at hQ
 have il:i<a.las.length:=(List.getElem?_eq_some_iff.1 hL).1
 obtain⟨h1,h1d,o1,n1,g1⟩:=K2 h (.cells [.int .i64 3,.int .i64 i,.int .u32 q.cost,.string (bs q.key),.int .i64 q.k] 61 .fix)
 have S1:=S.old o1
 have os:=S1.os
 have L1:=hx _ (S1.L i L l hL hl)
 have ok:=L1.geo.ok
 have okW:=ok.Wd
 obtain⟨cap,hv,hrd⟩:=S1.K.read (i:=i) (x:=L.R.t) (by rw[uzJ,hL];rfl)
 rw[uzL]at hv
 have hgw:(h1.obj a.kb).get (i*9+1)=some (.int .i64 L.R.Wd):=by
  have:=a0r (i:=1) hrd (by decide) (v:=.int .i64 L.R.Wd) rfl
  rwa [vsz]at this
 obtain⟨cap2,hv2,hrb,hgp⟩:=S1.W.get (i:=i) (p:=L.p) (by rw[uzJ,hL];rfl)
 rw[uzL]at hv2
 have hgp:(h1.obj a.rb).get i=some (.pointer (some ⟨L.p,0,none⟩)):=hgp
 have fN:=fun Q=>a1F os Q
 have fH:=fun Q=>a0A os L.R.Wd (by unfold D5;omega) (by omega) tv.first tv.now Q
 rw[hv,hv2]at os
 unfold ReqV.val a1U
 rw[hi,hop]
 simp(disch:=omega)only[a0Q,↓a2k,<-h1d,g1,os,hgw,hgp,fN,fH,zN,uzS,↓l9,m9,zA,zB,zC,zD,zE,zF,zG,zH,zI,reduceCtorEq,zJ,zK,zL,zM]
 obtain⟨tp,tu,os',ws,A,_⟩:=L1.toAt
 refine c9O A fun h2 o2=>?_
 have n2:=o2.next
 have g2:=(o2.obj h.next (by omega)).trans g1
 unfold e4E
 simp(disch:=omega)only[a0Q,↓a2k,g1,g2,↓l9,m9,zA,zB,zC,zD,zE,zF,zG,zH,zI,reduceCtorEq,zJ,zK,zL,zM]
 refine b5G h2 i _ _ _ _ _ fun h3 u b V3 o3 hb=>?_
 simp(disch:=omega)only[a0Q,↓a2k,↓l9,m9,zA,zB,zC,zD,zE,zF,zG,zH,zI,reduceCtorEq,zJ,zK,zL,zM]
 exact hQ h3 u b ((o1.trans o2).trans o3) V3 (by omega)
theorem e0T(S:SrvAt h a v ev ex)(tv:v.T){q:ReqV}(rq:ReqOK a.las.length q)(hop:q.op=4){L:LA}{l:LimV}{x:LV}(hL:a.las[q.rule.toNat]? =some L)(hl:v.ls[q.rule.toNat]? =some l)(hx:b1w L l x)
  (hQ:∀h' u b,Old h h' ->E3 h' 5 B8 u (b6N q.rule (a2C L.R.T x.U q.k)) b->h.next<=b->Q u h') (hz:∀c∈a2C L.R.T x.U q.k,c.1.size<=64):
  u9 cp 117 [.pointer (some ⟨a.s,0,none⟩),q.val] h Q:=by
 rw[a8 cp c6U]
 have r1:=rq.rule
 have rk:=rq.k
 obtain⟨i,hi⟩:∃i:Nat,q.rule=i:=⟨q.rule.toNat,by omega⟩
 rw[hi,vAz]at hL hl
 rw[hi]at hQ
 have il:i<a.las.length:=(List.getElem?_eq_some_iff.1 hL).1
 obtain⟨h1,h1d,o1,n1,g1⟩:=K2 h (.cells [.int .i64 4,.int .i64 i,.int .u32 q.cost,.string (bs q.key),.int .i64 q.k] 61 .fix)
 have S1:=S.old o1
 have os:=S1.os
 have L1:=hx _ (S1.L i L l hL hl)
 have ok:=L1.geo.ok
 have okW:=ok.Wd
 obtain⟨cap,hv,hrd⟩:=S1.K.read (i:=i) (x:=L.R.t) (by rw[uzJ,hL];rfl)
 rw[uzL]at hv
 have hgw:(h1.obj a.kb).get (i*9+1)=some (.int .i64 L.R.Wd):=by
  have:=a0r (i:=1) hrd (by decide) (v:=.int .i64 L.R.Wd) rfl
  rwa [vsz]at this
 obtain⟨cap2,hv2,hrb,hgp⟩:=S1.W.get (i:=i) (p:=L.p) (by rw[uzJ,hL];rfl)
 rw[uzL]at hv2
 have hgp:(h1.obj a.rb).get i=some (.pointer (some ⟨L.p,0,none⟩)):=hgp
 have fN:=fun Q=>a1F os Q
 have fH:=fun Q=>a0A os L.R.Wd (by unfold D5;omega) (by omega) tv.first tv.now Q
 rw[hv,hv2]at os
 unfold ReqV.val a1U
 rw[hi,hop]
 simp(disch:=omega)only[a0Q,↓a2k,<-h1d,g1,os,hgw,hgp,fN,fH,zN,uzS,↓l9,m9,zA,zB,zC,zD,zE,zF,zG,zH,zI,reduceCtorEq,zJ,zK,zL,zM]
 refine e1U L1 q.k (by omega) fun h2 lv lb o2 V2 hb2=>?_
 have n2:=o2.next
 have g2:=(o2.obj h.next (by omega)).trans g1
 simp(disch:=omega)only[a0Q,↓a2k,g1,g2,↓l9,m9,zA,zB,zC,zD,zE,zF,zG,zH,zI,reduceCtorEq,zJ,zK,zL,zM]
 have tl:(a2C L.R.T x.U q.k).length<=64:=by
  unfold a2C
  have:=ok.T
  rw[uzL,vqz];omega
 refine c8Z h2 i lv _ V2.sl tl hz fun h3 u b V3 o3 hb=>?_
 simp(disch:=omega)only[a0Q,↓a2k,↓l9,m9,zA,zB,zC,zD,zE,zF,zG,zH,zI,reduceCtorEq,zJ,zK,zL,zM]
 exact hQ h3 u b ((o1.trans o2).trans o3) V3 (by omega)
end
structure SW where
 now:Int
 first:Int
 again:Bool
 read:Bool
 cs:List CV
 ls:List LV
 k:Int
structure SRel(a:SrvA)(w:SW)(v:SrvV):Prop where
 now:v.now=w.now
 first:v.first=w.first
 again:v.again=w.again
 read:v.read=w.read
 cs:v.cs=w.cs
 len:w.ls.length=v.ls.length
 rel:∀(i:Nat) (L:LA) (l:LimV) (x:LV),a.las[i]? =some L->v.ls[i]? =some l->w.ls[i]? =some x->b1w L l x
structure SB(w:SW):Prop where
 now:0<=w.now/\w.now<=1000000000
 first:0<=w.first/\w.first<=1000000000
 k:0<=w.k/\w.k<=1000000000
 lb:∀x∈w.ls,LB w.k 1000000000 x
def WV(a:SrvA)(st:SW×List EvT)(s:SrvV×List EvT):Prop:=SRel a st.1 s.1/\SB st.1/\(st.2.length:Int)<=2*st.1.k/\s.2=st.2
def SW.rd(w:SW)(r:Int):SW:={ w with now:=max (max w.now r) 0,first:=if w.read then w.first else max (max w.now r) 0,read:=true }
def H4(R:RuleV)(rp:RP)(v:LV)(now held:Int)(q:ReqV):LV×List EvT' ×List Int:=
 if q.op=1 then
  let r:=B3 R rp v now held (bs q.key) q.cost
  (r.2.2,r.2.1,a2N 1 r.1.1 r.1.2.1 r.1.2.2)
 else if q.op=2 then
  let r:=N5 R rp v now held (bs q.key) q.cost
  (r.2,[],a2N 2 r.1.1 r.1.2.1 r.1.2.2)
 else if q.op=3 then(v,[],b7q q.rule [v.al,v.de,v.bd,(R.C:Int)-v.P.fl.length,v.U.tot])
 else(v,[],b6N q.rule (a2C R.T v.U q.k))
def N7(las:List LA)(st:SW×List EvT)(q:ReqV):(SW×List EvT)×List Int:=
 match las[q.rule.toNat]?,st.1.ls[q.rule.toNat]? with
 |some L,some v=>
  let r:=H4 L.R L.rp v st.1.now (Q5 st.1.now st.1.first st.1.again L.R.Wd) q
  (({ st.1 with ls:=st.1.ls.set q.rule.toNat r.1,k:=st.1.k+1 },st.2++evO q.rule r.2.1),r.2.2)
 |_,_=>(st,[])
def a2e(las:List LA)(st:SW×List EvT)(q:ReqV):Int:=match las[q.rule.toNat]? with|some L=>T8 q.op q.k L.R.T|none=>22
def okW(st:SW×List EvT)(q:ReqV):Prop:=st.1.k+1<=1000000000
theorem RP.geo{a:LA}{nx:Nat}(g:LGeo a nx):1<=a.rp.W/\a.rp.N<=65:=by
 have ok:=g.ok
 have hS:=ok.S
 have hWd:=ok.Wd
 have e:=Int.mul_ediv_add_emod a.R.Wd (a.R.S:Int)
 rw[ok.Sd,Int.add_zero]at e
 have h0:0<=a.R.Wd / (a.R.S:Int):=Int.ediv_nonneg (by omega) (by omega)
 have h1:=g.gW
 have h2:=g.gN
 refine⟨?_,by omega⟩
 rcases Int.lt_or_eq_of_le h0 with h|h
 ·omega
 ·rw[<-h,Int.mul_zero]at e;omega
theorem b1f(R:RuleV)(rp:RP)(v:LV)(now held:Int)(key:ByteArray)(cost:Int):1<=(N5 R rp v now held key cost).1.1/\(N5 R rp v now held key cost).1.1<=3:=by
 have hv:∀x,1<=a9b x/\a9b x<=3:=fun x=>by unfold a9b;split<;>decide
 unfold N5
 split
 ·rename_i hr
  have:=a4J hr
  exact⟨Int.le_trans (by decide) this.1,this.2⟩
 ·simp only
  split
  ·exact hv _
  ·exact hv _
theorem LB.toG{k tm:Int}{v:LV}(B:LB k tm v){now:Int}(hn:0<=now/\now<=tm):LB k tm { v with G:=Can.toG v.G now }:=by
 have h3:=B.now
 exact⟨B.k0,B.t0,B.cells,B.pos,B.bd,by show 0<=max v.G.now now/\max v.G.now now<=tm;omega,B.tot⟩
theorem LB.peek{k tm:Int}{v:LV}(B:LB k tm v){R:RuleV}{rp:RP}{now held cost:Int}(hn:0<=now/\now<=tm)(key:ByteArray):LB k tm (N5 R rp v now held key cost).2:=by
 unfold N5
 split
 ·exact B
 ·simp only
  split
  ·exact B.toG hn
  ·exact B.toG hn
theorem LB.ans{k tm:Int}{v:LV}(B:LB k tm v)(hk:k+1<=1000000000){R:RuleV}(ok:R.OK){rp:RP}(hW:1<=rp.W)(hN:rp.N<=65){now held:Int}(hn:0<=now/\now<=tm)(q:ReqV)(pok:v.P.OK R.C):LB (k+1) tm (H4 R rp v now held q).1:=by
 unfold H4
 split
 ·exact B.check hk ok (RuleV.pace ok) hW hN hn _ pok
 ·split
  ·exact(B.peek hn _).next hk
  ·split
   ·exact B.next hk
   ·exact B.next hk
theorem c8X(R:RuleV)(rp:RP)(v:LV)(now held:Int)(q:ReqV):(H4 R rp v now held q).2.1.length<=2:=by
 unfold H4
 split
 ·exact a3x _ _ _ _ _ _ _
 ·split
  ·exact vJz _
  ·split
   ·exact vJz _
   ·exact vJz _
def SzU(n:Nat)(u:SV):Prop:=∀p key,u.keys p=some key->p∈u.ord->key.size<=64
theorem b1s{n:Nat}{u:SV}(h:SzU n u)(k:Int):∀c∈a2C n u k,c.1.size<=64:=fun c hc=>by
 unfold a2C at hc
 obtain⟨p,hp,rfl⟩:=List.mem_map.1 hc
 have hm:=List.mem_of_mem_take hp
 unfold a1h
 cases hk:u.keys p with
 |none=>exact vJz _
 |some key=>exact h p key hk hm
theorem Sum.sz{h:Heap}{a:SA}{u:SV}(P:Sum h a u):SzU a.n u:=fun p key hk hm=>by
 obtain⟨tab,os,ws,q,t,o⟩:=P.at_
 obtain⟨s0,_,_,hsn,_,hsg⟩:=q.s.S
 have:=((o.mem p).1 hm).1
 exact(hsg.held p key (by omega) hk).2.1
theorem e0u{n:Nat}{u:SV}(k:Int):(a2C n u k).length<=(min (max k 1) (n:Int)).toNat:=by
 unfold a2C
 rw[uzL]
 exact List.length_take_le _ _
theorem a8b{R:RuleV}{rp:RP}{v:LV}{now held:Int}{q:ReqV}(hop:q.op=1\/q.op=2\/q.op=3\/q.op=4)(hT:1<=R.T)(sz:SzU R.T v.U):((H4 R rp v now held q).2.2.length:Int)<=T8 q.op q.k R.T/\E4 (H4 R rp v now held q).2.2:=by
 unfold H4 T8
 rcases hop with e|e|e|e
 ·rw[e]
  simp only[if_true,Int.reduceEq,if_false]
  have:=a7E R rp v now held (bs q.key) q.cost
  exact⟨by rw[a2O];decide,a9f _ _ _ _ (by decide) (by omega)⟩
 ·rw[e]
  simp only[if_true,Int.reduceEq,if_false]
  have:=b1f R rp v now held (bs q.key) q.cost
  exact⟨by rw[a2O];decide,a9f _ _ _ _ (by decide) (by omega)⟩
 ·rw[e]
  simp only[if_true,Int.reduceEq,if_false]
  exact⟨by rw[e0v _ rfl];decide,c9N _ _⟩
 ·rw[e]
  simp only[if_true,Int.reduceEq,if_false]
  refine⟨?_,c9b _ _⟩
  have h1:=e0u (n:=R.T) (u:=v.U) q.k
  have h2:=d9v q.rule (a2C R.T v.U q.k) (b1s sz q.k)
  omega
theorem b6G{a:SrvA}{k:Nat}{A:CA}(hA:a.cas[k]? =some A)(hAr:A.rr=a.las.length)(hap:∀z,A.own z->z≠a.s/\∀(i:Nat) (L:LA),a.las[i]? =some L->¬L.own z)(N:Nat):
  Host (SW×List EvT) a.s (a.ansF N) A (fun hh st=>∃s,HI a k N hh s/\WV a st s) okW (a2e a.las) (N7 a.las) where
 keep:=fun⟨s,I,W⟩ o=>⟨s,I.keep hA o,W⟩
 most_ok:=fun {h st q Q} I rq hq hQ=>by
  obtain⟨s,⟨nn,ev,eb,S,V,e⟩,W⟩:=I
  rw[hAr]at rq
  have r1:=rq.rule
  have il:q.rule.toNat<a.las.length:=by omega
  have hl:=uzF il
  obtain⟨l,hll⟩:∃l,s.1.ls[q.rule.toNat]? =some l:=⟨_,uzF (by rw[S.ll];exact il)⟩
  refine d9x S rq hl (S.L _ _ l hl hll).ok fun h' o=>?_
  have e:a2e a.las st q=T8 q.op q.k (a.las[q.rule.toNat]).R.T:=by unfold a2e;rw[hl]
  rw[<-e]
  exact hQ h' o
 ans_ok:=fun {h st q Q} I rq hq hQ=>by
  obtain⟨⟨sv,evs⟩,⟨nn,ev,eb,S,V,e⟩,W⟩:=I
  obtain⟨Wr,Wb,We,Ws⟩:=W
  simp only at S V e Wr Ws
  subst Ws
  rw[hAr]at rq
  have r1:=rq.rule
  have il:q.rule.toNat<a.las.length:=by omega
  have hl:=uzF il
  obtain⟨L,hLd⟩:∃L,L=a.las[q.rule.toNat]:=⟨_,rfl⟩
  rw[<-hLd]at hl
  obtain⟨l,hll⟩:∃l,sv.ls[q.rule.toNat]? =some l:=⟨_,uzF (by rw[S.ll];exact il)⟩
  have iw:q.rule.toNat<st.1.ls.length:=by rw[Wr.len,S.ll];exact il
  obtain⟨x,hx⟩:∃x,st.1.ls[q.rule.toNat]? =some x:=⟨_,uzF iw⟩
  have n1:=Wr.now
  have n2:=Wr.first
  have n3:=Wr.again
  have b1:=Wb.now
  have b2:=Wb.first
  have b3:=Wb.k
  have hq:st.1.k+1<=1000000000:=hq
  have rel:=Wr.rel _ L l x hl hll hx
  have M:=rel _ (S.L _ L l hl hll)
  have B:=Wb.lb x (uzK hx)
  obtain⟨gW,gN⟩:=RP.geo M.geo
  have e' :a3p a N st.2 ev eb:=by
   rcases e with⟨e1,e2⟩|e
   ·exact .inl ⟨e1,e2⟩
   ·exact .inr e
  obtain⟨R,hR⟩:∃R,R=H4 L.R L.rp x st.1.now (Q5 st.1.now st.1.first st.1.again L.R.Wd) q:=⟨_,rfl⟩
  have an:N7 a.las st q=(({ st.1 with ls:=st.1.ls.set q.rule.toNat R.1,k:=st.1.k+1 },st.2++evO q.rule R.2.1),R.2.2):=by
   unfold N7;rw[hl,hx];simp only;rw[<-hR]
  rw[an]at hQ
  have pok:x.P.OK L.R.C:=by have:=M.P.ok;rw[M.geo.pn]at this;exact this
  have B' :LB (st.1.k+1) 1000000000 R.1:=by rw[hR];exact B.ans hq M.geo.ok gW gN b1 q pok
  have el:R.2.1.length<=2:=by rw[hR];exact c8X _ _ _ _ _ _
  have tv:sv.T:=⟨by rw[n1];unfold D5;omega,by rw[n2];unfold D5;omega⟩
  have hsn:0<=sv.now/\sv.now<=1000000000:=by rw[n1];exact b1
  have fin:∀(h' :Heap) (l' :LimV) (u ev' :Value) (b eb' :Nat),OldF (a.ansF N) h h' ->SrvAt h' a { sv with ls:=sv.ls.set q.rule.toNat l' } ev' (some k)->b1w L l' R.1->E3 h' 123 EvE ev' (st.2++evO q.rule R.2.1) eb' ->a3p a N (st.2++evO q.rule R.2.1) ev' eb' ->E3 h' 5 B8 u R.2.2 b->h.next<=b->Q u h' :=by
   intro h' l' u ev' b eb' o S' rel' V' e2 V2 hb
   refine hQ h' u b o ⟨({ sv with ls:=sv.ls.set q.rule.toNat l' },st.2++evO q.rule R.2.1),⟨⟨by have:=o.next;omega,nn.2⟩,ev',eb',S',V',?_⟩,⟨n1,n2,n3,Wr.read,Wr.cs,?_,fun i L' l2 x2 h1 h2 h3=>?_⟩,⟨b1,b2,?_,fun y hy=>?_⟩,?_,rfl⟩ V2 hb
   ·rcases e2 with⟨e1,e2⟩|e2
    ·exact .inl ⟨e1,e2⟩
    ·exact .inr e2
   ·show(st.1.ls.set _ _).length=(sv.ls.set _ _).length
    rw[viz,viz];exact Wr.len
   ·have h2:(sv.ls.set q.rule.toNat l')[i]? =some l2:=h2
    have h3:(st.1.ls.set q.rule.toNat R.1)[i]? =some x2:=h3
    by_cases ei:q.rule.toNat=i
    ·subst ei
     rw[uzH (List.getElem?_eq_some_iff.1 hll).1]at h2
     rw[uzH iw]at h3
     rw[hl]at h1
     rw[<-uzA h1,<-uzA h2,<-uzA h3]
     exact rel'
    ·rw[uzI ei]at h2 h3
     exact Wr.rel i L' l2 x2 h1 h2 h3
   ·show 0<=st.1.k+1/\st.1.k+1<=_
    omega
   ·have hy:y∈st.1.ls.set q.rule.toNat R.1:=hy
    rcases vIz hy with hy|rfl
    ·exact(Wb.lb y hy).next hq
    ·exact B'
   ·show((st.2++evO q.rule R.2.1).length:Int)<=2*(st.1.k+1)
    unfold evO
    rw[uzG,uzL]
    omega
  have noev:st.2++evO q.rule []=st.2:=vtz _
  have stay:∀(h' :Heap) (u:Value) (b:Nat),R.1=x->R.2.1=[]->Old h h' ->E3 h' 5 B8 u R.2.2 b->h.next<=b->Q u h' :=fun h' u b r1 r2 o V2 hb=>by
   have sset:{ sv with ls:=sv.ls.set q.rule.toNat l }=sv:=by
    have:sv.ls.set q.rule.toNat l=sv.ls:=by
     apply List.ext_getElem?
     intro i
     by_cases ei:q.rule.toNat=i
     ·subst ei;rw[uzH (List.getElem?_eq_some_iff.1 hll).1,hll]
     ·rw[uzI ei]
    rw[this]
   refine fin h' l u ev b eb (o.f _) (by rw[sset];exact S.old o) (by rw[r1];exact rel) (by rw[r2,noev];exact V.old o) (by rw[r2,noev];exact e') V2 hb
  rcases rq.op with op|op|op|op
  ·have hR1:R=((B3 L.R L.rp x st.1.now (Q5 st.1.now st.1.first st.1.again L.R.Wd) (bs q.key) q.cost).2.2,(B3 L.R L.rp x st.1.now (Q5 st.1.now st.1.first st.1.again L.R.Wd) (bs q.key) q.cost).2.1,a2N 1 (B3 L.R L.rp x st.1.now (Q5 st.1.now st.1.first st.1.again L.R.Wd) (bs q.key) q.cost).1.1 (B3 L.R L.rp x st.1.now (Q5 st.1.now st.1.first st.1.again L.R.Wd) (bs q.key) q.cost).1.2.1 (B3 L.R L.rp x st.1.now (Q5 st.1.now st.1.first st.1.again L.R.Wd) (bs q.key) q.cost).1.2.2):=by
    rw[hR];unfold H4;rw[if_pos op]
   obtain⟨r,hr⟩:∃r,r=B3 L.R L.rp x st.1.now (Q5 st.1.now st.1.first st.1.again L.R.Wd) (bs q.key) q.cost:=⟨_,rfl⟩
   rw[<-hr]at hR1
   refine c7U S tv rq op hl hll rel B hq hsn V e' (by omega) nn.1 (fun z hz=>uzN (nn.2 z hz) nn.1) (r:=r) (by rw[hr,n1,n2,n3]) fun h' ev' eb' l' u b o S' rel' V' e2 V2 hb=>?_
   exact fin h' l' u ev' b eb' o S' (by rw[hR1];exact rel') (by rw[hR1];exact V') (by rw[hR1];exact e2) (by rw[hR1];exact V2) hb
  ·obtain⟨r,hr⟩:∃r,r=N5 L.R L.rp x st.1.now (Q5 st.1.now st.1.first st.1.again L.R.Wd) (bs q.key) q.cost:=⟨_,rfl⟩
   have hR1:R=(r.2,[],a2N 2 r.1.1 r.1.2.1 r.1.2.2):=by
    rw[hR,hr];unfold H4;rw[if_neg (by omega),if_pos op]
   have hver:=b1f L.R L.rp x st.1.now (Q5 st.1.now st.1.first st.1.again L.R.Wd) (bs q.key) q.cost
   rw[<-hr]at hver
   refine d0o S tv rq op hl hll rel B hsn (r:=r) (by rw[hr,n1,n2,n3]) (fun h' l' u b o S' rel' V2 hb=>?_) (by omega)
   have oA:OldF (a.ansF N) h h' :=o.mono fun z hz=> .inr (.inl ⟨_,L,hl,hz⟩)
   have V' :E3 h' 123 EvE ev st.2 eb:=by
    rcases e' with⟨e1,e2⟩|e'
    ·rw[e1,e2];exact E3.nil _ _ _ _
    ·exact V.keep o.next fun hlb=>o.obj eb hlb fun hz=>e'.1 (.inr (.inr (.inr (.inr (.inr ⟨_,L,hl,hz⟩)))))
   have noev' :st.2++evO q.rule R.2.1=st.2:=by rw[hR1];exact noev
   exact fin h' l' u ev b eb oA S' (by rw[hR1];exact rel') (by rw[noev'];exact V') (by rw[noev'];exact e') (by rw[hR1];exact V2) hb
  ·have hR1:R=(x,[],b7q q.rule [x.al,x.de,x.bd,(L.R.C:Int)-x.P.fl.length,x.U.tot]):=by
    rw[hR];unfold H4;rw[if_neg (by omega),if_neg (by omega),if_pos op]
   refine c7V S tv rq op hl hll rel fun h' u b o V2 hb=>?_
   exact stay h' u b (by rw[hR1]) (by rw[hR1]) o (by rw[hR1];exact V2) hb
  ·have hR1:R=(x,[],b6N q.rule (a2C L.R.T x.U q.k)):=by
    rw[hR];unfold H4;rw[if_neg (by omega),if_neg (by omega),if_neg (by omega)]
   have sz:SzU L.R.T x.U:=by have:=M.U.sz;rw[M.geo.un]at this;exact this
   refine e0T S tv rq op hl hll rel (fun h' u b o V2 hb=>?_) (b1s sz q.k)
   exact stay h' u b (by rw[hR1]) (by rw[hR1]) o (by rw[hR1];exact V2) hb
 len:=fun {h st q} I rq hq=>by
  obtain⟨s,⟨nn,ev,eb,S,V,e⟩,Wr,Wb,We,Ws⟩:=I
  unfold a2e N7
  cases hl:a.las[q.rule.toNat]? with
  |none=>exact⟨by simp,fun x hx=>by simp at hx⟩
  |some L=>
   cases hx:st.1.ls[q.rule.toNat]? with
   |none=>
    simp only
    refine⟨?_,fun x hx=>by simp at hx⟩
    have:=rq.k
    unfold T8
    simp only[vkz]
    split
    ·decide
    ·split
     ·have:(0:Int)<=L.R.T:=by omega
      omega
     ·decide
   |some v=>
    simp only
    have hi:=(List.getElem?_eq_some_iff.1 hl).1
    obtain⟨l,hll⟩:∃l,s.1.ls[q.rule.toNat]? =some l:=⟨_,uzF (by rw[S.ll];exact hi)⟩
    have M:=Wr.rel _ L l v hl hll hx _ (S.L _ L l hl hll)
    have sz:SzU L.R.T v.U:=by have:=M.U.sz;rw[M.geo.un]at this;exact this
    exact a8b rq.op M.geo.ok.T.1 sz
 apart:=fun z hz hF=>by
  obtain⟨h1,h2⟩:=hap z hz
  rcases hF with e| ⟨i,L,hL,hz'⟩| ⟨_,hn⟩
  ·exact h1 e
  ·exact h2 i L hL hz'
  ·exact hn (.inr (.inr (.inr (.inr (.inl ⟨k,A,by simp,hA,hz⟩)))))
def Srv(h:Heap)(a:SrvA)(w:SW):Prop:=∃v,SrvAt h a v K9 none/\SRel a w v/\SB w
section
variable {h h' :Heap} {a:SrvA} {w:SW}
theorem Srv.old(S:Srv h a w)(o:Old h h'):Srv h' a w:=by
 obtain⟨v,S,r⟩:=S
 exact⟨v,S.old o,r⟩
theorem Srv.lt(S:Srv h a w){z:Nat}(hz:a.own none z):z<h.next:=by
 obtain⟨v,S,r⟩:=S
 exact S.lt hz
theorem Srv.oldF{F:Nat->Prop}(S:Srv h a w)(o:OldF F h h')(hF:∀z,a.own none z->¬F z):Srv h' a w:=by
 obtain⟨v,S,r⟩:=S
 exact⟨v,S.oldF o fun z hz _=>hF z hz,r⟩
theorem SRel.rd{v:SrvV}(r:SRel a w v)(t:Int):SRel a (w.rd t) (v.rd t):=by
 refine⟨?_,?_,r.again,rfl,r.cs,r.len,r.rel⟩
 ·show max (max v.now t) 0=max (max w.now t) 0
  rw[r.now]
 ·show(if v.read then v.first else max (max v.now t) 0)=(if w.read then w.first else max (max w.now t) 0)
  rw[r.now,r.first,r.read]
theorem SB.rd(b:SB w){t:Int}(ht:t<=1000000000):SB (w.rd t):=by
 have b1:=b.now
 have b2:=b.first
 refine⟨?_,?_,b.k,b.lb⟩
 ·show 0<=max (max w.now t) 0/\max (max w.now t) 0<=_
  omega
 ·show 0<=(if w.read then w.first else max (max w.now t) 0)/\(if w.read then w.first else max (max w.now t) 0)<=_
  split<;>omega
theorem SRel.conn{v:SrvV}(r:SRel a w v)(cs:List CV):SRel a { w with cs:=cs } { v with cs:=cs }:=⟨r.now,r.first,r.again,r.read,rfl,r.len,r.rel⟩
theorem SB.conn(b:SB w)(cs:List CV):SB { w with cs:=cs }:=⟨b.now,b.first,b.k,b.lb⟩
theorem SrvAt.tags{v:SrvV}{ev:Value}{ex:Option Nat}(S:SrvAt h a v ev ex){k:Nat}{A:CA}(hA:a.cas[k]? =some A):∀z,A.own z->z≠a.s/\∀(i:Nat) (L:LA),a.las[i]? =some L->¬L.own z:=fun z hz=>by
 have t:=S.tC k A z hA hz
 refine⟨fun e=>?_,fun i L hL h2=>?_⟩
 ·rw[e,S.ts]at t;omega
 ·have:=S.tL i L z hL h2;omega
variable {k:Nat} {A:CA} {c:CV}
theorem c9I(S:Srv h a w)(hA:a.cas[k]? =some A)(hc:w.cs[k]? =some c)(hw:c.w=true)(hr:c.r=A.rr)(di:c.e=0->U6 c.bs c.n c.r)
  (r n:Int) (ht:r<=1000000000) (x:Value) (l:List Int) (sl:Bys h x l) (byt:E4 l) (hll:l.length<=100000) (hok:okS (a2e a.las) (N7 a.las) A.S okW l (w.rd r,[]) c) (hg:∀z o cap,x=.slice (some ⟨z,o,none⟩) l.length cap->¬a.own none z)
  {R:(SW×List EvT)×CV×Nat} (hR:R=C8 (a2e a.las) (N7 a.las) A.S l (w.rd r,[]) c) {Q:Value->Heap->Prop}
  (hQ:∀h' evv eb,OldF (a.own none) h h' ->(R.2.1.w=true/\R.2.1.r=A.rr/\(R.2.1.e=0->U6 R.2.1.bs R.2.1.n R.2.1.r))->Srv h' a { R.1.1 with cs:=R.1.1.cs.set k R.2.1 }->
   E3 h' 123 EvE evv R.1.2 eb/\(R.1.2=[]/\evv=.slice none 0 0\/h.next<=eb)->Q (.agg #[.int .i64 0,.int .i64 R.2.2,K9,evv]) h'):
  u9 cp 15 [.pointer (some ⟨a.s,0,none⟩),.agg #[.int .i64 2,.int .i64 r,.int .i64 k,x,.int .i64 n,.slice none 0 0]] h Q:=by
 obtain⟨v,S,rel,sb⟩:=S
 have hcv:v.cs[k]? =some c:=by rw[rel.cs];exact hc
 refine d8X (V:=WV a) (F:=a.ansF) (fun N=>b6G hA (S.cr k A hA).1 (S.tags hA) N) (fun N z hz=>?_) S hA hcv hw hr di r n ⟨rel.rd r,sb.rd ht,?_,rfl⟩ x l sl byt hll hok hg fun h' evv eb s o cc V S' Vv=>?_
 ·rcases hz with e| ⟨i,L,hL,hz⟩| ⟨hz,_⟩
  ·exact .inl (.inl e)
  ·exact .inl (.inr (.inr (.inr (.inr (.inr ⟨i,L,hL,hz⟩)))))
  ·exact .inr hz
 ·have:=sb.k
  show((0:Nat):Int)<=2*w.k
  omega
 ·rw[<-hR]at cc V S' ⊢
  obtain⟨V1,V2,V3,V4⟩:=V
  rw[V4]at Vv
  refine hQ h' evv eb o cc ⟨_,S',?_,V2.conn _⟩ Vv
  rw[V1.cs]
  exact V1.conn _
theorem e0r(S:Srv h a w)(hA:a.cas[k]? =some A)(hc:w.cs[k]? =some c)(hw:c.w=false)(r n:Int)(ht:r<=1000000000)
  (hQ:∀h',OldF (a.own none) h h' ->Srv h' a { w.rd r with cs:=w.cs.set k (a7J A.rr) }->Q (.agg #[.int .i64 0,.int .i64 0,K9,K9]) h'):
  u9 cp 15 [.pointer (some ⟨a.s,0,none⟩),.agg #[.int .i64 0,.int .i64 r,.int .i64 k,.slice none 0 0,.int .i64 n,.slice none 0 0]] h Q:=by
 obtain⟨v,S,rel,sb⟩:=S
 have hcv:v.cs[k]? =some c:=by rw[rel.cs];exact hc
 refine e1C S hA hcv hw r n fun h' o S' =>hQ h' o ⟨_,S',?_,(sb.rd ht).conn _⟩
 rw[rel.cs]
 exact(rel.rd r).conn _
theorem c9J(S:Srv h a w)(hA:a.cas[k]? =some A)(hc:w.cs[k]? =some c)(hw:c.w=true)(r n:Int)(ht:r<=1000000000)
  (hQ:∀h' u b,OldF (a.own none) h h' ->Srv h' a { w.rd r with cs:=w.cs.set k { c with qs:=c.qs.drop n.toNat } }->E3 h' 5 B8 u (c.qs.take n.toNat) b->h.next<=b->Q (.agg #[.int .i64 0,.int .i64 0,u,K9]) h'):
  u9 cp 15 [.pointer (some ⟨a.s,0,none⟩),.agg #[.int .i64 3,.int .i64 r,.int .i64 k,.slice none 0 0,.int .i64 n,.slice none 0 0]] h Q:=by
 obtain⟨v,S,rel,sb⟩:=S
 have hcv:v.cs[k]? =some c:=by rw[rel.cs];exact hc
 refine d8Y S hA hcv hw r n fun h' u b o S' V hb=>hQ h' u b o ⟨_,S',?_,(sb.rd ht).conn _⟩ V hb
 rw[rel.cs]
 exact(rel.rd r).conn _
end
structure Idl(c:CV)(rr:Int)(qs:List Int):Prop where
 w:c.w=true
 r:c.r=rr
 e:c.e=0
 n:c.n=0
 bs:c.bs.length=75
 qs:c.qs=qs
abbrev Qs:=Nat->Option (List Int)
def Qs.set(q:Qs)(k:Nat)(l:List Int):Qs:=fun j=>if j=k then some l else q j
theorem Qs.set_self(q:Qs)(k:Nat)(l:List Int):q.set k l k=some l:=if_pos rfl
theorem Qs.set_ne(q:Qs){k j:Nat}(l:List Int)(h:j≠k):q.set k l j=q j:=if_neg h
def SI(h:Heap)(a:SrvA)(w:SW)(q:Qs):Prop:=∃cs,Srv h a { w with cs:=cs }/\∀k l,q k=some l->∃A c,a.cas[k]? =some A/\cs[k]? =some c/\Idl c A.rr l
section
variable {h h' :Heap} {a:SrvA} {w:SW} {q:Qs}
theorem SI.old(S:SI h a w q)(o:Old h h'):SI h' a w q:=by
 obtain⟨cs,S,r⟩:=S
 exact⟨cs,S.old o,r⟩
theorem SI.lt(S:SI h a w q){z:Nat}(hz:a.own none z):z<h.next:=by
 obtain⟨cs,S,r⟩:=S
 exact S.lt hz
theorem SI.oldF{F:Nat->Prop}(S:SI h a w q)(o:OldF F h h')(hF:∀z,a.own none z->¬F z):SI h' a w q:=by
 obtain⟨cs,S,r⟩:=S
 exact⟨cs,S.oldF o hF,r⟩
theorem SI.set{cs:List CV}{w' :SW}(S:Srv h' a { w' with cs:=cs }){k:Nat}{A:CA}{c:CV}{l:List Int}(hA:a.cas[k]? =some A)(hc:cs[k]? =some c)(I:Idl c A.rr l)(hq:∀j m,j≠k->q j=some m->∃A c,a.cas[j]? =some A/\cs[j]? =some c/\Idl c A.rr m):SI h' a w' (q.set k l):=
 ⟨cs,S,fun j m hj=>by
  by_cases e:j=k
  ·subst e
   rw[Qs.set_self]at hj
   rw[<-uzA hj]
   exact⟨A,c,hA,hc,I⟩
  ·rw[Qs.set_ne _ _ e]at hj
   exact hq j m e hj⟩
theorem e0R(las:List LA)(w:SW)(cs:List CV)(evs:List EvT)(rq:ReqV):N7 las ({ w with cs:=cs },evs) rq=(({ (N7 las (w,evs) rq).1.1 with cs:=cs },(N7 las (w,evs) rq).1.2),(N7 las (w,evs) rq).2):=by
 unfold N7
 cases e1:las[rq.rule.toNat]? <;>cases e2:w.ls[rq.rule.toNat]? <;>simp only[e1,e2]
theorem e0j(S:SI h a w q){k:Nat}{l:List Int}(hq:q k=some l){rq:ReqV}(rc:ReqC a.las.length rq)(hk:w.k+1<=1000000000)(hou:∀L,a.las[rq.rule.toNat]? =some L->(l.length:Int)+T8 rq.op rq.k L.R.T<=a.ou)(t n:Int)(ht:t<=1000000000)
  (x:Value) (sl:Bys h x (C4 rq)) (byt:E4 (C4 rq)) (hg:∀z o cap,x=.slice (some ⟨z,o,none⟩) (C4 rq).length cap->¬a.own none z) {R:(SW×List EvT)×List Int} (hR:R=N7 a.las (w.rd t,[]) rq) {Q:Value->Heap->Prop}
  (hQ:∀h' evv eb,OldF (a.own none) h h' ->SI h' a R.1.1 (q.set k (l++R.2))->E3 h' 123 EvE evv R.1.2 eb/\(R.1.2=[]/\evv=.slice none 0 0\/h.next<=eb)->Q (.agg #[.int .i64 0,.int .i64 (C4 rq).length,K9,evv]) h'):
  u9 cp 15 [.pointer (some ⟨a.s,0,none⟩),.agg #[.int .i64 2,.int .i64 t,.int .i64 k,x,.int .i64 n,.slice none 0 0]] h Q:=by
 obtain⟨cs,S,hcs⟩:=S
 obtain⟨A,c,hA,hc,I⟩:=hcs k l hq
 obtain⟨v,SA,_⟩:=id S
 obtain⟨hAr,hAS⟩:=SA.cr k A hA
 have hc' :({ w with cs:=cs }:SW).cs[k]? =some c:=hc
 have wrd:(({ w with cs:=cs }:SW).rd t)={ w.rd t with cs:=cs }:=rfl
 have an:=e0R a.las (w.rd t) cs [] rq
 rw[<-hR]at an
 have m:a2e a.las (({ w with cs:=cs }:SW).rd t,[]) rq<=((A.S-c.qs.length:Nat):Int):=by
  rw[I.qs,hAS]
  have r1:=rc.rule
  have il:rq.rule.toNat<a.las.length:=by omega
  have hl:=uzF il
  have:=hou _ hl
  have e:a2e a.las (({ w with cs:=cs }:SW).rd t,[]) rq=T8 rq.op rq.k (a.las[rq.rule.toNat]).R.T:=by unfold a2e;rw[hl]
  rw[e]
  have:(l.length:Int)<=a.ou:=by
   have m0:0<=T8 rq.op rq.k (a.las[rq.rule.toNat]).R.T:=by
    unfold T8
    split
    ·decide
    ·split
     ·have:(0:Int)<=(a.las[rq.rule.toNat]).R.T:=by omega
      have:=rc.k
      omega
     ·decide
   omega
  omega
 have rc' :ReqC A.rr rq:=by rw[hAr];exact rc
 obtain⟨bs',hb',hacc⟩:=b5V (a2e a.las) (N7 a.las) A.S rc' (({ w with cs:=cs }:SW).rd t,[]) c I.bs I.e I.n I.r m
 rw[wrd,an]at hacc
 have fl:=(a1I rc').2.2
 refine c9I S hA hc' I.w I.r (fun _=>by rw[I.n];exact⟨by decide,.inl rfl⟩) t n ht x (C4 rq) sl byt (by omega) (e4z _ _ _ rc' _ hk c I.bs I.n I.r) hg hacc.symm fun h' evv eb o cc S' V=>hQ h' evv eb o ?_ V
 have cl:=(List.getElem?_eq_some_iff.1 hc).1
 have e1:(({ R.1.1 with cs:=cs }:SW).cs.set k { c with bs:=bs',n:=0,qs:=c.qs++R.2 })=cs.set k { c with bs:=bs',n:=0,qs:=c.qs++R.2 }:=rfl
 refine SI.set (cs:=cs.set k { c with bs:=bs',n:=0,qs:=c.qs++R.2 }) S' hA (uzH cl) ⟨I.w,I.r,I.e,rfl,hb',by show c.qs++R.2=_;rw[I.qs]⟩ fun j m hj hm=>?_
 obtain⟨A',c',h1,h2,h3⟩:=hcs j m hm
 exact⟨A',c',h1,by rw[uzI (fun e=>hj e.symm)];exact h2,h3⟩
theorem a8u(S:SI h a w q){k:Nat}{l:List Int}(hq:q k=some l)(t n:Int)(ht:t<=1000000000)
  (hQ:∀h' u b,OldF (a.own none) h h' ->SI h' a (w.rd t) (q.set k (l.drop n.toNat))->E3 h' 5 B8 u (l.take n.toNat) b->h.next<=b->Q (.agg #[.int .i64 0,.int .i64 0,u,K9]) h'):
  u9 cp 15 [.pointer (some ⟨a.s,0,none⟩),.agg #[.int .i64 3,.int .i64 t,.int .i64 k,.slice none 0 0,.int .i64 n,.slice none 0 0]] h Q:=by
 obtain⟨cs,S,hcs⟩:=S
 obtain⟨A,c,hA,hc,I⟩:=hcs k l hq
 have hc' :({ w with cs:=cs }:SW).cs[k]? =some c:=hc
 refine c9J S hA hc' I.w t n ht fun h' u b o S' V hb=>hQ h' u b o ?_ (by rw[<-I.qs];exact V) hb
 have cl:=(List.getElem?_eq_some_iff.1 hc).1
 refine SI.set (cs:=cs.set k { c with qs:=c.qs.drop n.toNat }) S' hA (uzH cl) ⟨I.w,I.r,I.e,I.n,I.bs,by show c.qs.drop _=_;rw[I.qs]⟩ fun j m hj hm=>?_
 obtain⟨A',c',h1,h2,h3⟩:=hcs j m hm
 exact⟨A',c',h1,by rw[uzI (fun e=>hj e.symm)];exact h2,h3⟩
def SO(h:Heap)(a:SrvA)(w:SW)(q:Qs):Prop:=∃cs,Srv h a { w with cs:=cs }/\∀k A,a.cas[k]? =some A->(∃c,cs[k]? =some c/\(q k=none->c.w=false)/\∀l,q k=some l->Idl c A.rr l)
theorem SO.si(S:SO h a w q)(hn:∀k l,q k=some l->k<a.cas.length):SI h a w q:=by
 obtain⟨cs,S,hcs⟩:=S
 refine⟨cs,S,fun k l hk=>?_⟩
 have hA:=uzF (hn k l hk)
 obtain⟨c,h1,_,h2⟩:=hcs k _ hA
 exact⟨_,c,hA,h1,h2 l hk⟩
theorem a5v(S:SO h a w q){k:Nat}{A:CA}(hA:a.cas[k]? =some A)(hq:q k=none)(t n:Int)(ht:t<=1000000000)
  (hQ:∀h',OldF (a.own none) h h' ->SO h' a (w.rd t) (q.set k [])->Q (.agg #[.int .i64 0,.int .i64 0,K9,K9]) h'):
  u9 cp 15 [.pointer (some ⟨a.s,0,none⟩),.agg #[.int .i64 0,.int .i64 t,.int .i64 k,.slice none 0 0,.int .i64 n,.slice none 0 0]] h Q:=by
 obtain⟨cs,S,hcs⟩:=S
 obtain⟨c,h1,h2,h3⟩:=hcs k A hA
 have hc' :({ w with cs:=cs }:SW).cs[k]? =some c:=h1
 refine e0r S hA hc' (h2 hq) t n ht fun h' o S' =>hQ h' o ⟨cs.set k (a7J A.rr),S',fun j A' hA' =>?_⟩
 obtain⟨c',k1,k2,k3⟩:=hcs j A' hA'
 by_cases e:j=k
 ·subst e
  refine⟨a7J A.rr,uzH (List.getElem?_eq_some_iff.1 h1).1,⟨fun hn=>?_,fun l hl=>?_⟩⟩
  ·rw[Qs.set_self]at hn;cases hn
  rw[Qs.set_self]at hl
  rw[hA]at hA'
  rw[<-uzA hA',<-uzA hl]
  exact⟨rfl,rfl,rfl,rfl,List.length_replicate,rfl⟩
 ·rw[Qs.set_ne _ _ e]
  exact⟨c',by rw[uzI (fun e' =>e e'.symm)];exact k1,k2,k3⟩
end
def sw0(rl:List RuleV):SW:=⟨0,0,false,false,[],rl.map lv0,0⟩
theorem e4y(r:RuleV):LB 0 1000000000 (lv0 r):=by
 refine⟨⟨by decide,by decide⟩,⟨by decide,by decide⟩,fun i c hc=>?_,?_,?_,⟨uzQ 0,by show(0:Int)<=_;decide⟩,by show(0:Int)<=_;decide⟩
 ·have hc:(vaz r.C ((0:Int),(0:Int),(0:Int),(0:Int)))[i]? =some c:=hc
  have:=uzK hc
  rw[(List.mem_replicate.1 this).2]
  exact⟨⟨by decide,by decide⟩,⟨by decide,by decide⟩,⟨by decide,by decide⟩,by decide,by decide⟩
 ·exact Pos.zero _
 ·exact Bd.zero _ (by decide)
theorem b1p(h:Heap)(bu:Int)(co ou:Nat)(v0:Value)(rl:List RuleV)(b0:Nat)(V0:E3 h 34 RE v0 (rl.map RuleV.t) b0)(cfg:a2F bu co ou (rl.map RuleV.t))(rok:∀r∈rl,r.OK)
  (sv:Value) (sl:List Int) (hsl:sl.length<=1000000) (hsd:Lst h (Enc.int .u64) sv sl) {Q:Value->Heap->Prop}
  (hQ:∀h' a,Old h h' ->SO h' a (sw0 rl) (fun _=>none)->a.las.map LA.R=rl->a.cas.length=co->a.ou=ou->b1y a sl->(∀z,a.own none z->h.next<=z)->Q (.tuple #[.pointer (some ⟨a.s,0,none⟩),.int .i64 0]) h'):
  u9 cp 14 [.agg #[.int .i64 bu,.int .i64 co,.int .i64 ou,v0],sv] h Q:=by
 have z9:(0:Int)<=1000000000:=by decide
 refine c9f h bu co ou v0 rl b0 V0 cfg rok sv sl hsl hsd fun h' a o S hlas hcas hou hrows hown=>hQ h' a o ⟨vaz co cv0,⟨_,S,⟨rfl,rfl,rfl,rfl,rfl,?_,fun i L l x hL hl hx=>?_⟩,⟨uzQ 0,z9⟩,⟨uzQ 0,z9⟩,⟨uzQ 0,z9⟩,fun x hx=>?_⟩,fun k A hA=>?_⟩ hlas hcas hou hrows hown
 ·show(rl.map lv0).length=(rl.map a2d).length
  rw[uzL,uzL]
 ·have hl:(rl.map a2d)[i]? =some l:=hl
  have hx:(rl.map lv0)[i]? =some x:=hx
  have hr:rl[i]? =some L.R:=by rw[<-hlas,uzJ,hL];rfl
  rw[uzJ,hr]at hl hx
  rw[<-uzA hl,<-uzA hx]
  obtain⟨_,r2,r3⟩:=hrows i L hL
  exact fun h2 A2=>Lmt.new A2 rfl (by rw[r2];exact b2v _ _) (by rw[r3];exact b2v _ _)
 ·obtain⟨r,_,rfl⟩:=List.mem_map.1 hx
  exact e4y r
 ·have hk:=(List.getElem?_eq_some_iff.1 hA).1
  refine⟨cv0,by rw[List.getElem?_replicate,if_pos (by omega)],fun _=>rfl,fun l hl=>by cases hl⟩
def Z8(p:F3):RuleV:=
 { L:=p.1 % 32+1,Wd:=(p.2.1 % 32+1)*(p.2.2.2.1 % 8+1),B:=(p.2.2.1 % 32) % (p.1 % 32+1)+1,S:=(p.2.2.2.1 % 8+1).toNat,C:=(p.2.2.2.2.1 % 8+1).toNat,R:=(p.2.2.2.2.2.1 % 4+1).toNat,
   W:=(p.2.2.2.2.2.2.1 % 16+1).toNat,T:=(p.2.2.2.2.2.2.2.1 % 8+1).toNat,sm:=p.2.2.2.2.2.2.2.2 && decide (p.2.2.2.1 % 8+1>1) }
theorem b5f(p:F3):(Z8 p).OK:=by
 obtain⟨l,w,b,s,c,r,d,t,m⟩:=p
 have hb:0<=(b % 32) % (l % 32+1)/\(b % 32) % (l % 32+1)<l % 32+1:=⟨Int.emod_nonneg _ (by omega),Int.emod_lt_of_pos _ (by omega)⟩
 obtain⟨s',hs⟩:∃s' :Nat,s % 8=s' :=⟨(s % 8).toNat,by omega⟩
 obtain⟨w',hw⟩:∃w' :Nat,w % 32=w' :=⟨(w % 32).toNat,by omega⟩
 have hp:1*1<=(w % 32+1)*(s % 8+1):=vHz (by omega) (by omega) (by omega) (by omega)
 have hp2:(w % 32+1)*(s % 8+1)<=32*8:=vHz (by omega) (by omega) (by omega) (by omega)
 refine⟨?_,?_,?_,?_,?_,?_,?_,?_,?_,?_⟩
 ·show 1<=l % 32+1/\l % 32+1<=32;omega
 ·show 1<=(w % 32+1)*(s % 8+1)/\(w % 32+1)*(s % 8+1)<=256;omega
 ·show 1<=(b % 32) % (l % 32+1)+1/\(b % 32) % (l % 32+1)+1<=l % 32+1;omega
 ·show 1<=(s % 8+1).toNat/\(s % 8+1).toNat<=8;omega
 ·show((w % 32+1)*(s % 8+1)) % (((s % 8+1).toNat:Nat):Int)=0
  rw[Int.toNat_of_nonneg (by omega)];exact Int.mul_emod_left _ _
 ·show 1<=(c % 8+1).toNat/\(c % 8+1).toNat<=8;omega
 ·show 1<=(r % 4+1).toNat/\(r % 4+1).toNat<=4;omega
 ·show 1<=(d % 16+1).toNat/\(d % 16+1).toNat<=16;omega
 ·show 1<=(t % 8+1).toNat/\(t % 8+1).toNat<=8;omega
 ·intro h
  have h:(m && decide (s % 8+1>1))=true:=h
  rw[vjz]at h
  have:=of_decide_eq_true h.2
  show 2<=(s % 8+1).toNat
  omega
theorem a4G(h:Heap)(p:F3)(hQ:∀h',Old h h' ->Q (.agg (Z8 p).c.toArray) h'):u9 cp 30 [.agg (RE.enc p).toArray] h Q:=by
 obtain⟨l,w,b,s,c,r,d,t,m⟩:=p
 show u9 cp 30 [.agg #[.int .i64 l,.int .i64 w,.int .i64 b,.int .i64 s,.int .i64 c,.int .i64 r,.int .i64 d,.int .i64 t,.bool m]] h Q
 rw[a8 cp f0t]
 have m31:=fun x=>W7 5 (by decide) x 31 (by decide)
 have m15:=fun x=>W7 4 (by decide) x 15 (by decide)
 have m7:=fun x=>W7 3 (by decide) x 7 (by decide)
 have m3:=fun x=>W7 2 (by decide) x 3 (by decide)
 obtain⟨l',hl,l1⟩:∃y,l % 2 ^ 5=y/\0<=y/\y<=31:=⟨_,rfl,by omega,by omega⟩
 obtain⟨w',hw,w1⟩:∃y,w % 2 ^ 5=y/\0<=y/\y<=31:=⟨_,rfl,by omega,by omega⟩
 obtain⟨b',hb,b1⟩:∃y,b % 2 ^ 5=y/\0<=y/\y<=31:=⟨_,rfl,by omega,by omega⟩
 obtain⟨s',hs,s1⟩:∃y,s % 2 ^ 3=y/\0<=y/\y<=7:=⟨_,rfl,by omega,by omega⟩
 obtain⟨c',hc,c1⟩:∃y,c % 2 ^ 3=y/\0<=y/\y<=7:=⟨_,rfl,by omega,by omega⟩
 obtain⟨r',hr,r1⟩:∃y,r % 2 ^ 2=y/\0<=y/\y<=3:=⟨_,rfl,by omega,by omega⟩
 obtain⟨d',hd,d1⟩:∃y,d % 2 ^ 4=y/\0<=y/\y<=15:=⟨_,rfl,by omega,by omega⟩
 obtain⟨t',ht,t1⟩:∃y,t % 2 ^ 3=y/\0<=y/\y<=7:=⟨_,rfl,by omega,by omega⟩
 have n0:(l' +1=0)=False:=eq_false (by omega)
 have tm:Int.tmod b' (l' +1)=b' % (l' +1):=J8 _ _ b1.1
 have hbb:0<=b' % (l' +1)/\b' % (l' +1)<l' +1:=⟨Int.emod_nonneg _ (by omega),Int.emod_lt_of_pos _ (by omega)⟩
 have hp:1*1<=(w' +1)*(s' +1):=vHz (by omega) (by omega) (by omega) (by omega)
 have hp2:(w' +1)*(s' +1)<=32*8:=vHz (by omega) (by omega) (by omega) (by omega)
 have e:RuleV.c (Z8 (l,w,b,s,c,r,d,t,m))=[.int .i64 (l' +1),.int .i64 ((w' +1)*(s' +1)),.int .i64 (b' % (l' +1)+1),.int .i64 (s' +1),.int .i64 (c' +1),.int .i64 (r' +1),.int .i64 (d' +1),.int .i64 (t' +1),.bool (m && decide (s' +1>1))]:=by
  have q1:l % 32=l' :=hl
  have q2:w % 32=w' :=hw
  have q3:b % 32=b' :=hb
  have q4:s % 8=s' :=hs
  have q5:c % 8=c' :=hc
  have q6:r % 4=r' :=hr
  have q7:d % 16=d' :=hd
  have q8:t % 8=t' :=ht
  simp only[RuleV.c,Z8,q1,q2,q3,q4,q5,q6,q7,q8]
  rw[Int.toNat_of_nonneg (by omega),Int.toNat_of_nonneg (by omega),Int.toNat_of_nonneg (by omega),Int.toNat_of_nonneg (by omega),Int.toNat_of_nonneg (by omega)]
 rw[e]at hQ
 have ob:∃h1,h1=(h.new (.cells [.int .i64 l,.int .i64 w,.int .i64 b,.int .i64 s,.int .i64 c,.int .i64 r,.int .i64 d,.int .i64 t,.bool m] 23 .fix)).new (.cells [.int .i64 0,.int .i64 0,.int .i64 0,.int .i64 0,.int .i64 0,.int .i64 0,.int .i64 0,.int .i64 0,.bool false] 34 .fix):=⟨_,rfl⟩
 obtain⟨h1,h1d⟩:=ob
 have o1:Old h h1:=by rw[h1d];exact((Old.refl h).more _).more _
 have n1:h1.next=h.next+1+1:=by rw[h1d];rfl
 have g1:h1.obj h.next=.cells [.int .i64 l,.int .i64 w,.int .i64 b,.int .i64 s,.int .i64 c,.int .i64 r,.int .i64 d,.int .i64 t,.bool m] 23 .fix:=by rw[h1d,f4 _ _ (by simp only[j0];omega)];exact f9 _ _
 have g2:h1.obj (h.next+1)=.cells [.int .i64 0,.int .i64 0,.int .i64 0,.int .i64 0,.int .i64 0,.int .i64 0,.int .i64 0,.int .i64 0,.bool false] 34 .fix:=by rw[h1d];exact f9 (h.new _) _
 cases m with
 |false=>
  simp(maxSteps:=1000000) (disch:=omega)only[c30,↓R30,<-h1d,g1,g2,m31,m15,m7,m3,hl,hw,hb,hs,hc,hr,hd,ht,n0,tm,y6,↓l9,m9,zA,zB,zC,zD,zE,zF,zG,zH,zI,reduceCtorEq,zJ,zK,zL,zM]
  exact hQ _ ⟨by simp only[r9,j0];omega,fun z hz=>by rw[a6 _ _ (by omega),a6 _ _ (by omega),a6 _ _ (by omega),f4 _ _ (by omega),o1.obj z hz]⟩
 |true=>
  simp(maxSteps:=1000000) (disch:=omega)only[c30,↓R30,<-h1d,g1,g2,m31,m15,m7,m3,hl,hw,hb,hs,hc,hr,hd,ht,n0,tm,y6,↓l9,m9,zA,zB,zC,zD,zE,zF,zG,zH,zI,reduceCtorEq,zJ,zK,zL,zM]
  exact hQ _ ⟨by simp only[r9,j0];omega,fun z hz=>by rw[a6 _ _ (by omega),a6 _ _ (by omega),a6 _ _ (by omega),f4 _ _ (by omega),o1.obj z hz]⟩
abbrev a5C:=Int×Int×ByteArray×Bool
abbrev b1x:Enc a5C:=Enc.pair (Enc.int .i64) (Enc.pair (Enc.int .i64) (Enc.pair Enc.str Enc.bool))
def a5B(l:List a5C):Prop:=l.length<=150/\∀c∈l,c.2.2.1.size<=64
instance (l:List a5C):Decidable (a5B l):=by unfold a5B;infer_instance
theorem d9t(h:Heap)(v:Value)(l:List a5C)(hs:Lst h b1x v l)(hz:∀c∈l,c.2.2.1.size<=maxLen)
  (hQ:∀h',Old h h' ->Q (.bool (decide (a5B l))) h'):u9 cp 12 [v] h Q:=by
 rw[a8 cp f0l]
 obtain⟨a,cap,rfl,hrd⟩:=hs
 have no:¬a5B l->∀h',Old h h' ->Q (.bool false) h' :=fun hn h' o=>by
  have:=hQ h' o
  rwa [dFz hn]at this
 by_cases c1:(l.length:Int)>150
 ·have b1:=dTz c1
  simp(disch:=omega)only[c12,↓R12,b1,↓l9,m9,zA,zB,zC,zD,zE,zF,zG,zH,zI,reduceCtorEq,zJ,zK,zL,zM]
  exact no (fun q=>by have:=q.1;omega) _ (Old.refl h)
 have b1:=dFz c1
 simp(disch:=omega)only[c12,↓R12,b1,↓l9,m9,zA,zB,zC,zD,zE,zF,zG,zH,zI,reduceCtorEq,zJ,zK,zL,zM]
 refine A6 cp a5Y _ (fun d e hh=>∃j:Nat,j+d=l.length/\Old h hh/\(∀c∈l.take j,c.2.2.1.size<=64)/\e 8=.slice a l.length cap/\e 9=.int .i64 l.length/\e 10=.int .i64 j) ?_ l.length _ _
  ⟨0,by omega,Old.refl _,fun c hc=>by simp at hc,rfl,rfl,rfl⟩
 rintro d e hh ⟨j,hj,o,hk,e8,e9,e10⟩
 have on:=o.next
 by_cases cj:j<l.length
 rotate_left
 ·have b2:decide ((j:Int)<(l.length:Int))=false:=dFz (by omega)
  obtain rfl:j=l.length:=by omega
  rw[List.take_length]at hk
  simp(disch:=omega)only[a5Y,c12,↓R12,e8,e9,e10,b2,↓l9,m9,zA,zB,zC,zD,zE,zF,zG,zH,zI,reduceCtorEq,zJ,zK,zL,zM]
  have:=hQ hh o
  rwa [dTz ⟨by omega,hk⟩]at this
 have b2:decide ((j:Int)<(l.length:Int))=true:=dTz (by omega)
 have nx:(j:Int)+1=((j+1:Nat):Int):=by omega
 have hx:l[j]? =some l[j]:=uzF cj
 obtain⟨x,hxd⟩:∃x,x=l[j]:=⟨_,rfl⟩
 rw[<-hxd]at hx
 have tk:=I7 hx
 obtain⟨b,of,rfl,hb,hr⟩:=hrd j x hx
 rw[<-o.obj b hb]at hr
 have hmem:=uzK hx
 have hsz:=hz x hmem
 obtain⟨g,co,key,pk⟩:=x
 have hr:(hh.obj b).read (of+j*4) 4=some [.int .i64 g,.int .i64 co,.string key,.bool pk]:=hr
 simp only at hsz
 have oo:Old h ((hh.new (.cells [.int .i64 0,.int .i64 0,.string ⟨#[]⟩,.bool false] 48 .fix)).upd hh.next (.cells [.int .i64 g,.int .i64 co,.string key,.bool pk] 48 .fix)):=o.put _ _
 by_cases c2:(key.size:Int)>64
 ·have b3:=dTz c2
  simp(disch:=omega)only[a5Y,c12,↓R12,e8,e9,e10,b2,hr,b3,↓l9,m9,zA,zB,zC,zD,zE,zF,zG,zH,zI,reduceCtorEq,zJ,zK,zL,zM]
  exact no (fun q=>by have:=q.2 _ hmem;simp only at this;omega) _ oo
 have b3:=dFz c2
 simp(disch:=omega)only[a5Y,c12,↓R12,e8,e9,e10,b2,hr,b3,nx,↓l9,m9,zA,zB,zC,zD,zE,zF,zG,zH,zI,reduceCtorEq,zJ,zK,zL,zM]
 refine⟨d-1,by omega,j+1,by omega,oo,?_,?_⟩
 ·rw[tk]
  intro c hc
  rcases List.mem_append.1 hc with hc|hc
  ·exact hk c hc
  ·rw[List.mem_singleton.1 hc];show key.size<=64;omega
 ·repeat' first|assumption|rfl|apply And.intro
def a1q(l:List F3):List RuleV:=if l=[]then[Z8 (0,0,0,0,0,0,0,0,false)]else(l.take 3).map Z8
theorem c9k(l:List F3):(∀r∈a1q l,r.OK)/\1<=(a1q l).length/\(a1q l).length<=3:=by
 unfold a1q
 split
 ·refine⟨fun r hr=>?_,by simp,by simp⟩
  rw[List.mem_singleton.1 hr];exact b5f _
 ·rename_i h
  have:0<l.length:=List.length_pos_iff.2 h
  refine⟨fun r hr=>?_,by simp;omega,by simp;omega⟩
  obtain⟨p,_,rfl⟩:=List.mem_map.1 hr
  exact b5f p
theorem RuleV.OK.t{r:RuleV}(ok:r.OK):F3.OK r.t/\r.t.T<=8/\F3.by_ r.t<=30000/\0<=F3.by_ r.t:=by
 have h1:=ok.L
 have h2:=ok.Wd
 have h3:=ok.B
 have h4:=ok.S
 have h5:=ok.C
 have h6:=ok.R
 have h7:=ok.W
 have h8:=ok.T
 have cr:=a4C r.Wd (r.L+1-r.B) (by omega) (by omega)
 have p0:r.B*T3 r.Wd (r.L+1-r.B)<=32*256:=vHz (by omega) (by omega) (by omega) (by omega)
 have q0:(0:Int)<=(r.R:Int)*(r.W:Int):=uzO (by omega) (by omega)
 have q1:(r.R:Int)*(r.W:Int)<=4*16:=vHz (by omega) (by omega) (by omega) (by omega)
 have q2:((r.S:Int)+1)*(16+8*((r.R:Int)*(r.W:Int)))<=9*528:=vHz (by omega) (by omega) (by omega) (by omega)
 have q3:0<=((r.S:Int)+1)*(16+8*((r.R:Int)*(r.W:Int))):=uzO (by omega) (by omega)
 refine⟨⟨by show 1<=r.L/\r.L<=_;omega,by show 1<=r.Wd/\r.Wd<=_;omega,h3,by show 1<=(r.S:Int)/\(r.S:Int)<=64;omega,ok.Sd,by show 1<=(r.C:Int)/\(r.C:Int)<=1024;omega,by show 1<=(r.R:Int)/\(r.R:Int)<=8;omega,by show 1<=(r.W:Int)/\(r.W:Int)<=4096;omega,by show 1<=(r.T:Int)/\(r.T:Int)<=64;omega,fun h=>?_,?_⟩,?_,?_,?_⟩
 ·have:=ok.sm h
  show 2<=(r.S:Int);omega
 ·show r.B*T3 r.Wd (r.L+1-r.B)<=_
  omega
 ·show(r.T:Int)<=8;omega
 ·show F7 r.S r.C r.R r.W r.T<=_
  unfold F7;omega
 ·show 0<=F7 r.S r.C r.R r.W r.T
  unfold F7;omega
theorem a8A:∀(l:List RuleV),(∀r∈l,r.OK)->0<=U1 (l.map RuleV.t)/\U1 (l.map RuleV.t)<=30000*l.length
 | [],_=>by simp[U1]
 |r::l,h=>by
  have:=(h r vyz).t
  have:=a8A l fun r hr=>h r (List.mem_cons_of_mem _ hr)
  simp only[List.map_cons,U1,uzM]
  omega
theorem d8t(l:List RuleV)(h:∀r∈l,r.OK)(hl:1<=l.length/\l.length<=3)(k:Int)(hk:0<=k/\k<=255):a2F 4294967296 (3:Nat) ((660+k).toNat:Nat) (l.map RuleV.t):=by
 have:=a8A l h
 rw[show(((660+k).toNat:Nat):Int)=660+k by omega]
 refine⟨by decide,by rw[uzL];omega,by decide,by omega,fun r hr=>?_,by show(3:Int)*(660+k)+_<=_;omega⟩
 obtain⟨x,hx,rfl⟩:=List.mem_map.1 hr
 have:=(h x hx).t
 exact⟨this.1,by omega⟩
theorem c8A(h:Heap)(v:Value)(l:List F3)(hs:Lst h RE v l)(hl:l.length<=9223372036854775807)(out:Int)
  (hQ:∀h' v' b,Old h h' ->E3 h' 34 RE v' ((a1q l).map RuleV.t) b->h.next<=b->Q (.agg #[.int .i64 4294967296,.int .i64 3,.int .i64 (660+out % 256),v']) h'):
  u9 cp 13 [v,.int .i64 out] h Q:=by
 rw[a8 cp f0m]
 obtain⟨a,cap,rfl,hrd⟩:=hs
 have m8:IntKind.i64.wrap ((BitVec.ofInt IntKind.i64.bits out &&& BitVec.ofInt IntKind.i64.bits 255).toNat:Int)=out % 256:=W7 8 (by decide) out 255 (by decide)
 obtain⟨ou,hou⟩:∃ou,ou=660+out % 256:=⟨_,rfl⟩
 have oub:660<=ou/\ou<=915:=by omega
 rw[<-hou]at hQ
 obtain⟨c0,hc0⟩:∃c0:Value->List Value,c0=fun v=>[.int .i64 4294967296,.int .i64 3,.int .i64 ou,v]:=⟨_,rfl⟩
 obtain⟨h1,h1d⟩:∃h1,h1=((h.new (.cells [.int .i64 0,.int .i64 0,.int .i64 0,.slice none 0 0] 30 .fix)).new (.cells [.int .i64 0,.int .i64 0,.int .i64 0,.slice none 0 0] 30 .fix)).upd (h.next+1) (.cells [.int .i64 4294967296,.int .i64 3,.int .i64 (660+out % 256),.slice none 0 0] 30 .fix):=⟨_,rfl⟩
 have o1:Old h h1:=by rw[h1d];exact⟨by simp only[r9,j0];omega,fun z hz=>by rw[a6 _ _ (by omega),f4 _ _ (by simp only[j0];omega),f4 _ _ (by omega)]⟩
 have n1:h1.next=h.next+1+1:=by rw[h1d];rfl
 have g1:h1.obj h.next=.cells [.int .i64 0,.int .i64 0,.int .i64 0,.slice none 0 0] 30 .fix:=by rw[h1d,a6 _ _ (by omega),f4 _ _ (by simp only[j0];omega)];exact f9 _ _
 have g2:h1.obj (h.next+1)=.cells [.int .i64 4294967296,.int .i64 3,.int .i64 ou,.slice none 0 0] 30 .fix:=by rw[h1d,hou];exact a9 _ _ _
 simp(disch:=first|omega| (simp only[j0,r9,ne_eq];omega))only[c13,↓R13,m8,y6,<-h1d,↓l9,m9,zA,zB,zC,zD,zE,zF,zG,zH,zI,reduceCtorEq,zJ,zK,zL,zM]
 have fin:∀(hh:Heap) (v' :Value) (b:Nat) (ll:List RuleV),ll=a1q l->Old h hh->h.next+1<hh.next->h.next+1<b->hh.obj h.next=.cells [.int .i64 0,.int .i64 0,.int .i64 0,.slice none 0 0] 30 .fix->hh.obj (h.next+1)=.cells [.int .i64 4294967296,.int .i64 3,.int .i64 ou,v'] 30 .fix->
   E3 hh 34 RE v' (ll.map RuleV.t) b->Q (.agg #[.int .i64 4294967296,.int .i64 3,.int .i64 ou,v']) (hh.upd h.next (.cells [.int .i64 4294967296,.int .i64 3,.int .i64 ou,v'] 30 .fix)):=fun hh v' b ll e o hn hb k1 k2 V=>by
  subst e
  exact hQ _ _ b ⟨o.next,fun z hz=>by rw[a6 _ _ (by omega)];exact o.obj z hz⟩ (V.keep (uzP _) fun _=>a6 _ _ (by omega)) (by omega)
 refine A6 cp a3u _ (fun d e hh=>∃(j b:Nat) (v' :Value),j+d=l.length/\Old h hh/\h.next+1<hh.next/\h.next+1<b/\hh.obj h.next=.cells [.int .i64 0,.int .i64 0,.int .i64 0,.slice none 0 0] 30 .fix/\hh.obj (h.next+1)=.cells [.int .i64 4294967296,.int .i64 3,.int .i64 ou,v'] 30 .fix/\
   E3 hh 34 RE v' ((((l.take j).take 3).map Z8).map RuleV.t) b/\e 4=.pointer (some ⟨h.next,0,none⟩)/\e 5=.pointer (some ⟨h.next+1,0,none⟩)/\e 12=.slice a l.length cap/\e 13=.int .i64 l.length/\e 14=.int .i64 j) ?_ l.length _ _
  ⟨0,h.next+2,.slice none 0 0,by omega,o1,by omega,by omega,g1,g2,E3.nil _ _ _ _,rfl,rfl,rfl,rfl,rfl⟩
 rintro d e hh ⟨j,b,v',hj,o,hn,hb,k1,k2,V,e4,e5,e12,e13,e14⟩
 have on:=o.next
 by_cases cj:j<l.length
 ·have b2:decide ((j:Int)<(l.length:Int))=true:=dTz (by omega)
  have nx:(j:Int)+1=((j+1:Nat):Int):=by omega
  have hx:l[j]? =some l[j]:=uzF cj
  obtain⟨x,hxd⟩:∃x,x=l[j]:=⟨_,rfl⟩
  rw[<-hxd]at hx
  have tk:=I7 hx
  obtain⟨bx,of,rfl,hbx,hr⟩:=hrd j x hx
  rw[<-o.obj bx hbx]at hr
  obtain⟨xl,xw,xb,xs,xc,xr,xd,xt,xm⟩:=x
  have hr:(hh.obj bx).read (of+j*9) 9=some [.int .i64 xl,.int .i64 xw,.int .i64 xb,.int .i64 xs,.int .i64 xc,.int .i64 xr,.int .i64 xd,.int .i64 xt,.bool xm]:=hr
  obtain⟨h2,h2d,o2,n2,q2⟩:=T9 hh (.cells [.int .i64 0,.int .i64 0,.int .i64 0,.int .i64 0,.int .i64 0,.int .i64 0,.int .i64 0,.int .i64 0,.bool false] 23 .fix) (.cells [.int .i64 xl,.int .i64 xw,.int .i64 xb,.int .i64 xs,.int .i64 xc,.int .i64 xr,.int .i64 xd,.int .i64 xt,.bool xm] 23 .fix)
  have k1' :=(o2.obj h.next (by omega)).trans k1
  have k2' :=(o2.obj (h.next+1) (by omega)).trans k2
  by_cases c3:j<3
  rotate_left
  ·have b3:decide ((j:Int)<3)=false:=dFz (by omega)
   simp(disch:=omega)only[a3u,c13,↓R13,e4,e5,e12,e13,e14,b2,b3,hr,<-h2d,nx,↓l9,m9,zA,zB,zC,zD,zE,zF,zG,zH,zI,reduceCtorEq,zJ,zK,zL,zM]
   refine⟨d-1,by omega,j+1,b,v',by omega,o.trans o2,by omega,hb,k1',k2',?_,?_⟩
   ·rw[List.take_take,show min 3 (j+1)=3 by omega]
    rw[List.take_take,show min 3 j=3 by omega]at V
    exact V.old o2
   ·repeat' first|assumption|rfl|apply And.intro
  have b3:decide ((j:Int)<3)=true:=dTz (by omega)
  simp(disch:=omega)only[a3u,c13,↓R13,e4,e5,e12,e13,e14,b2,b3,hr,<-h2d,q2,k1',k2',nx,↓l9,m9,zA,zB,zC,zD,zE,zF,zG,zH,zI,reduceCtorEq,zJ,zK,zL,zM]
  refine a4G h2 (xl,xw,xb,xs,xc,xr,xd,xt,xm) fun h3 o3=>?_
  have n3:=o3.next
  have k13:=(o3.obj h.next (by omega)).trans k1'
  have k23:=(o3.obj (h.next+1) (by omega)).trans k2'
  obtain⟨R,hR⟩:∃R,R=Z8 (xl,xw,xb,xs,xc,xr,xd,xt,xm):=⟨_,rfl⟩
  rw[<-hR]
  have tl:(R.c.toArray).toList=R.c:=rfl
  have sc:R.c.all E9=true:=rfl
  have ln:R.c.length=9:=rfl
  have st:setAt [.int .i64 0,.int .i64 0,.int .i64 0,.int .i64 0,.int .i64 0,.int .i64 0,.int .i64 0,.int .i64 0,.bool false] 0 R.c=RE.all [R.t]:=rfl
  have V3:=(V.old (o2.trans o3)).keep (h' :=h3.new (.cells (RE.all [R.t]) 34 .grow)) (vLz _) fun hl=>f4 _ _ (by omega)
  have ll3:((((l.take j).take 3).map Z8).map RuleV.t).length<=3:=by simp only[uzL,vqz];omega
  simp(disch:=omega)only[c13,↓R13,k13,k23,y6,tl,sc,ln,st,G0,vtz,↓l9,m9,zA,zB,zC,zD,zE,zF,zG,zH,zI,reduceCtorEq,zJ,zK,zL,zM]
  refine V3.app (m:=[R.t]) (bytes:=72) rfl (O9 RE h3 R.t 34 1) (by simp only[uzM,vkz];omega) (by simp only[uzM,vkz];omega) fun v4 h4 b4 V4 n4 hb4 o4=>?_
  have n4' :h3.next+1<=h4.next:=n4
  obtain⟨va4,vc4,hv4,_⟩:=V4.val
  obtain⟨ln4,hln4⟩:∃n,n=(((((l.take j).take 3).map Z8).map RuleV.t)++[R.t]).length:=⟨_,rfl⟩
  rw[<-hln4]at hv4
  subst hv4
  have keep4:∀z,z<h3.next->z≠b->h4.obj z=h3.obj z:=fun z hz hne=>by rw[o4 z (by show z<h3.next+1;omega) (.inr hne),f4 _ _ (by omega)]
  have k14:=(keep4 h.next (by omega) (by omega)).trans k13
  have k24:=(keep4 (h.next+1) (by omega) (by omega)).trans k23
  have b4g:h.next+1<b4:=by
   rcases hb4 with rfl|hb4
   ·exact hb
   ·have:h3.next+1<=b4:=hb4
    omega
  simp(disch:=omega)only[c13,↓R13,e4,e5,e12,e13,e14,k24,nx,↓l9,m9,zA,zB,zC,zD,zE,zF,zG,zH,zI,reduceCtorEq,zJ,zK,zL,zM]
  refine⟨d-1,by omega,j+1,b4,.slice va4 ln4 vc4,by omega,⟨by show h.next<=h4.next;omega,fun z hz=>?_⟩,by show h.next+1<h4.next;omega,b4g,?_,by first|exact a9 _ _ _|rfl,?_,?_⟩
  ·rw[a6 _ _ (by omega),keep4 z (by omega) (by omega),o3.obj z (by omega),o2.obj z (by omega),o.obj z hz]
  ·first|exact k14| (rw[a6 _ _ (by omega)];exact k14)
  ·have e1:(((l.take (j+1)).take 3).map Z8).map RuleV.t=(((l.take j).take 3).map Z8).map RuleV.t++[R.t]:=by
    rw[List.take_take,show min 3 (j+1)=j+1 by omega,List.take_take,show min 3 j=j by omega,tk,hR]
    simp
   rw[e1]
   exact V4.keep (uzP _) fun _=>a6 _ _ (by omega)
  ·repeat' first|assumption|rfl|apply And.intro
 have b2:decide ((j:Int)<(l.length:Int))=false:=dFz (by omega)
 obtain rfl:j=l.length:=by omega
 rw[List.take_length]at V
 by_cases c0:l=[]
 rotate_left
 ·have lp:=List.length_pos_iff.2 c0
  obtain⟨va,vc,rfl,_⟩:=V.val
  have lz:((l.take 3).length:Int)≠0:=by simp only[vqz];omega
  have b3:(((l.take 3).length:Int)==0)=false:=beq_eq_false_iff_ne.2 lz
  simp(disch:=omega)only[a3u,c13,↓R13,e4,e5,e12,e13,e14,b2,b3,k1,k2,↓l9,m9,zA,zB,zC,zD,zE,zF,zG,zH,zI,reduceCtorEq,zJ,zK,zL,zM]
  rw[uzL,uzL]at k2 V
  refine fin hh _ b _ ?_ o hn hb k1 k2 V
  unfold a1q;rw[if_neg c0]
 ·subst c0
  obtain⟨va,vc,rfl,_⟩:=V.val
  have b2:decide (((0:Nat):Int)<((0:Nat):Int))=false:=by decide
  have b3:(((([]:List F3).take 3).length:Int)==0)=true:=rfl
  have b4:(((0:Nat):Int)==0)=true:=rfl
  simp(disch:=omega)only[a3u,c13,↓R13,e4,e5,e12,e13,e14,b2,b3,b4,k1,k2,y6,↓l9,m9,zA,zB,zC,zD,zE,zF,zG,zH,zI,reduceCtorEq,zJ,zK,zL,zM]
  refine a4G hh (0,0,0,0,0,0,0,0,false) fun h3 o3=>?_
  have n3:=o3.next
  have k13:=(o3.obj h.next (by omega)).trans k1
  have k23:=(o3.obj (h.next+1) (by omega)).trans k2
  obtain⟨R,hR⟩:∃R,R=Z8 (0,0,0,0,0,0,0,0,false):=⟨_,rfl⟩
  rw[<-hR]
  have tl:(R.c.toArray).toList=R.c:=rfl
  have sc:R.c.all E9=true:=rfl
  have ln:R.c.length=9:=rfl
  have st:setAt [.int .i64 0,.int .i64 0,.int .i64 0,.int .i64 0,.int .i64 0,.int .i64 0,.int .i64 0,.int .i64 0,.bool false] 0 R.c=RE.all [R.t]:=rfl
  have V3:=(V.old o3).keep (h' :=h3.new (.cells (RE.all [R.t]) 34 .grow)) (vLz _) fun hl=>f4 _ _ (by omega)
  simp(disch:=omega)only[c13,↓R13,k13,k23,y6,tl,sc,ln,st,G0,vtz,↓l9,m9,zA,zB,zC,zD,zE,zF,zG,zH,zI,reduceCtorEq,zJ,zK,zL,zM]
  refine V3.app (m:=[R.t]) (bytes:=72) rfl (O9 RE h3 R.t 34 1) (by simp) (by simp) fun v4 h4 b4 V4 n4 hb4 o4=>?_
  have n4' :h3.next+1<=h4.next:=n4
  obtain⟨va4,vc4,hv4,_⟩:=V4.val
  obtain⟨ln4,hln4⟩:∃n,n=((((([]:List F3).take 3).map Z8).map RuleV.t)++[R.t]).length:=⟨_,rfl⟩
  rw[<-hln4]at hv4
  subst hv4
  have keep4:∀z,z<h3.next->z≠b->h4.obj z=h3.obj z:=fun z hz hne=>by rw[o4 z (by show z<h3.next+1;omega) (.inr hne),f4 _ _ (by omega)]
  have k14:=(keep4 h.next (by omega) (by omega)).trans k13
  have k24:=(keep4 (h.next+1) (by omega) (by omega)).trans k23
  have b4g:h.next+1<b4:=by
   rcases hb4 with rfl|hb4
   ·exact hb
   ·have:h3.next+1<=b4:=hb4
    omega
  obtain⟨h5,h5d⟩:∃h5,h5=h4.upd (h.next+1) (.cells [.int .i64 4294967296,.int .i64 3,.int .i64 ou,(.slice va4 ln4 vc4)] 30 .fix):=⟨_,rfl⟩
  have n5:h5.next=h4.next:=by rw[h5d];rfl
  have k25:h5.obj (h.next+1)=.cells [.int .i64 4294967296,.int .i64 3,.int .i64 ou,(.slice va4 ln4 vc4)] 30 .fix:=by rw[h5d];exact a9 _ _ _
  have k15:h5.obj h.next=.cells [.int .i64 0,.int .i64 0,.int .i64 0,.slice none 0 0] 30 .fix:=by rw[h5d,a6 _ _ (by omega)];exact k14
  simp(disch:=omega)only[c13,↓R13,e4,e5,e12,e13,e14,k24,<-h5d,k25,k15,↓l9,m9,zA,zB,zC,zD,zE,zF,zG,zH,zI,reduceCtorEq,zJ,zK,zL,zM]
  refine fin h5 (.slice va4 ln4 vc4) b4 [R] (by rw[hR];rfl) ⟨by omega,fun z hz=>?_⟩ (by omega) b4g k15 k25 ?_
  ·rw[h5d,a6 _ _ (by omega),keep4 z (by omega) (by omega),o3.obj z (by omega),o.obj z hz]
  ·exact V4.keep (by omega) fun _=>by rw[h5d];exact a6 _ _ (by omega)
theorem b6a{q:ReqV}{rule cost:Int}{kl:List Int}(hk:E4 kl)(hq:q=⟨1,rule,cost,kl,0⟩):E4 (C4 q):=by
 subst hq
 show E4 (J5 167 ([1 % 256,rule % 256]++(M1 4 cost++[(kl.length:Int) % 256]++kl)))
 have h0:E4 [(1:Int) % 256,rule % 256]:=fun x hx=>by simp at hx;omega
 have h1:E4 [(kl.length:Int) % 256]:=fun x hx=>by simp at hx;omega
 have h2:∀l:List Int,E4 l->E4 (J5 167 l):=fun l hl=>by
  have:E4 [(167:Int),1,(l.length:Int) / 256 % 256,(l.length:Int) % 256]:=fun x hx=>by simp at hx;omega
  exact this.app hl
 exact h2 _ (h0.app (((Q9 4 cost).app h1).app hk))
def c8P(x:Int):Int:=if x % 2=1 then x / 2 % 1024 else x / 2 % 16
theorem e1R(x:Int):0<=c8P x/\c8P x<=1023:=by unfold c8P;split<;>omega
theorem d9j(h:Heap)(x:Int)(hx:D5 x)(Q:Value->Heap->Prop):u9 cp 16 [.int .i64 x] h Q↔Q (.int .i64 (c8P x)) h:=by
 refine v9 ?_ Q
 rw[a8 cp f0o]
 have s1:=fun x:Int=>a2i .i64 x 1 (by decide)
 have m1:=W7 1 (by decide) x 1 (by decide)
 have m12:=W7 10 (by decide) (x / 2) 1023 (by decide)
 have m4:=W7 4 (by decide) (x / 2) 15 (by decide)
 have p1:(2:Int) ^ 1=2:=by decide
 have p4:(2:Int) ^ 4=16:=by decide
 have p12:(2:Int) ^ 10=1024:=by decide
 unfold D5 at hx
 unfold c8P
 by_cases c:x % 2=1
 ·have a1:(x % 2==1)=true:=by rw[c];rfl
  rw[if_pos c]
  simp(disch:=omega)only[c16,↓R16,s1,m1,m12,m4,p1,p4,p12,a1,↓l9,m9,zA,zB,zC,zD,zE,zF,zG,zH,zI,reduceCtorEq,zJ,zK,zL,zM]
 ·have a1:(x % 2==1)=false:=beq_eq_false_iff_ne.2 c
  rw[if_neg c]
  simp(disch:=omega)only[c16,↓R16,s1,m1,m12,m4,p1,p4,p12,a1,↓l9,m9,zA,zB,zC,zD,zE,zF,zG,zH,zI,reduceCtorEq,zJ,zK,zL,zM]
theorem f2T{x:Int}(h:(Lit.int .i64 x).wf=true):D5 x:=by have:=e4F h;unfold D5 at*;omega
section
variable {h h' :Heap} {a:SrvA} {w:SW} {q:Qs}
theorem e0i(S:SI h a w q){k:Nat}{l:List Int}(hq:q k=some l){rq:ReqV}(rc:ReqC a.las.length rq){rule cost:Int}{kl:List Int}(ho:rq=⟨1,rule,cost,kl,0⟩)(hk:w.k+1<=1000000000)(hou:l.length+22<=a.ou)(t n:Int)(ht:t<=1000000000)
  {x:Value} {b:Nat} (V:E3 h 5 B8 x (C4 rq) b) (hb:¬a.own none b) {R:(SW×List EvT)×List Int} (hR:R=N7 a.las (w.rd t,[]) rq) {Q:Value->Heap->Prop}
  (hQ:∀h' evv eb,OldF (a.own none) h h' ->SI h' a R.1.1 (q.set k (l++R.2))->E3 h' 123 EvE evv R.1.2 eb/\(R.1.2=[]/\evv=.slice none 0 0\/h.next<=eb)->Q (.agg #[.int .i64 0,.int .i64 (C4 rq).length,K9,evv]) h'):
  u9 cp 15 [.pointer (some ⟨a.s,0,none⟩),.agg #[.int .i64 2,.int .i64 t,.int .i64 k,x,.int .i64 n,.slice none 0 0]] h Q:=by
 have rb:=rc.byt
 rw[ho]at rb
 refine e0j S hq rc hk (fun L _=>by rw[ho];show(l.length:Int)+22<=a.ou;omega) t n ht x V.bys (b6a rb ho) (fun z o cap e hz=>?_) hR hQ
 have:z=b:=V.blk e
 exact hb (this▸hz)
theorem SI.old'{F:Nat->Prop}{h0:Heap}(o:Old h0 h)(k:OldF F h h')(hF:∀z,F z->h0.next<=z):Old h0 h' :=⟨uzR o.next k.next,fun z hz=>by rw[k.obj z (uzN hz o.next) (fun hz' =>by have:=hF z hz';omega),o.obj z hz]⟩
theorem SI.geo(S:SI h a w q){i:Nat}{L:LA}{x:LV}(hL:a.las[i]? =some L)(hx:w.ls[i]? =some x):x.P.OK L.R.C/\L.R.OK/\1<=L.rp.W/\L.rp.N<=65:=by
 obtain⟨cs,⟨v,S,r,sb⟩,_⟩:=S
 have hi:=(List.getElem?_eq_some_iff.1 hL).1
 obtain⟨l,hl⟩:∃l,v.ls[i]? =some l:=⟨_,uzF (by rw[S.ll];exact hi)⟩
 have M:=r.rel i L l x hL hl hx _ (S.L i L l hL hl)
 obtain⟨g1,g2⟩:=RP.geo M.geo
 have:=M.P.ok
 rw[M.geo.pn]at this
 exact⟨this,M.geo.ok,g1,g2⟩
theorem SI.k(S:SI h a w q):0<=w.k:=by
 obtain⟨cs,⟨v,S,r,sb⟩,_⟩:=S
 exact sb.k.1
theorem SI.now(S:SI h a w q):0<=w.now/\w.now<=1000000000:=by
 obtain⟨cs,⟨v,S,r,sb⟩,_⟩:=S
 exact sb.now
end
def RP.at_(r:RP)(x sb tb:Nat)(ps nbs:Nat->Nat)(rv:Value)(rb:Nat):RP:=⟨x,sb,tb,ps,nbs,rv,rb,r.rows,r.N,r.w,r.W,r.L,r.part⟩
theorem RP.same{r s:RP}(h1:r.rows=s.rows)(h2:r.N=s.N)(h3:r.w=s.w)(h4:r.W=s.W)(h5:r.L=s.L)(h6:r.part=s.part):s=r.at_ s.x s.sb s.tb s.ps s.nbs s.rv s.rb:=by
 unfold RP.at_
 rw[h1,h2,h3,h4,h5,h6]
section
variable (r:RP) (x sb tb:Nat) (ps nbs:Nat->Nat) (rv:Value) (rb:Nat)
theorem a7S(st:List Int)(cs:Nat->List Int)(key:ByteArray)(n:Int)(into:Nat):∀m,J7 (r.at_ x sb tb ps nbs rv rb) st cs key n into m=J7 r st cs key n into m
 |0=>rfl
 |m+1=>by
  have ih:=a7S st cs key n into m
  simp only[J7,ih]
  rfl
theorem c7a:a1T (r.at_ x sb tb ps nbs rv rb)=a1T r:=by
 funext now st cs key
 exact a7S r x sb tb ps nbs rv rb _ _ _ _ _ _
theorem b5J(st:List Int)(cs:Nat->List Int)(key:ByteArray)(cost n:Int):∀d k,a3n (r.at_ x sb tb ps nbs rv rb) st cs key cost n d k=a3n r st cs key cost n d k
 |0,k=>rfl
 |d+1,k=>by
  have ih:=b5J st cs key cost n d (k+1)
  simp only[a3n,ih,a7S]
  rfl
theorem b5K:a0c (r.at_ x sb tb ps nbs rv rb)=a0c r:=by
 funext now st cs key cost
 unfold a0c
 rw[c7a,b5J]
 rfl
theorem a5p:V9 (r.at_ x sb tb ps nbs rv rb)=V9 r:=by
 funext g key
 unfold V9
 rw[c7a]
theorem b7y:a0e (r.at_ x sb tb ps nbs rv rb)=a0e r:=rfl
theorem d9T(R:RuleV):F8 R (r.at_ x sb tb ps nbs rv rb)=F8 R r:=by
 funext v now key
 unfold F8
 rw[a5p,b7y]
theorem b0F(R:RuleV):B3 R (r.at_ x sb tb ps nbs rv rb)=B3 R r:=by
 funext v now held key cost
 unfold B3
 rw[d9T,a5p,b7y,b5K]
theorem d9F(R:RuleV):a0J R (r.at_ x sb tb ps nbs rv rb)=a0J R r:=by
 funext v now key
 unfold a0J
 rw[a5p]
theorem d9G(R:RuleV):N5 R (r.at_ x sb tb ps nbs rv rb)=N5 R r:=by
 funext v now held key cost
 unfold N5
 rw[d9F,a5p,b5K]
theorem c8W(R:RuleV):H4 R (r.at_ x sb tb ps nbs rv rb)=H4 R r:=by
 funext v now held q
 unfold H4
 rw[b0F,d9G]
end
theorem b4R{r s:RP}(h1:r.rows=s.rows)(h2:r.N=s.N)(h3:r.w=s.w)(h4:r.W=s.W)(h5:r.L=s.L)(h6:r.part=s.part)(R:RuleV):H4 R s=H4 R r:=by
 rw[RP.same h1 h2 h3 h4 h5 h6]
 exact c8W _ _ _ _ _ _ _ _ _
theorem b4p{r s:RP}(h1:r.rows=s.rows)(h2:r.N=s.N)(h3:r.w=s.w)(h4:r.W=s.W)(h5:r.L=s.L)(h6:r.part=s.part)(R:RuleV):B3 R s=B3 R r:=by
 rw[RP.same h1 h2 h3 h4 h5 h6]
 exact b0F _ _ _ _ _ _ _ _ _
def b7v(l m:LA):Prop:=l.R=m.R/\B3 l.R l.rp=B3 m.R m.rp/\H4 l.R l.rp=H4 m.R m.rp
theorem b7v.of{h h' :Heap}{l m:LA}{v w:LimV}(A:LimAt h l v)(B:LimAt h' m w)(hR:l.R=m.R)(hr:l.rp.rows=m.rp.rows):b7v l m:=by
 have e2:l.rp.N=m.rp.N:=by rw[A.gN,B.gN,hR]
 have e3:l.rp.w=m.rp.w:=by rw[A.gw,B.gw,hR]
 have e4:l.rp.W=m.rp.W:=by rw[A.gW,B.gW,hR]
 have e5:l.rp.L=m.rp.L:=by rw[A.gL,B.gL,hR]
 have e6:l.rp.part=m.rp.part:=by rw[A.gs,B.gs,hR]
 refine⟨hR,?_,?_⟩
 ·rw[<-hR];exact(b4p hr e2 e3 e4 e5 e6 _).symm
 ·rw[<-hR];exact(b4R hr e2 e3 e4 e5 e6 _).symm
def e4H(la lb:List LA):Prop:=la.length=lb.length/\∀(i:Nat) (l m:LA),la[i]? =some l->lb[i]? =some m->b7v l m
theorem e2I(w:SW)(t:Int):(w.rd t).rd t=w.rd t:=by
 unfold SW.rd
 simp only[if_true]
 congr 1
 omega
theorem b1B(las:List LA)(w:SW)(t:Int)(evs:List EvT)(q:ReqV):((N7 las (w.rd t,evs) q).1.1).rd t=(N7 las (w.rd t,evs) q).1.1:=by
 have e:=e2I w t
 unfold N7
 cases las[q.rule.toNat]? with
 |none=>exact e
 |some L=>
  cases h:(w.rd t).ls[q.rule.toNat]? with
  |none=>simp only[h];exact e
  |some v=>
   simp only[h]
   unfold SW.rd at e ⊢
   simp only[SW.mk.injEq,if_true]at e ⊢
   exact⟨e.1,trivial,trivial,trivial,trivial,trivial,trivial⟩
theorem d0n(las:List LA)(st:SW×List EvT)(q:ReqV):(N7 las st q).1.1.now=st.1.now/\(N7 las st q).1.1.again=st.1.again/\(N7 las st q).1.1.k<=st.1.k+1/\(N7 las st q).1.1.ls.length=st.1.ls.length/\(q.op=1->(N7 las st q).2.length<=22):=by
 unfold N7
 cases las[q.rule.toNat]? with
 |none=>exact⟨rfl,rfl,by simp only;omega,rfl,fun _=>by simp only[vkz];omega⟩
 |some L=>
  cases h:st.1.ls[q.rule.toNat]? with
  |none=>exact⟨rfl,rfl,by simp only;omega,rfl,fun _=>by simp only[vkz];omega⟩
  |some v=>exact⟨rfl,rfl,uzQ _,viz,fun ho=>by show(H4 _ _ _ _ _ q).2.2.length<=22;unfold H4;rw[if_pos ho];exact Nat.le_of_eq (a2O _ _ _ _)⟩
theorem b7C{las:List LA}{w:SW}{evs:List EvT}{q:ReqV}{L:LA}{v:LV}(hL:las[q.rule.toNat]? =some L)(hv:w.ls[q.rule.toNat]? =some v)(hag:w.again=false)(hop:q.op=1){r:(Int×Int×Int)×List EvT' ×LV}(hr:r=B3 L.R L.rp v w.now 0 (bs q.key) q.cost):
  N7 las (w,evs) q=(({ w with ls:=w.ls.set q.rule.toNat r.2.2,k:=w.k+1 },evs++evO q.rule r.2.1),a2N 1 r.1.1 r.1.2.1 r.1.2.2):=by
 have e4:Q5 w.now w.first w.again L.R.Wd=0:=by rw[hag];rfl
 unfold N7
 rw[hL]
 simp only[hv]
 unfold H4
 rw[if_pos hop,e4,<-hr]
abbrev gdR(p:F3):Prop:=(Lit.int .i64 p.1).wf=true/\(Lit.int .i64 p.2.1).wf=true/\(Lit.int .i64 p.2.2.1).wf=true/\(Lit.int .i64 p.2.2.2.1).wf=true/\(Lit.int .i64 p.2.2.2.2.1).wf=true/\(Lit.int .i64 p.2.2.2.2.2.1).wf=true/\(Lit.int .i64 p.2.2.2.2.2.2.1).wf=true/\(Lit.int .i64 p.2.2.2.2.2.2.2.1).wf=true/\True
section
variable {h h' :Heap} {a b:SrvA} {w w' :SW} {q q' :Qs}
theorem SI.at_(S:SI h a w q){i:Nat}{L:LA}{x:LV}(hL:a.las[i]? =some L)(hx:w.ls[i]? =some x):Lmt h L x:=by
 obtain⟨cs,⟨v,S,r,sb⟩,_⟩:=S
 have hi:=(List.getElem?_eq_some_iff.1 hL).1
 obtain⟨l,hl⟩:∃l,v.ls[i]? =some l:=⟨_,uzF (by rw[S.ll];exact hi)⟩
 exact r.rel i L l x hL hl hx _ (S.L i L l hL hl)
theorem SI.ll(S:SI h a w q):w.ls.length=a.las.length:=by
 obtain⟨cs,⟨v,S,r,sb⟩,_⟩:=S
 have h1:=r.len
 have h2:=S.ll
 exact h1.trans h2
theorem SI.same(S:SI h a w q)(S' :SI h' b w' q'){sl:List Int}(hR:a.las.map LA.R=b.las.map LA.R)(ra:b1y a sl)(rb:b1y b sl):e4H a.las b.las:=by
 have hlen:a.las.length=b.las.length:=by have:=congrArg List.length hR;rwa [uzL,uzL]at this
 refine⟨hlen,fun i l m hl hm=>?_⟩
 have ha:=(List.getElem?_eq_some_iff.1 hl).1
 obtain⟨x,hx⟩:∃x,w.ls[i]? =some x:=⟨_,uzF (by rw[S.ll];exact ha)⟩
 obtain⟨y,hy⟩:∃y,w'.ls[i]? =some y:=⟨_,uzF (by rw[S'.ll];omega)⟩
 obtain⟨_,_,_,_,A,_⟩:=(S.at_ hl hx).toAt
 obtain⟨_,_,_,_,B,_⟩:=(S'.at_ hm hy).toAt
 have e:l.R=m.R:=by
  have h1:(a.las.map LA.R)[i]? =some l.R:=by rw[uzJ,hl];rfl
  have h2:(b.las.map LA.R)[i]? =some m.R:=by rw[uzJ,hm];rfl
  rw[hR,h2]at h1
  exact(uzA h1).symm
 refine b7v.of A B e ?_
 rw[(ra i l hl).1,(rb i m hm).1,e]
end
theorem c7y(h:Heap)(er ac:Int){oa ob ea eb:Value}{lo:List Int}{le:List EvT}(A:Bys h oa lo)(B:Bys h ob lo)(EA:Lst h EvE ea le)(EB:Lst h EvE eb le)(hl:le.length<=1000000000)(hQ:∀h',Old h h' ->Q (.bool true) h'):
  u9 cp 25 [.agg #[.int .i64 er,.int .i64 ac,oa,ea],.agg #[.int .i64 er,.int .i64 ac,ob,eb]] h Q:=by
 rw[a8 cp f0q]
 obtain⟨aa,ca,rfl,ra⟩:=EA
 obtain⟨ab,cb,rfl,rb⟩:=EB
 obtain⟨oa1,oa2,rfl,_⟩:=A.val
 obtain⟨ob1,ob2,rfl,_⟩:=B.val
 obtain⟨h1,h1d⟩:∃h1,h1=(h.new (.cells [.int .i64 er,.int .i64 ac,.slice oa1 lo.length oa2,.slice aa le.length ca] 42 .fix)).new (.cells [.int .i64 er,.int .i64 ac,.slice ob1 lo.length ob2,.slice ab le.length cb] 42 .fix):=⟨_,rfl⟩
 have o1:Old h h1:=by rw[h1d];exact((Old.refl h).more _).more _
 have n1:h1.next=h.next+1+1:=by rw[h1d];rfl
 have g1:h1.obj h.next=.cells [.int .i64 er,.int .i64 ac,.slice oa1 lo.length oa2,.slice aa le.length ca] 42 .fix:=by rw[h1d,f4 _ _ (by simp only[j0];omega)];exact f9 _ _
 have g2:h1.obj (h.next+1)=.cells [.int .i64 er,.int .i64 ac,.slice ob1 lo.length ob2,.slice ab le.length cb] 42 .fix:=by rw[h1d];exact f9 _ _
 have ta:=a1P (A.old o1)
 have tb:=a1P (B.old o1)
 simp(disch:=omega)only[c25,↓R25,<-h1d,g1,g2,ta,tb,E5,bne_self_eq_false,↓l9,m9,zA,zB,zC,zD,zE,zF,zG,zH,zI,reduceCtorEq,zJ,zK,zL,zM]
 refine A6 cp b1K _ (fun d e hh=>∃j:Nat,j+d=le.length/\hh=h1/\e 2=.pointer (some ⟨h.next,0,none⟩)/\e 3=.pointer (some ⟨h.next+1,0,none⟩)/\e 38=.int .i64 le.length/\e 39=.int .i64 j) ?_ le.length _ _ ⟨0,by omega,rfl,rfl,rfl,rfl,rfl⟩
 rintro d e hh ⟨j,hj,rfl,e2,e3,e38,e39⟩
 by_cases cj:j<le.length
 rotate_left
 ·have b2:decide ((j:Int)<(le.length:Int))=false:=dFz (by omega)
  simp(disch:=omega)only[b1K,c25,↓R25,e2,e3,e38,e39,b2,↓l9,m9,zA,zB,zC,zD,zE,zF,zG,zH,zI,reduceCtorEq,zJ,zK,zL,zM]
  exact hQ _ o1
 have b2:decide ((j:Int)<(le.length:Int))=true:=dTz (by omega)
 have nx:(j:Int)+1=((j+1:Nat):Int):=by omega
 have wj:IntKind.i64.wrap ((j+1:Nat):Int)=((j+1:Nat):Int):=by rw[R7];omega
 have hx:le[j]? =some le[j]:=uzF cj
 obtain⟨y,hy⟩:∃y,y=le[j]:=⟨_,rfl⟩
 rw[<-hy]at hx
 obtain⟨ba,fa,haa,la,qa⟩:=ra j y hx
 obtain⟨bb,fb,hbb,lb,qb⟩:=rb j y hx
 subst haa
 subst hbb
 obtain⟨y1,y2,y3,y4⟩:=y
 have qa:(hh.obj ba).read (fa+j*4) 4=some [.int .i64 y1,.string y2,.bool y3,.int .i64 y4]:=by rw[o1.obj ba la];exact qa
 have qb:(hh.obj bb).read (fb+j*4) 4=some [.int .i64 y1,.string y2,.bool y3,.int .i64 y4]:=by rw[o1.obj bb lb];exact qb
 simp(disch:=omega)only[b1K,c25,↓R25,e2,e3,e38,e39,b2,g1,g2,qa,qb,eqL,E5,beq_self_eq_true,Bool.and_self,Bool.not_true,nx,wj,↓l9,m9,zA,zB,zC,zD,zE,zF,zG,zH,zI,reduceCtorEq,zJ,zK,zL,zM]
 exact⟨d-1,by omega,j+1,by omega,rfl⟩
end Go.Proofs.YtlakhgibjfmjjaaGreat.Can
namespace Go.Proofs.YtlakhgibjfmjjaaGreat.Can
open Go
structure GEq(t:Int)(x y:LV):Prop where
 P:x.P=y.P
 st:x.G.st=y.G.st
 cs:x.G.cs=y.G.cs
 U:x.U=y.U
 al:x.al=y.al
 de:x.de=y.de
 bd:x.bd=y.bd
 nx:x.G.now<=t
 ny:y.G.now<=t
theorem GEq.refl{t:Int}{x:LV}(h:x.G.now<=t):GEq t x x:=⟨rfl,rfl,rfl,rfl,rfl,rfl,rfl,h,h⟩
theorem GEq.later{t t' :Int}{x y:LV}(h:GEq t x y)(ht:t<=t'):GEq t' x y:=⟨h.P,h.st,h.cs,h.U,h.al,h.de,h.bd,Int.le_trans h.nx ht,Int.le_trans h.ny ht⟩
theorem GEq.to{t now:Int}{x y:LV}(h:GEq t x y)(ht:t<=now):toG x.G now=toG y.G now:=by
 have h1:=h.nx
 have h2:=h.ny
 unfold toG
 rw[h.st,h.cs,show max x.G.now now=max y.G.now now by omega]
theorem GEq.pre{t now:Int}{x y:LV}(h:GEq t x y)(ht:t<=now)(R:RuleV)(key:ByteArray)(cost:Int):Can.pre R x now key cost=Can.pre R y now key cost:=by
 have e:=h.to ht
 obtain⟨xP,xG,xU,xa,xd,xb⟩:=x
 obtain⟨yP,yG,yU,ya,yd,yb⟩:=y
 have h1:xP=yP:=h.P
 have h2:xU=yU:=h.U
 have h3:xa=ya:=h.al
 have h4:xd=yd:=h.de
 have h5:xb=yb:=h.bd
 subst h1 h2 h3 h4 h5
 unfold Can.pre
 simp only at e ⊢
 rw[e]
theorem c9q(R:RuleV)(rp:RP)(u:LV)(now:Int)(key:ByteArray):(F8 R rp u now key).2.2.G.now=u.G.now:=by
 unfold F8
 split
 ·rfl
 ·split
  ·rfl
  ·split
   ·rfl
   ·split<;>rfl
theorem b6p(R:RuleV)(rp:RP)(v:LV)(now held:Int)(key:ByteArray)(cost:Int):(B3 R rp v now held key cost).2.2.G.now<=max v.G.now now:=by
 have e:=c9q R rp (Can.pre R v now key cost) now key
 have e2:(Can.pre R v now key cost).G.now=max v.G.now now:=rfl
 unfold B3
 split
 ·show v.G.now<=_;omega
 ·simp only
  split
  ·split
   ·show(F8 R rp (Can.pre R v now key cost) now key).2.2.G.now<=_;omega
   ·show(F8 R rp (Can.pre R v now key cost) now key).2.2.G.now<=_;omega
  ·split
   ·show(F8 R rp (Can.pre R v now key cost) now key).2.2.G.now<=_;omega
   ·show(F8 R rp (Can.pre R v now key cost) now key).2.2.G.now<=_;omega
theorem GEq.check{t now:Int}{x y:LV}(h:GEq t x y)(ht:t<=now)(R:RuleV)(rp:RP)(held:Int)(key:ByteArray)(cost:Int):
  (B3 R rp x now held key cost).1=(B3 R rp y now held key cost).1/\(B3 R rp x now held key cost).2.1=(B3 R rp y now held key cost).2.1/\GEq now (B3 R rp x now held key cost).2.2 (B3 R rp y now held key cost).2.2:=by
 have e:=h.pre ht R key cost
 have n1:=b6p R rp y now held key cost
 have h1:=h.nx
 have h2:=h.ny
 cases hr:H9 R.B now held cost with
 |some z=>
  obtain⟨ver,ret⟩:=z
  have ex:B3 R rp x now held key cost=((ver,0,ret),[],x.cnt ver):=by unfold B3;rw[hr]
  have ey:B3 R rp y now held key cost=((ver,0,ret),[],y.cnt ver):=by unfold B3;rw[hr]
  rw[ex,ey]
  refine⟨rfl,rfl,h.P,h.st,h.cs,h.U,?_,?_,?_,by show x.G.now<=now;omega,by show y.G.now<=now;omega⟩
  ·show(if ver=1 then _ else x.al)=(if ver=1 then _ else y.al);rw[h.al]
  ·show(if ver=2 then _ else x.de)=(if ver=2 then _ else y.de);rw[h.de]
  ·show(if ver=1\/ver=2 then x.bd else _)=(if ver=1\/ver=2 then y.bd else _);rw[h.bd]
 |none=>
  have exy:B3 R rp x now held key cost=B3 R rp y now held key cost:=by
   unfold B3
   rw[hr]
   simp only
   rw[e]
  rw[exy]
  exact⟨rfl,rfl,GEq.refl (by omega)⟩
theorem GEq.other{t now:Int}{x y:LV}(h:GEq t x y)(ht:t<=now){R:RuleV}{rp:RP}{held:Int}{q:ReqV}(hq:q.op≠1):GEq now x (H4 R rp y now held q).1:=by
 have h2:=h.ny
 have l:=h.later ht
 unfold H4
 rw[if_neg hq]
 split
 ·unfold N5
  split
  ·exact l
  ·simp only
   split
   ·exact⟨h.P,h.st,h.cs,h.U,h.al,h.de,h.bd,l.nx,by show max y.G.now now<=now;omega⟩
   ·exact⟨h.P,h.st,h.cs,h.U,h.al,h.de,h.bd,l.nx,by show max y.G.now now<=now;omega⟩
 ·split
  ·exact l
  ·exact l
theorem e0S{las:List LA}{w:SW}{evs:List EvT}{q:ReqV}(hq:q.op≠1){t:Int}{lx:List LV}(ge:∀(i:Nat) (x y:LV),lx[i]? =some x->w.ls[i]? =some y->GEq t x y)(ht:t<=w.now):
  ∀(i:Nat) (x y:LV),lx[i]? =some x->(N7 las (w,evs) q).1.1.ls[i]? =some y->GEq w.now x y:=by
 intro i x y hx hy
 unfold N7 at hy
 cases h1:las[q.rule.toNat]? with
 |none=>rw[h1]at hy;exact(ge i x y hx hy).later ht
 |some L=>
  cases h2:w.ls[q.rule.toNat]? with
  |none=>rw[h1]at hy;simp only[h2]at hy;exact(ge i x y hx hy).later ht
  |some v=>
   rw[h1]at hy
   simp only[h2]at hy
   by_cases e:q.rule.toNat=i
   ·subst e
    rw[uzH (List.getElem?_eq_some_iff.1 h2).1]at hy
    rw[<-uzA hy]
    exact(ge _ x v hx h2).other ht hq
   ·rw[uzI e]at hy
    exact(ge i x y hx hy).later ht
theorem b6F{q:ReqV}(hk:E4 q.key):E4 (C4 q):=by
 have h2:∀l:List Int,E4 l->E4 (J5 167 l):=fun l hl=>by
  have:E4 [(167:Int),1,(l.length:Int) / 256 % 256,(l.length:Int) % 256]:=fun x hx=>by simp at hx;omega
  exact this.app hl
 have h0:E4 [q.op % 256,q.rule % 256]:=fun x hx=>by simp at hx;omega
 have h1:E4 [(q.key.length:Int) % 256]:=fun x hx=>by simp at hx;omega
 have h3:E4 [q.k % 256]:=fun x hx=>by simp at hx;omega
 unfold C4 a3S
 refine h2 _ (h0.app ?_)
 split
 ·exact(((Q9 4 _).app h1).app hk)
 ·split
  ·exact h3
  ·exact fun x hx=>by simp at hx
section
variable {h h' :Heap} {a:SrvA} {w:SW} {q:Qs}
theorem SI.anslen(S:SI h a w q){rq:ReqV}(rc:ReqOK a.las.length rq)(t:Int):(N7 a.las (w.rd t,[]) rq).2.length<=700:=by
 unfold N7
 cases hl:a.las[rq.rule.toNat]? with
 |none=>exact vJz _
 |some L=>
  cases hx:(w.rd t).ls[rq.rule.toNat]? with
  |none=>simp only[hx];exact vJz _
  |some v=>
   simp only[hx]
   have hx:w.ls[rq.rule.toNat]? =some v:=hx
   have M:=S.at_ hl hx
   have sz:SzU L.R.T v.U:=by have:=M.U.sz;rw[M.geo.un]at this;exact this
   have:=(a8b (rp:=L.rp) (now:=(w.rd t).now) (held:=Q5 (w.rd t).now (w.rd t).first (w.rd t).again L.R.Wd) rc.op M.geo.ok.T.1 sz).1
   have hT:=M.geo.ok.T
   have hk:=rc.k
   have m:T8 rq.op rq.k L.R.T<=700:=by
    unfold T8
    split
    ·decide
    ·split
     ·omega
     ·decide
   omega
theorem e2f(S:SI h a w q){k:Nat}{l:List Int}(hq:q k=some l){rq:ReqV}(rc:ReqC a.las.length rq)(hk:w.k+1<=1000000000)(hou:∀L,a.las[rq.rule.toNat]? =some L->(l.length:Int)+T8 rq.op rq.k L.R.T<=a.ou)(t n:Int)(ht:t<=1000000000)
  {x:Value} {b:Nat} (V:E3 h 5 B8 x (C4 rq) b) (hb:¬a.own none b) {R:(SW×List EvT)×List Int} (hR:R=N7 a.las (w.rd t,[]) rq) {Q:Value->Heap->Prop}
  (hQ:∀h' evv eb,OldF (a.own none) h h' ->SI h' a R.1.1 (q.set k (l++R.2))->E3 h' 123 EvE evv R.1.2 eb/\(R.1.2=[]/\evv=.slice none 0 0\/h.next<=eb)->Q (.agg #[.int .i64 0,.int .i64 (C4 rq).length,K9,evv]) h'):
  u9 cp 15 [.pointer (some ⟨a.s,0,none⟩),.agg #[.int .i64 2,.int .i64 t,.int .i64 k,x,.int .i64 n,.slice none 0 0]] h Q:=by
 refine e0j S hq rc hk hou t n ht x V.bys (b6F rc.byt) (fun z o cap e hz=>?_) hR hQ
 have:z=b:=V.blk e
 exact hb (this▸hz)
end
def c7x:Option Addr->Option Addr->Bool
 |none,none=>true
 |some a,some b=>Nat.beq a.block b.block && Nat.beq a.off b.off && a.spot.isNone && b.spot.isNone
 |_,_=>false
def b2z:Value->Value->Bool
 | .bool a,.bool b=>a==b
 | .int k n,.int k' n' =>decide (k=k') && decide (n=n')
 | .string s,.string t=>decide (s.data.toList=t.data.toList)
 | .pointer a,.pointer b=>c7x a b
 | .slice a n c,.slice b m d=>c7x a b && Nat.beq n m && Nat.beq c d
 | .map none,.map none=>true
 | .map (some a),.map (some b)=>Nat.beq a b
 | .nilFunc,.nilFunc=>true
 | .nilIface,.nilIface=>true
 |_,_=>false
def a2A:List Value->List Value->Bool
 | [],[]=>true
 |a::x,b::y=>b2z a b && a2A x y
 |_,_=>false
def b7j:Value->Value->Bool
 | .agg a,.agg b=>a2A a.toList b.toList
 | .tuple a,.tuple b=>a2A a.toList b.toList
 |a,b=>b2z a b
theorem b5o{a b:Option Addr}(h:c7x a b=true):a=b:=by
 unfold c7x at h
 split at h
 ·rfl
 ·rename_i x y
  obtain⟨b1,o1,s1⟩:=x
  obtain⟨b2,o2,s2⟩:=y
  simp only[vjz,Option.isNone_iff_eq_none]at h
  obtain⟨⟨⟨h1,h2⟩,rfl⟩,rfl⟩:=h
  rw[Nat.eq_of_beq_eq_true h1,Nat.eq_of_beq_eq_true h2]
 ·simp at h
theorem b1l{a b:Value}(h:b2z a b=true):a=b:=by
 unfold b2z at h
 split at h
 ·simpa using h
 ·simp only[vjz,decide_eq_true_eq]at h;rw[h.1,h.2]
 ·rename_i s t
  simp only[decide_eq_true_eq]at h
  have:s.data=t.data:=Array.toList_inj.1 h
  obtain⟨s⟩:=s
  obtain⟨t⟩:=t
  rw[show s=t from this]
 ·rw[b5o h]
 ·simp only[vjz]at h
  rw[b5o h.1.1,Nat.eq_of_beq_eq_true h.1.2,Nat.eq_of_beq_eq_true h.2]
 ·rfl
 ·rw[Nat.eq_of_beq_eq_true h]
 ·rfl
 ·rfl
 ·simp at h
theorem a3V:∀{a b:List Value},a2A a b=true->a=b
 | [],[],_=>rfl
 |a::x,b::y,h=>by
  simp only[a2A,vjz]at h
  rw[b1l h.1,a3V h.2]
 | [],_::_,h=>by simp[a2A]at h
 |_::_,[],h=>by simp[a2A]at h
theorem c9u{a b:Value}(h:b7j a b=true):a=b:=by
 unfold b7j at h
 split at h
 ·rename_i x y;rw[Array.toList_inj.1 (a3V h)]
 ·rename_i x y;rw[Array.toList_inj.1 (a3V h)]
 ·exact b1l h
def e2J(o:COp):Bool:=match D7 o with
 | .read| .pure=>true
 |_=>false
def b1v(h:Heap)(o:COp)(v:Value):Bool:=e2J o && match C7 o h with
 |some (u,_)=>b7j u v
 |none=>false
def b5N(g:Option (Value×Bool))(h:Heap)(o:COp)(v:Value):Bool:=
 match g with
 |none=>b1v h o v
 |some (x,w)=>(match U3 x w with|some false=>true|_=>false) ||b1v h o v
theorem d9m{h:Heap}{o:COp}{v:Value}(hb:b1v h o v=true):C7 o h=some (v,h):=by
 unfold b1v at hb
 simp only[vjz]at hb
 obtain⟨h1,h2⟩:=hb
 split at h2
 ·rename_i u h' hc
  rw[c9u h2]at hc
  have:h' =h:=by
   unfold e2J at h1
   split at h1
   ·rename_i hk;exact a3K hk hc
   ·rename_i hk;exact(a3J hk hc).1
   ·simp at h1
  rw[hc,this]
 ·simp at h2
theorem e4v{g:Option (Value×Bool)}{h:Heap}{o:COp}{v:Value}(hb:b5N g h o v=true):W5 g h o v:=by
 unfold b5N at hb
 unfold W5
 split at hb
 ·exact d9m hb
 ·rename_i x w
  simp only[Bool.or_eq_true]at hb
  rcases hb with hb|hb
  ·left
   split at hb
   ·assumption
   ·simp at hb
  ·right;exact d9m hb
def a8Q(call:z8):Reg->Heap->Option (a7×Heap)
 | .done e,h=>some (e,h)
 | .op o k,h=>match I0 call o h with
  |some (v,h')=>a8Q call (k v) h'
  |none=>none
 | .opg g w o k,h=>match U3 g w with
  |some true=>match I0 call o h with
   |some (v,h')=>a8Q call (k v) h'
   |none=>none
  |some false=>a8Q call (k (.tuple #[])) h
  |none=>none
 | .snap k,h=>a8Q call (k h) h
 | .chk g hj o v k,h=>match b5N g (hj.getD h) o v with
  |true=>a8Q call k h
  |false=>none
theorem e1O(call:z8)(l:Reg):∀h,LeO (a8Q call l h) (M2 call l h):=by
 induction l with
 |done e=>intro h r hr;exact hr
 |op o k ih=>
  intro h r hr
  simp only[a8Q,M2]at hr ⊢
  split at hr
  ·rename_i v h' he;rw[he];exact ih v h' r hr
  ·simp at hr
 |opg g w o k ih=>
  intro h r hr
  simp only[a8Q,M2]at hr ⊢
  split at hr
  ·rename_i hw
   rw[hw]
   simp only
   split at hr
   ·rename_i v h' he;rw[he];exact ih v h' r hr
   ·simp at hr
  ·rename_i hw;rw[hw];exact ih _ h r hr
  ·simp at hr
 |snap k ih=>intro h r hr;exact ih h h r hr
 |chk g hj o v k ih=>
  intro h r hr
  simp only[a8Q,M2]at hr ⊢
  split at hr
  ·rename_i hb
   rw[if_pos (e4v hb)]
   exact ih h r hr
  ·simp at hr
def a0g(call:z8)(N:Nat):CC->a7->Heap->Option (X×a7×Heap)
 | .skip,e,h=>some (.normal,e,h)
 | .region r,e,h=>(a8Q call (r e) h).map fun r=>(.normal,r.1,r.2)
 | .seq a b,e,h=>match a0g call N a e h with
  |some (.normal,e',h')=>a0g call N b e' h'
  |r=>r
 | .cond c t f,e,h=>match c e with
  | .bool true=>a0g call N t e h
  | .bool false=>a0g call N f e h
  |_=>none
 | .block id b,e,h=>match a0g call N b e h with
  |some (.exit i,e',h')=>if i=id then some (.normal,e',h')else some (.exit i,e',h')
  |r=>r
 | .loop b,e,h=>Y2 (a0g call N b) N e h
 | .exit id,e,h=>some (.exit id,e,h)
 | .ret,e,h=>some (.ret,e,h)
 | .bad,_,_=>none
 | .dfr pre g caps post,e,h=>match a0g call N pre e h with
  |some (.normal,e1,h1)=>match a0g call N post e1 h1 with
   |some (.normal,e2,h2)|some (.ret,e2,h2)=>(call (.fn g) (caps e1) h2).map fun r=>(.ret,e2,r.2)
   |_=>none
  |some (.ret,e1,h1)=>some (.ret,e1,h1)
  |_=>none
 | .rng _ _ _ _ _ _ _,_,_=>none
theorem e1L(call:z8)(cy:Nat->YF->z8)(N:Nat)(x:CC):∀e h,LeO (a0g call N x e h) (D3 call cy N x e h):=by
 induction x with
 |skip=>intro e h r hr;exact hr
 |region ops=>
  intro e h r hr
  simp only[a0g,D3,uzD]at hr ⊢
  obtain⟨a,ha,rfl⟩:=hr
  exact⟨a,e1O _ _ _ _ ha,rfl⟩
 |seq a b iha ihb=>
  intro e h r hr
  simp only[a0g,D3]at hr ⊢
  cases hx:a0g call N a e h with
  |none=>rw[hx]at hr;exact absurd hr (by simp)
  |some y=>
   rw[hx]at hr;rw[iha _ _ _ hx]
   obtain⟨x,e',h'⟩:=y
   cases x with
   |normal=>exact ihb _ _ _ hr
   |exit i=>exact hr
   |ret=>exact hr
 |cond t a b iha ihb=>
  intro e h r hr
  simp only[a0g,D3]at hr ⊢
  split at hr
  ·rename_i hc;rw[hc];exact iha _ _ _ hr
  ·rename_i hc;rw[hc];exact ihb _ _ _ hr
  ·exact absurd hr (by simp)
 |block id b ih=>
  intro e h r hr
  simp only[a0g,D3]at hr ⊢
  cases hx:a0g call N b e h with
  |none=>rw[hx]at hr;exact absurd hr (by simp)
  |some y=>rw[hx]at hr;rw[ih _ _ _ hx];exact hr
 |loop b ih=>intro e h r hr;exact a0n (fun e h=>ih e h) N N (uzP _) e h r hr
 |exit id=>intro e h r hr;exact hr
 |ret=>intro e h r hr;exact hr
 |bad=>intro e h r hr;exact hr
 |dfr pre g caps post iha ihb=>
  intro e h r hr
  simp only[a0g,D3]at hr ⊢
  cases hx:a0g call N pre e h with
  |none=>rw[hx]at hr;exact absurd hr (by simp)
  |some y=>
   rw[hx]at hr;rw[iha _ _ _ hx]
   obtain⟨x,e',h'⟩:=y
   cases x with
   |normal=>
    simp only at hr ⊢
    cases hy:a0g call N post e' h' with
    |none=>rw[hy]at hr;exact absurd hr (by simp)
    |some z=>rw[hy]at hr;rw[ihb _ _ _ hy];exact hr
   |exit i=>exact hr
   |ret=>exact hr
 |rng=>intro e h r hr;exact absurd hr (by simp[a0g])
def b2d(CP:CProg):Nat->z8
 |0,_,_,_=>none
 |n+1,.yl _,_,_=>none
 |n+1,.fn f,args,h=>match CP f with
  |none=>none
  |some fn=>match a0g (b2d CP n) n fn.body (T6 args) h with
   |some (.normal,e,h')=>(G3 e h' fn.results).map fun v=>(v,h')
   |some (.ret,e,h')=>(G3 e h' fn.results).map fun v=>(v,h')
   |_=>none
theorem c7c(CP:CProg):∀n,LeC (b2d CP n) (Q3 CP n)
 |0=>fun f a h r hr=>absurd hr (by simp[b2d])
 |n+1=>fun f a h r hr=>by
  cases f with
  |yl b=>rw[b2d]at hr;exact absurd hr (by simp)
  |fn f=>
   rw[b2d]at hr
   rw[a0B]
   cases hf:CP f with
   |none=>rw[hf]at hr;exact absurd hr (by simp)
   |some fn=>
    rw[hf]at hr
    simp only at hr ⊢
    cases hx:a0g (b2d CP n) n fn.body (T6 a) h with
    |none=>rw[hx]at hr;exact absurd hr (by simp)
    |some y=>
     rw[hx]at hr
     rw[a2W (c7c CP n) (a7K (uzP n) (LeP.refl CP)) (uzP n) _ _ _ _ (e1L _ (cyF CP n) _ _ _ _ _ hx)]
     exact hr
theorem c9U{CP:CProg}{n:Nat}{f:FuncId}{args:List Value}{h:Heap}{v:Value}(hr:(b2d CP n (.fn f) args h).map (fun r=>r.1)=some v):u9 CP f args h fun u _=>u=v:=by
 simp only[uzD]at hr
 obtain⟨⟨u,h'⟩,hr,rfl⟩:=hr
 exact⟨n,u,h',c7c CP n _ _ _ _ hr,rfl⟩
inductive RD where
 |op (c:COp) (k:Value->RD)
 |dcall (f:FuncId) (args:List Value) (k:Value->RD)
 |done (e:a7)
abbrev a2G:=FuncId->List Value->Heap->(Value->Heap->Prop)->Prop
def Q6(CP:CProg)(DS:a2G):RD->Heap->B5->Prop
 | .op c k,h,Q=>∃n v h1,I0 (Q3 CP n) c h=some (v,h1)/\Q6 CP DS (k v) h1 Q
 | .dcall f args k,h,Q=>DS f args h fun v h1=>Q6 CP DS (k v) h1 Q
 | .done e,h,Q=>Q .normal e h
inductive CD where
 |lift (c:CC)
 |seq (a b:CD)
 |cond (c:a7->Value) (t e:CD)
 |block (id:Nat) (b:CD)
 |loop (b:CD)
 |draw (x:a7->Value) (k:a7->Value->Reg)
 |ent (x:a7->Value) (k:a7->Value->Reg)
 |rd (r:a7->RD)
structure DFn where
 body:CD
 results:List RV
def a3a(es:List MapEntry)(seen:List Nat):List MapEntry:=es.filter fun e=> !seen.contains e.born
def a8i(x:Value)(h:Heap):Option (List (Value×Heap)):=
 match x with
 | .pointer (some ⟨r,0,_⟩)=>match h.obj r with
  | .miter none _ _ _=>some [(.tuple #[.bool false],h)]
  | .miter (some m) since seen last=>match h.obj m with
   | .map es clock=>
    if(es.all fun e=>decide (e.born<since))=true/\since<=last then
     if(a3a es seen).isEmpty then some [(.tuple #[.bool false],h)]
     else some ((a3a es seen).map fun e=>(.tuple #[.bool true,e.key,e.val],h.upd r (.miter (some m) since (seen++[e.born]) clock)))
    else none
   |_=>none
  |_=>none
 |_=>none
def e4p(x:Value)(h:Heap):Option Value:=
 match x with
 | .pointer (some ⟨r,0,_⟩)=>match h.obj r with
  | .miter (some m) _ seen stepped=>match h.obj m with
   | .map es clock=>if clock=stepped then match seen.getLast? with
    |some b=>(es.find? fun e=>e.born==b).map fun e=> .tuple #[e.key,e.val]
    |none=>none
    else none
   |_=>none
  |_=>none
 |_=>none
def evD(CP:CProg)(DS:a2G):CD->a7->Heap->B5->Prop
 | .lift c,e,h,Q=>I1 CP c e h Q
 | .seq a b,e,h,Q=>evD CP DS a e h fun x e1 h1=>match x with
  | .normal=>evD CP DS b e1 h1 Q
  |x=>Q x e1 h1
 | .cond c t f,e,h,Q=>match c e with
  | .bool true=>evD CP DS t e h Q
  | .bool false=>evD CP DS f e h Q
  |_=>False
 | .block id b,e,h,Q=>evD CP DS b e h (a0f id Q)
 | .loop b,e,h,Q=>∃(I:Nat->a7->Heap->Prop) (d:Nat),I d e h/\∀d e h,I d e h->evD CP DS b e h (a8d (fun e h=>∃d',d' <d/\I d' e h) Q)
 | .draw x k,e,h,Q=>∃l,a8i (x e) h=some l/\∀r∈l,H1 CP (k e r.1) r.2 Q
 | .ent x k,e,h,Q=>∃v,e4p (x e) h=some v/\H1 CP (k e v) h Q
 | .rd r,e,h,Q=>Q6 CP DS (r e) h Q
section
variable {P:Program} {S:Stay} {m:Map} {h:Heap} {w:World}
theorem Emb.drew(e:Emb P S m h w):Emb P S m h w.drew:=⟨e.lt,e.inj,fun b L hb=>by
 have:=e.obj b L hb
 revert this
 cases h.obj b with
 |gone=>exact fun h=>h
 |loop s p=>exact fun h=>h
 |cells c t g=>exact fun h=>h
 |map es c=>exact fun h=>h
 |siter s p=>exact fun h=>h
 |miter m s se st=>cases m<;>exact fun h=>h,e.prot,e.far,e.sLt,e.wf,e.lp⟩
theorem Out.ofDrew{m1:Map}{h1:Heap}{w1:World}(o:Out P S m h w.drew m1 h1 w1):Out P S m h w m1 h1 w1:=
 ⟨o.emb,o.ext,o.dom,o.next,⟨o.wd.os,o.wd.tape,o.wd.output,o.wd.size,o.wd.block⟩,o.same⟩
theorem X5.left{a b:List MapEntry}(e:X5 m a b){y:MapEntry}(hy:y∈b):∃x,x∈a/\b1u m x y:=by
 obtain⟨i,hi⟩:=List.getElem?_of_mem hy
 have hl:=(List.getElem?_eq_some_iff.1 hi).1
 have hl2:i<a.length:=by rw[e.1];exact hl
 have ha:a[i]? =some a[i]:=uzF hl2
 exact⟨_,uzK ha,e.2 i _ _ ha hi⟩
theorem X5.right{a b:List MapEntry}(e:X5 m a b){x:MapEntry}(hx:x∈a):∃y,y∈b/\b1u m x y:=by
 obtain⟨i,hi⟩:=List.getElem?_of_mem hx
 have hl:=(List.getElem?_eq_some_iff.1 hi).1
 have hl2:i<b.length:=by rw[<-e.1];exact hl
 have hb:b[i]? =some b[i]:=uzF hl2
 exact⟨_,uzK hb,e.2 i _ _ hi hb⟩
theorem X5.find{q:Nat->Bool}:∀{a b:List MapEntry},X5 m a b->∀{x:MapEntry},a.find? (fun e=>q e.born)=some x->∃y,b.find? (fun e=>q e.born)=some y/\b1u m x y
 | [],b,e,x,h=>by simp at h
 |u::a,[],e,x,h=>by have:=e.1;simp at this
 |u::a,v::b,e,x,h=>by
  have h0:b1u m u v:=e.2 0 u v rfl rfl
  have hr:X5 m a b:=⟨by have:=e.1;simpa using this,fun i x y hx hy=>e.2 (i+1) x y (by simpa using hx) (by simpa using hy)⟩
  by_cases c:q u.born=true
  ·rw[List.find?_cons_of_pos (p:=fun e:MapEntry=>q e.born) c]at h
   obtain rfl:=uzA h
   exact⟨v,List.find?_cons_of_pos (p:=fun e:MapEntry=>q e.born) (by rw[<-h0.1];exact c),h0⟩
  ·rw[List.find?_cons_of_neg (p:=fun e:MapEntry=>q e.born) c]at h
   obtain⟨y,h1,h2⟩:=X5.find hr h
   exact⟨y,by rw[List.find?_cons_of_neg (p:=fun e:MapEntry=>q e.born) (by rw[<-h0.1];exact c)];exact h1,h2⟩
theorem d9B(e:Emb P S m h w)(ty:TypeId){x x' :Value}(hx:VR m x x'){l:List (Value×Heap)}(hl:a8i x h=some l):
  ∃r v' w1,r∈l/\(Instr.next x' false ty).run P w=.ok v' w1/\VR m r.1 v' /\Out P S m h w m r.2 w1:=by
 unfold a8i at hl
 split at hl
 case h_2=>simp at hl
 rename_i r sp
 obtain⟨b,o,L,heq,hb,rfl⟩:=hx.ptr_inv
 obtain⟨rfl,rfl,rfl⟩:=Addr.mk.inj heq
 split at hl
 case h_3=>simp at hl
 case h_1=>
  rename_i s1 s2 s3 ho
  have hob:=e.obj _ L hb
  rw[ho]at hob
  obtain⟨hblk,hsh⟩:=hob
  obtain rfl:=uzA hl
  have hgo:=run_getObj' (P:=P) hblk (by simp)
  have hz:L.sh+0=0:=by rw[hsh]
  refine⟨_,.tuple #[.bool false],w,List.mem_singleton_self _,?_,VR.tuple_of (VL.cons (.bool _) (VL.nil m)),Out.refl e⟩
  rw[hz]
  simp only[Instr.next,Sem.run_bind,hgo,Result.andThen_ok,Sem.run_pure]
 case h_2=>
  rename_i mm since seen last ho
  have hob:=e.obj _ L hb
  rw[ho]at hob
  obtain⟨K,hK,hblk,hsh⟩:=hob
  have hz:L.sh+0=0:=by rw[hsh]
  rw[hz]
  split at hl
  case h_2=>simp at hl
  rename_i es clock hom
  obtain⟨es',hmb,hE⟩:=Z7 e hK hom
  split at hl
  case isFalse=>simp at hl
  rename_i hc
  have hold:∀y∈es'.toList,y.born<since:=fun y hy=>by
   obtain⟨z,hz,hr⟩:=hE.left hy
   have:=List.all_eq_true.1 hc.1 z hz
   rw[<-hr.1]
   exact of_decide_eq_true this
  have mem:∀y∈(leftOf es' seen.toArray).toList,∃z,z∈a3a es seen/\b1u m z y:=fun y hy=>by
   unfold leftOf at hy
   rw[Array.toList_filter,List.mem_filter]at hy
   obtain⟨z,hz,hr⟩:=hE.left hy.1
   refine⟨z,List.mem_filter.2 ⟨hz,?_⟩,hr⟩
   rw[hr.1]
   simpa using hy.2
  have mem2:∀z∈a3a es seen,∃y,y∈(leftOf es' seen.toArray).toList:=fun z hz=>by
   unfold a3a at hz
   rw[List.mem_filter]at hz
   obtain⟨y,hy,hr⟩:=hE.right hz.1
   refine⟨y,?_⟩
   unfold leftOf
   rw[Array.toList_filter,List.mem_filter]
   refine⟨hy,?_⟩
   rw[<-hr.1]
   simpa using hz.2
  rcases run_next_at (P:=P) w ty L.blk K.blk since last seen.toArray es' clock hblk hmb hold hc.2 with⟨h0,hrun⟩| ⟨y,hy,w1,hw1,hrun⟩
  ·have he:a3a es seen=[]:=by
    cases hq:a3a es seen with
    |nil=>rfl
    |cons z t=>
     obtain⟨y,hy⟩:=mem2 z (by rw[hq];exact vyz)
     have:(leftOf es' seen.toArray).toList.length=0:=by simpa using h0
     rw[List.length_eq_zero_iff.1 this]at hy
     simp at hy
   rw[he]at hl
   obtain rfl:=uzA hl
   exact⟨_,_,w,List.mem_singleton_self _,hrun,VR.tuple_of (VL.cons (.bool _) (VL.nil m)),Out.refl e⟩
  ·obtain⟨z,hz,hr⟩:=mem y hy
   have hne:(a3a es seen).isEmpty=false:=by
    cases hq:a3a es seen with
    |nil=>rw[hq]at hz;simp at hz
    |cons a t=>rfl
   rw[hne]at hl
   obtain rfl:=uzA hl
   refine⟨_,_,_,List.mem_map.2 ⟨z,hz,rfl⟩,hrun,VR.tuple_of (VL.cons (.bool _) (VL.cons hr.2.1 (VL.cons hr.2.2 (VL.nil m)))),?_⟩
   have ob:∀w1:World,w1.heap[L.blk]? =some (.mapIter (some K.blk) since (seen.toArray.push y.born) clock)->a3q P m L w1 (.miter (some mm) since (seen++[z.born]) clock):=fun w1 h1=>⟨K,hK,by rw[h1,hr.1];simp,hsh⟩
   have wr:(h.obj r).wr=true:=by rw[ho];rfl
   rcases hw1 with rfl|rfl
   ·exact a0b e hb wr ob
   ·exact Out.ofDrew (a0b e.drew hb wr ob)
theorem c8H(e:Emb P S m h w){x x' v:Value}(hx:VR m x x')(hv:e4p x h=some v):∃v',(Instr.entry x').run P w=.ok v' w/\VR m v v' :=by
 unfold e4p at hv
 split at hv
 case h_2=>simp at hv
 rename_i r sp
 obtain⟨b,o,L,heq,hb,rfl⟩:=hx.ptr_inv
 obtain⟨rfl,rfl,rfl⟩:=Addr.mk.inj heq
 split at hv
 case h_2=>simp at hv
 rename_i mm since seen stepped ho
 have hob:=e.obj _ L hb
 rw[ho]at hob
 obtain⟨K,hK,hblk,hsh⟩:=hob
 have hz:L.sh+0=0:=by rw[hsh]
 rw[hz]
 split at hv
 case h_2=>simp at hv
 rename_i es clock hom
 obtain⟨es',hmb,hE⟩:=Z7 e hK hom
 split at hv
 case isFalse=>simp at hv
 rename_i hc
 subst hc
 split at hv
 case h_2=>simp at hv
 rename_i bb hlast
 rw[uzD]at hv
 obtain⟨z,hz2,rfl⟩:=hv
 obtain⟨y,hy,hr⟩:=X5.find (q:=fun n=>n==bb) hE hz2
 refine⟨.tuple #[y.key,y.val],?_,VR.tuple_of (VL.cons hr.2.1 (VL.cons hr.2.2 (VL.nil m)))⟩
 have hgo:=run_getObj' (P:=P) hblk (by simp)
 have hgm:=run_getObj' (P:=P) hmb (by simp)
 have hbk:seen.toArray.back? =some bb:=by rw[List.back?_toArray];exact hlast
 have hf:es'.find? (fun e=>e.born==bb)=some y:=by rw[<-Array.find?_toList];exact hy
 simp only[Instr.entry,Sem.run_bind,hgo,Result.andThen_ok,hbk,hgm,bne_self_eq_false,vgz,if_false,hf,Sem.run_pure]
end
def a5o(P:Program)(D:FuncId->Bool)(o:Oper):Option (FuncId×Array Operand):=
 match o.op,o.guard with
 | .call ⟨.value (.func f),args,_⟩,none=>if D f && !b1c P f then some (f,args)else none
 |_,_=>none
def e0t(P:Program)(D:FuncId->Bool)(p:Pers):List Oper->a7->a7->RD
 | [],e,_=> .done e
 |o::rest,e,l=>
  if a0H p o.dst && o.guard.isNone then
   match a5o P D o with
   |some (f,args)=> .dcall f (args.toList.map (D4 p e l)) fun v=>e0t P D p rest (M4 p e l o.dst v).1 (M4 p e l o.dst v).2
   |none=> .op (F0 P o (D4 p e l)) fun v=>e0t P D p rest (M4 p e l o.dst v).1 (M4 p e l o.dst v).2
  else .op .bad fun _=> .done e
def a3Z(P:Program)(D:FuncId->Bool)(p:Pers):Code->CD
 | .region id ops d=>
  if !d && ops.toList.any (fun o=>(a5o P D o).isSome)then .rd fun e=>e0t P D p ops.toList e (fun _=>unk)else
  match ops.toList,d with
  |o::rest,false=>
   match o.op,o.guard,a0H p o.dst with
   | .next x false,none,true=> .draw (fun e=>D4 p e (fun _=>unk) x) fun e v=>a0O P p ops rest (M4 p e (fun _=>unk) o.dst v).1 (M4 p e (fun _=>unk) o.dst v).2
   | .entry x,none,true=> .ent (fun e=>D4 p e (fun _=>unk) x) fun e v=>a0O P p ops rest (M4 p e (fun _=>unk) o.dst v).1 (M4 p e (fun _=>unk) o.dst v).2
   |_,_,_=> .lift (I8 P p (.region id ops d))
  |_,_=> .lift (I8 P p (.region id ops d))
 | .seq a b=> .seq (a3Z P D p a) (a3Z P D p b)
 | .cond c a b=> .cond (fun e=>D4 p e (fun _=>unk) c) (a3Z P D p a) (a3Z P D p b)
 | .block id b=> .block id (a3Z P D p b)
 | .loop b=> .loop (a3Z P D p b)
 |c=> .lift (I8 P p c)
def c7D(P:Program)(D:FuncId->Bool)(p:Pers)(f:Func):Option DFn:=
 match f.body,f.results.toList.mapM (a8T P)with
 |some c,some rs=>if Nat.ble p.size f.ntmps && (rs.all fun r=>p.has r.slot) && Nat.ble rs.length 3 && !(f.name== "runtime.NumGoroutine") && p.ds.isEmpty then some ⟨a3Z P D p c,rs⟩else none
 |_,_=>none
section
variable {P:Program}
theorem Out.free{S:Stay}{m m1:Map}{h h1:Heap}{w w1:World}(o:Out P S m h w m1 h1 w1)(hf:∀b,h.next<=b->m b=none):∀b,h1.next<=b->m1 b=none:=fun b hb=>by
 cases hm:m1 b with
 |none=>rfl
 |some L=>
  rcases o.dom b (by rw[hm];simp)with h2| ⟨h2,h3⟩
  ·exact absurd (hf b (uzR o.next hb)) h2
  ·omega
def c7F(P:Program)(DS:a2G):Prop:=∀f args h R,DS f args h R->(∃F,P.funcs[f]? =some F/\(F.name== "runtime.NumGoroutine")=false/\F.body.isNone=false)/\
 ∀(S:Stay) (m:Map) (w:World) (args' :Array Value),VL m args args'.toList->Emb P S m h w->(∀b,h.next<=b->m b=none)->K7 m->
  Calls P f args' w fun e w1=>∃v v' h1 m1,e=.returned v' /\R v h1/\VR m1 v v' /\Out P S m h w m1 h1 w1
theorem e4s{m:Map}{h:Heap}(hf:∀b,h.next<=b->m b=none)(n:Nat):K6 m h.next n:=fun b hb _=>hf b hb
theorem b2b{D:FuncId->Bool}{o:Oper}{f:FuncId}{args:Array Operand}(h:a5o P D o=some (f,args)):∃ts,o.op=.call ⟨.value (.func f),args,ts⟩/\o.guard=none:=by
 unfold a5o at h
 split at h
 ·rename_i f' args' ts hop hg
  split at h
  ·simp only[uzC,uzB]at h
   obtain⟨rfl,rfl⟩:=h
   exact⟨ts,hop,hg⟩
  ·simp at h
 ·simp at h
theorem b7b{S:Stay}{CP:CProg}{DS:a2G}(hP:a5D P CP)(hDS:c7F P DS){D:FuncId->Bool}(p:Pers)(all:Array Oper){Q:Exit->Act->World->Prop}{QD:B5}:∀(ops:List Oper) (m:Map) (e l:a7) (h:Heap) (a:Act) (w:World),
  Q6 CP DS (e0t P D p ops e l) h QD->Slots p m e l a->Emb P S m h w->(∀b,h.next<=b->m b=none)->
  (∀e1 h1 a1 w1 m1 l1,QD .normal e1 h1->Slots p m1 e1 l1 a1->Out P S m h w m1 h1 w1->Q .normal a1 w1)->wpListIn (FZ none) 0 P all Q ops a w
 | [],m,e,l,h,a,w,hr,hs,hE,hf,hQ=>by
  unfold wpListIn
  exact hQ e h a w m l hr hs (Out.refl hE)
 |o::rest,m,e,l,h,a,w,hr,hs,hE,hf,hQ=>by
  simp only[e0t]at hr
  split at hr
  case isFalse=>
   obtain⟨n,v,h1,hc,_⟩:=hr
   simp[I0,C7]at hc
  rename_i hok
  simp only[vjz,Option.isNone_iff_eq_none]at hok
  obtain⟨hd,hg⟩:=hok
  unfold wpListIn
  rw[if_pos (by simp[Region.wanted,hg])]
  split at hr
  ·rename_i f args hdc
   obtain⟨ts,hop,_⟩:=b2b hdc
   obtain⟨⟨F,hF,hname,hbody⟩,hruns⟩:=hDS _ _ _ _ hr
   have hal:VL m (args.toList.map (D4 p e l)) (args.map a.eval).toList:=by simpa using T7 hs.eval args.toList
   have hcf:(callFunc f (args.map a.eval)).run P w=.ok (.enter f (args.map a.eval)) w:=by
    simp only[callFunc,Sem.run_bind,run_program,Result.andThen_ok,hF,hname,hbody,vgz,if_false,Sem.run_pure]
   have hrun:(execOp a.eval o).run P w=(callFunc f (args.map a.eval)).run P w:=by
    have hfv:a.eval (.func f)=.func (.func f) #[] #[]:=rfl
    unfold execOp
    rw[hop]
    simp only[resolve,hfv,Deferred.ofValue,Sem.run_bind,Sem.run_pure,Result.andThen_ok]
    simp[invoke]
   have nd:∀c,o.op≠.defer c:=by intro c hq;rw[hop]at hq;cases hq
   unfold Oper.wpIn
   rw[Oper.semAt_eq _ _ _ nd,hrun,hcf,Oper.uponIn_enter]
   refine⟨fun _ _=>trivial,a5A none,a7C ((hruns S m w _ hal hE hf hs.glob).mono fun en w1 hp=>?_)⟩
   obtain⟨v,v',h1,m1,rfl,hR,hv,ho⟩:=hp
   exact b7b hP hDS p all rest m1 _ _ h1 _ w1 hR ((hs.ext ho.ext).put hd hv) ho.emb (ho.free hf) fun e2 h2 a2 w2 m2 l2 hq2 hs2 ho2=>hQ e2 h2 a2 w2 m2 l2 hq2 hs2 (ho.trans ho2)
  ·obtain⟨n,v,h1,hc,hR⟩:=hr
   refine b1d (a2S hP n) (by exact trivial) none 0 hE o a hs.eval hc (e4s hf _) hs.glob fun v' w1 m1 hv ho=>?_
   exact b7b hP hDS p all rest m1 _ _ h1 _ w1 hR ((hs.ext ho.ext).put hd hv) ho.emb (ho.free hf) fun e2 h2 a2 w2 m2 l2 hq2 hs2 ho2=>hQ e2 h2 a2 w2 m2 l2 hq2 hs2 (ho.trans ho2)
theorem c8y{S:Stay}{CP:CProg}{DS:a2G}(hP:a5D P CP)(hDS:c7F P DS){D:FuncId->Bool}(p:Pers)(c:Code):∀{QD:B5} {Q:Exit->Act->World->Prop} {m:Map} {e:a7} {h:Heap} {a:Act} {w:World},
  evD CP DS (a3Z P D p c) e h QD->Slots p m e (fun _=>unk) a->Emb P S m h w->(∀b,h.next<=b->m b=none)->
  (∀x e1 h1 a1 w1 m1,QD x e1 h1->Slots p m1 e1 (fun _=>unk) a1->Out P S m h w m1 h1 w1->Q (a2t x) a1 w1)->c.wpIn (FZ none) 0 P Q a w:=by
 have lifted:∀(c:Code) {QD:B5} {Q:Exit->Act->World->Prop} {m:Map} {e:a7} {h:Heap} {a:Act} {w:World},
   evD CP DS (.lift (I8 P p c)) e h QD->Slots p m e (fun _=>unk) a->Emb P S m h w->(∀b,h.next<=b->m b=none)->
   (∀x e1 h1 a1 w1 m1,QD x e1 h1->Slots p m1 e1 (fun _=>unk) a1->Out P S m h w m1 h1 w1->Q (a2t x) a1 w1)->c.wpIn (FZ none) 0 P Q a w:=by
  intro c QD Q m e h a w hr hs hE hf hQ
  obtain⟨N,x,e1,h1,he,hq⟩:=hr
  exact O6 (a2S hP N) (by exact trivial) (d8C CP N) none 0 N p c he hs hE (fun b hb _=>hf b hb) fun a1 w1 m1 hs1 ho=>hQ x e1 h1 a1 w1 m1 hq hs1 ho
 induction c with
 |region id ops d=>
  intro QD Q m e h a w hr hs hE hf hQ
  have first:∀(o:Oper) (rest:List Oper),ops.toList=o::rest->d=false->o.guard=none->a0H p o.dst=true->∀(v v' :Value) (h2:Heap) (w1:World),(∀c,o.op≠.defer c)->(execOp a.eval o).run P w=.ok (.value v') w1->VR m v v' ->Out P S m h w m h2 w1->
    H1 CP (a0O P p ops rest (M4 p e (fun _=>unk) o.dst v).1 (M4 p e (fun _=>unk) o.dst v).2) h2 QD->(Code.region id ops d).wpIn (FZ none) 0 P Q a w:=by
   intro o rest hl hd hg hdst v v' h2 w1 hnd hrun hv ho hrr
   subst hd
   obtain⟨N,e1,h1,he,hq⟩:=hrr
   refine wpIn_region_list ?_
   rw[hl]
   unfold wpListIn
   rw[if_pos (by simp[Region.wanted,hg])]
   unfold Oper.wpIn
   rw[Oper.semAt_eq _ _ _ hnd,hrun]
   refine⟨fun _ _=>trivial,?_⟩
   have hf2:=ho.free hf
   exact a5t (a2S hP N) (by exact trivial) none 0 p ops rest m _ _ h2 _ w1 he (hs.put hdst hv) ho.emb (fun b hb _=>hf2 b hb) fun a1 w2 m1 l1 hs1 ho1=>hQ .normal e1 h1 a1 w2 m1 hq hs1.drop (ho.trans ho1)
  simp only[a3Z]at hr
  split at hr
  ·rename_i hany
   simp only[vjz,Bool.not_eq_true']at hany
   obtain⟨hd,_⟩:=hany
   subst hd
   refine wpIn_region_list ?_
   exact b7b hP hDS p ops ops.toList m e _ h a w hr hs hE hf fun e1 h1 a1 w1 m1 l1 hq hs1 ho=>hQ .normal e1 h1 a1 w1 m1 hq hs1.drop ho
  rename_i hneg
  clear hneg
  split at hr
  ·rename_i o rest hl
   split at hr
   ·rename_i x hop hg hdst
    obtain⟨l,hl2,hall⟩:=hr
    obtain⟨r,v',w1,hmem,hrun,hv,ho⟩:=d9B hE o.type (hs.eval x) hl2
    refine first o rest hl rfl hg hdst r.1 v' r.2 w1 (by intro c hq;rw[hop]at hq;cases hq) ?_ hv ho (hall r hmem)
    unfold execOp
    rw[hop]
    simp only[Sem.run_bind,hrun,Result.andThen_ok,Sem.run_pure]
   ·rename_i x hop hg hdst
    obtain⟨v,hv2,hall⟩:=hr
    obtain⟨v',hrun,hv⟩:=c8H hE (hs.eval x) hv2
    refine first o rest hl rfl hg hdst v v' h w (by intro c hq;rw[hop]at hq;cases hq) ?_ hv (Out.refl hE) hall
    unfold execOp
    rw[hop]
    simp only[Sem.run_bind,hrun,Result.andThen_ok,Sem.run_pure]
   ·exact lifted _ hr hs hE hf hQ
  ·exact lifted _ hr hs hE hf hQ
 |seq a b iha ihb=>
  intro QD Q m e h ac w hr hs hE hf hQ
  simp only[a3Z,evD]at hr
  refine wpIn_seq (iha hr hs hE hf fun x e1 h1 a1 w1 m1 hq hs1 ho=>?_)
  cases x with
  |normal=>exact ihb hq hs1 ho.emb (ho.free hf) fun x e2 h2 a2 w2 m2 hq2 hs2 ho2=>hQ x e2 h2 a2 w2 m2 hq2 hs2 (ho.trans ho2)
  |exit i=>exact hQ _ _ _ _ _ _ hq hs1 ho
  |ret=>exact hQ _ _ _ _ _ _ hq hs1 ho
 |cond c a b iha ihb=>
  intro QD Q m e h ac w hr hs hE hf hQ
  simp only[a3Z,evD]at hr
  have hv:=hs.eval c
  split at hr
  ·rename_i hc
   rw[hc]at hv
   exact wpIn_cond_true hv.bool_inv (iha hr hs hE hf hQ)
  ·rename_i hc
   rw[hc]at hv
   exact wpIn_cond_false hv.bool_inv (ihb hr hs hE hf hQ)
  ·exact hr.elim
 |block id b ih=>
  intro QD Q m e h a w hr hs hE hf hQ
  simp only[a3Z,evD]at hr
  refine wpIn_block (ih hr hs hE hf fun x e1 h1 a1 w1 m1 hq hs1 ho=>?_)
  cases x with
  |normal=>exact hQ _ _ _ _ _ _ hq hs1 ho
  |exit i=>
   show(if i=id then Q .normal a1 w1 else Q (.exit i) a1 w1)
   have hq:if i=id then QD .normal e1 h1 else QD (.exit i) e1 h1:=hq
   by_cases hi:i=id
   ·rw[if_pos hi]at hq ⊢;exact hQ _ _ _ _ _ _ hq hs1 ho
   ·rw[if_neg hi]at hq ⊢;exact hQ _ _ _ _ _ _ hq hs1 ho
  |ret=>exact hQ _ _ _ _ _ _ hq hs1 ho
 |loop b ih=>
  intro QD Q m e h a w hr hs hE hf hQ
  simp only[a3Z,evD]at hr
  obtain⟨I,d,hI,hstep⟩:=hr
  refine U8.loop ?_
  have key:∀(n d:Nat),d<n->∀{m:Map} {e:a7} {h:Heap} {a:Act} {w:World},I d e h->Slots p m e (fun _=>unk) a->Emb P S m h w->(∀b,h.next<=b->m b=none)->
    (∀x e1 h1 a1 w1 m1,QD x e1 h1->Slots p m1 e1 (fun _=>unk) a1->Out P S m h w m1 h1 w1->Q (a2t x) a1 w1)->U8 none 0 P b Q a w:=by
   intro n
   induction n with
   |zero=>intro d hd;omega
   |succ n ihn=>
    intro d hd m e h a w hI hs hE hf hQ
    refine U8.round (ih (hstep d e h hI) hs hE hf fun x e1 h1 a1 w1 m1 hq hs1 ho=>?_)
    cases x with
    |normal=>
     obtain⟨d',hd',hI'⟩:=hq
     exact ihn d' (by omega) hI' hs1 ho.emb (ho.free hf) fun x e2 h2 a2 w2 m2 hq2 hs2 ho2=>hQ x e2 h2 a2 w2 m2 hq2 hs2 (ho.trans ho2)
    |exit i=>exact hQ _ _ _ _ _ _ hq hs1 ho
    |ret=>exact hQ _ _ _ _ _ _ hq hs1 ho
  exact key (d+1) d (vpz _) hI hs hE hf hQ
 |_=>intro QD Q m e h a w hr hs hE hf hQ;exact lifted _ hr hs hE hf hQ
end
def b7u(CP:CProg)(DS:a2G)(fn:DFn)(args:List Value)(h:Heap)(Q:Value->Heap->Prop):Prop:=evD CP DS fn.body (T6 args) h (a1t fn.results Q)
theorem b4m{P:Program}{CP:CProg}{DS:a2G}(hP:a5D P CP)(hDS:c7F P DS){D:FuncId->Bool}{f:FuncId}{F:Func}(hF:P.funcs[f]? =some F){p:Pers}{fn:DFn}(hfn:c7D P D p F=some fn){args:List Value}{h:Heap}{R:Value->Heap->Prop}(hc:b7u CP DS fn args h R){S:Stay}{m:Map}{w:World}{args' :Array Value}(hargs:VL m args args'.toList)(hE:Emb P S m h w)(hf:∀b,h.next<=b->m b=none)(hgl:K7 m:=by intro g hg;exact absurd hg (by simp[GLN])):
  Calls P f args' w fun e w1=>∃v v' h1 m1,e=.returned v' /\R v h1/\VR m1 v v' /\Out P S m h w m1 h1 w1:=by
 unfold c7D at hfn
 split at hfn
 case h_2=>simp at hfn
 rename_i c rs hb hrs
 split at hfn
 case isFalse=>simp at hfn
 rename_i hok
 simp only[vjz,Bool.not_eq_true',Nat.ble_eq]at hok
 obtain⟨⟨⟨⟨hsz,hhas⟩,h3⟩,hname⟩,hds⟩:=hok
 have hpds:p.ds=[]:=by simpa using hds
 obtain rfl:=uzA hfn
 refine calls_of_wp hF hb ((wpIn_wide (n:=0)).1 (c8y hP hDS p c hc ⟨fun t=>?_,?_,hpds.symm,hgl⟩ hE hf fun x e1 h1 a1 w1 m1 hq hs1 ho=>?_))
 ·unfold Y4
  split
  ·simp only[T6,vcz,Array.getD_eq_getD_getElem?]
   by_cases ht:t<args'.size
   ·have ht2:t<args.length:=by have:=hargs.1;simp only[Array.length_toList]at this;omega
    rw[Array.getElem?_append_left ht,Array.getElem?_eq_getElem ht,uzF ht2]
    simp only[vFz]
    exact hargs.2 t _ _ (uzF ht2) (by simp[ht])
   ·have ht2:args.length<=t:=by have:=hargs.1;simp only[Array.length_toList]at this;omega
    have hu:((args' ++Array.replicate (F.ntmps-args'.size) undef)[t]?).getD undef=undef:=by
     rw[Array.getElem?_append_right (vGz ht),Array.getElem?_replicate]
     split<;>rfl
    rw[hu,vmz ht2]
    exact .tuple _ _ rfl (fun i x y hx=>by simp at hx)
  ·exact .unk _
 ·simp only[Array.size_append,Array.size_replicate];omega
 ·have hd:a1.defers=[]:=by rw[hs1.defers,hpds]
  have fin:a4R (G3 e1 h1 rs) h1 R->∃v',(results F a1.tmps).run P w1=.ok v' w1/\∃v'' v h1' m1',Ending.returned v' =.returned v'' /\R v h1' /\VR m1' v v'' /\Out P S m h w m1' h1' w1:=by
   intro hq
   unfold a4R at hq
   split at hq
   ·rename_i v hres
    obtain⟨v',hrun,hv⟩:=Z9 ho.emb hrs h3 hhas hs1 hres
    exact⟨v',hrun,v',v,h1,m1,rfl,hq,hv,ho⟩
   ·exact hq.elim
  cases x with
  |normal=>
   obtain⟨v',hrun,v'',v,h1',m1',he,hR,hv,ho'⟩:=fin hq
   exact⟨hd,v',hrun,v,v'',h1',m1',he,hR,hv,ho'⟩
  |ret=>
   obtain⟨v',hrun,v'',v,h1',m1',he,hR,hv,ho'⟩:=fin hq
   exact⟨hd,v',hrun,v,v'',h1',m1',he,hR,hv,ho'⟩
  |exit i=>exact hq.elim
section
variable (CP:CProg) (DS:a2G)
def c9w(b:CD)(Q:B5):B5
 | .normal,e,h=>evD CP DS b e h Q
 |x,e,h=>Q x e h
def b0I(v:Value)(a b:CD)(e:a7)(h:Heap)(Q:B5):Prop:=
 match v with
 | .bool true=>evD CP DS a e h Q
 | .bool false=>evD CP DS b e h Q
 |_=>False
variable {CP:CProg} {DS:a2G}
theorem C0(c:CC)(e:a7)(h:Heap)(Q:B5):evD CP DS (.lift c) e h Q↔I1 CP c e h Q:=Iff.rfl
theorem D0(a b:CD)(e:a7)(h:Heap)(Q:B5):evD CP DS (.seq a b) e h Q↔evD CP DS a e h (c9w CP DS b Q):=by
 have:(fun(x:X) (e1:a7) (h1:Heap)=>match x with
  | .normal=>evD CP DS b e1 h1 Q
  |x=>Q x e1 h1)=c9w CP DS b Q:=by
  funext x e1 h1
  cases x<;>rfl
 simp only[evD,this]
theorem B7(c:a7->Value)(a b:CD)(e:a7)(h:Heap)(Q:B5):evD CP DS (.cond c a b) e h Q↔b0I CP DS (c e) a b e h Q:=by
 unfold b0I
 simp only[evD]
theorem A8(id:Nat)(b:CD)(e:a7)(h:Heap)(Q:B5):evD CP DS (.block id b) e h Q↔evD CP DS b e h (a0f id Q):=Iff.rfl
theorem y9(b:CD)(Q:B5)(e:a7)(h:Heap):c9w CP DS b Q .normal e h↔evD CP DS b e h Q:=Iff.rfl
theorem C3(b:CD)(Q:B5)(e:a7)(h:Heap):c9w CP DS b Q .ret e h↔Q .ret e h:=Iff.rfl
theorem B2(b:CD)(Q:B5)(i:Nat)(e:a7)(h:Heap):c9w CP DS b Q (.exit i) e h↔Q (.exit i) e h:=Iff.rfl
theorem A3(a b:CD)(e:a7)(h:Heap)(Q:B5):b0I CP DS (.bool true) a b e h Q↔evD CP DS a e h Q:=Iff.rfl
theorem y7(a b:CD)(e:a7)(h:Heap)(Q:B5):b0I CP DS (.bool false) a b e h Q↔evD CP DS b e h Q:=Iff.rfl
theorem a7M(b:CD)(Q:B5)(I:Nat->a7->Heap->Prop)(step:∀d e h,I d e h->evD CP DS b e h (a8d (fun e h=>∃d',d' <d/\I d' e h) Q))(d:Nat)(e:a7)(h:Heap)(h0:I d e h):evD CP DS (.loop b) e h Q:=
 ⟨I,d,h0,step⟩
theorem E0(r:a7->RD)(e:a7)(h:Heap)(Q:B5):evD CP DS (.rd r) e h Q↔Q6 CP DS (r e) h Q:=Iff.rfl
theorem rod{f g:a7->RD}(q:∀e,f e=g e)(CP:CProg)(DS:a2G)(e:a7)(h:Heap)(Q:B5):Q6 CP DS (f e) h Q↔Q6 CP DS (g e) h Q:=by rw[q]
theorem C1(v:Value)(k:Value->RD)(h:Heap)(Q:B5):Q6 CP DS (.op (.mv v) k) h Q↔Q6 CP DS (k v) h Q:=by
 constructor
 ·rintro⟨n,v1,h1,hc,hr⟩
  simp only[I0,C7,uzC,uzB]at hc
  obtain⟨rfl,rfl⟩:=hc
  exact hr
 ·intro hr
  exact⟨0,v,h,rfl,hr⟩
def b1A(CP:CProg)(DS:a2G)(x:Option (Value×Heap))(k:Value->RD)(Q:B5):Prop:=match x with
 |some (v,h)=>Q6 CP DS (k v) h Q
 |none=>False
theorem y5(v:Value)(h:Heap)(k:Value->RD)(Q:B5):b1A CP DS (some (v,h)) k Q↔Q6 CP DS (k v) h Q:=Iff.rfl
theorem C2(op:UnOp)(x:Value)(k:Value->RD)(h:Heap)(Q:B5):Q6 CP DS (.op (.un op x) k) h Q↔b1A CP DS (C7 (.un op x) h) k Q:=by
 show(∃n v h1,I0 (Q3 CP n) (.un op x) h=some (v,h1)/\Q6 CP DS (k v) h1 Q)↔_
 have e:∀n,I0 (Q3 CP n) (.un op x) h=C7 (.un op x) h:=fun n=>rfl
 simp only[e]
 unfold b1A
 cases hc:C7 (.un op x) h with
 |none=>simp
 |some r=>
  obtain⟨v,h1⟩:=r
  simp only[uzC,uzB]
  exact⟨fun⟨_,v',h',⟨a,b⟩,q⟩=>by subst a b;exact q,fun q=>⟨0,v,h1,⟨rfl,rfl⟩,q⟩⟩
theorem A4(e:a7)(h:Heap)(Q:B5):Q6 CP DS (.done e) h Q↔Q .normal e h:=Iff.rfl
theorem y8(f:FuncId)(args:List Value)(k:Value->RD)(h:Heap)(Q:B5):Q6 CP DS (.dcall f args k) h Q↔DS f args h fun v h1=>Q6 CP DS (k v) h1 Q:=Iff.rfl
theorem c8I{c c' :CD}(e:a7)(h:Heap)(Q:B5)(q:c=c'):evD CP DS c e h Q=evD CP DS c' e h Q:=by rw[q]
theorem b4s{v v' :Value}(a b:CD)(e:a7)(h:Heap)(Q:B5)(q:v=v'):b0I CP DS v a b e h Q=b0I CP DS v' a b e h Q:=by rw[q]
theorem b5n{r r' :RD}(h:Heap)(Q:B5)(q:r=r'):Q6 CP DS r h Q=Q6 CP DS r' h Q:=by rw[q]
end
open Reg renaming op->xA,opg->xB,done->xC,snap->xD,chk->xE
open COp renaming load->wA,mv->wB,fieldAddr->wC,call->wD,bin->wE,store->wF,extract->wG,alloc->wH,indexSl->wI,nilCheck->wJ,pick->wK,lenSl->wL,build->wM,box->wN,conv->wO,un->wP
section
variable (e:a7)
def f1w:FuncId->Bool:=fun f=>Nat.beq f 11
def e2y:Reg:=xA (wB (.bool false)) fun a=>xC (e.upd 6 a)
def e2z(e:a7):RD:=
 .dcall 11 [] fun t25=>
 .op (.un .not t25) fun t26=>
 .done (e.upd 26 t26)
def e2A:Reg:=xA (wB (.bool false)) fun a=>xC (e.upd 6 a)
def e2B:Reg:=xA (wB (e 1)) fun a=>xA (wL a) fun b=>xA (wE .gtr b (.int .i64 50)) fun c=>xA (wB c) fun d=>xB d false (wB (e 2)) fun f=>xB d false (wD 12 [f]) fun g=>xB d false (wP .not g) fun i=>xA (wK d (.bool true) i) fun j=>xC (e.upd 34 j)
def e2C:Reg:=xA (wB (.bool true)) fun a=>xC (e.upd 6 a)
def e2D:Reg:=xA (wB (e 0)) fun a=>xA (wD 13 [a,.int .i64 0]) fun b=>xA (wH 30 [.int .i64 0,.int .i64 0,.int .i64 0,.slice none 0 0]) fun c=>xA (wF 4 c b) fun _=>xC (e.upd 7 c)
def e2E:Reg:=xA (wA (some 4) (e 7)) fun a=>xA (wB (e 1)) fun b=>xA (wD 14 [a,b]) fun c=>xA (wB c) fun d=>xA (wG d 0) fun f=>xA (wG d 1) fun g=>xA (wB f) fun i=>xA (wB g) fun j=>xC ((e.upd 8 i).upd 9 j)
def e2F:Reg:=xA (wA (some 4) (e 7)) fun a=>xA (wB (e 1)) fun b=>xA (wD 14 [a,b]) fun c=>xA (wB c) fun d=>xA (wG d 0) fun f=>xA (wG d 1) fun g=>xA (wB f) fun i=>xA (wB g) fun j=>xC ((e.upd 10 i).upd 11 j)
def e2G:Reg:=xA (wB (e 8)) fun a=>xA (wB (e 10)) fun b=>xA (.buildSlice 35 2 [.pointer none] [(0,1,a),(1,1,b)]) fun c=>xA (wL c) fun d=>xA (wB (.int .i64 0)) fun f=>xC (((e.upd 51 c).upd 52 d).upd 53 f)
def e2H:Reg:=xA (wE .lss (e 53) (e 52)) fun a=>xC (e.upd 54 a)
def d8D:Reg:=xA (wI 1 (e 51) (e 53)) fun a=>xA (wA none a) fun b=>xA (wB b) fun c=>xC (e.upd 13 c)
def d8E:Reg:=xA (wB (e 13)) fun a=>xA (wM [.int .i64 0,.int .i64 0,.int .i64 0,.slice none 0 0,.int .i64 0,.slice none 0 0] [(0,1,(.int .i64 0))]) fun b=>xA (wD 15 [a,b]) fun c=>xC e
def d8F:Reg:=xA (wB (e 13)) fun a=>xA (wM [.int .i64 0,.int .i64 0,.int .i64 0,.slice none 0 0,.int .i64 0,.slice none 0 0] [(0,1,(.int .i64 0)),(2,1,(.int .i64 1))]) fun b=>xA (wD 15 [a,b]) fun c=>xC e
def d8G:Reg:=xA (wE .add (e 53) (.int .i64 1)) fun a=>xA (wB a) fun b=>xC (e.upd 53 b)
def b4z:CD:=(.seq (.lift (.region e2H)) (.seq (.cond (fun e=>e 54) (.lift .skip) (.lift (.exit 0))) (.seq (.block 1 (.seq (.lift (.region d8D)) (.seq (.lift (.region d8E)) (.lift (.region d8F))))) (.lift (.region d8G)))))
def d8H:Reg:=xA (wB (.int .i64 0)) fun a=>xC (e.upd 14 a)
def d8I:Reg:=xA (wB (e 2)) fun a=>xA (wL a) fun b=>xA (wB (.int .i64 0)) fun c=>xC (((e.upd 64 a).upd 65 b).upd 66 c)
def d8J:Reg:=xA (wE .lss (e 66) (e 65)) fun a=>xC (e.upd 67 a)
def d8K:Reg:=xA (wB (e 66)) fun a=>xA (wI 4 (e 64) (e 66)) fun b=>xA (wA (some 4) b) fun c=>xA (wH 48 [.int .i64 0,.int .i64 0,.string ⟨#[]⟩,.bool false]) fun d=>xA (wB a) fun f=>xA (wF 4 d c) fun _=>xC ((e.upd 16 d).upd 15 f)
def d8L:Reg:=xA (wB (e 14)) fun a=>xA (wC 0 (e 16)) fun b=>xA (wA none b) fun c=>xA (wD 16 [c]) fun d=>xA (wE .add a d) fun f=>xA (wB f) fun g=>xC (e.upd 14 g)
def d8M:Reg:=xA (wB (e 15)) fun a=>xA (wC 3 (e 7)) fun b=>xA (wA none b) fun c=>xA (wL c) fun d=>xA (wE .rem a d) fun f=>xA (wB f) fun g=>xC (e.upd 17 g)
def d8N:Reg:=xA (wB (e 17)) fun a=>xA (wC 1 (e 16)) fun b=>xA (wA none b) fun c=>xA (wE .and c (.int .i64 63)) fun d=>xA (wO .u32 d) fun f=>xA (wC 2 (e 16)) fun g=>xA (wA none g) fun i=>xA (wM [.int .i64 0,.int .i64 0,.int .u32 0,.string ⟨#[]⟩,.int .i64 0] [(0,1,(.int .i64 1)),(1,1,a),(2,1,f),(3,1,i)]) fun j=>xA (wD 20 [j]) fun k=>xA (wB k) fun m=>xC (e.upd 18 m)
def d8O:Reg:=xA (wB (.int .i64 2)) fun a=>xC (e.upd 19 a)
def b1X:Reg:=xA (wB (e 19)) fun a=>xA (wE .leq a (.int .i64 4)) fun b=>xC (e.upd 91 b)
def b1Z:Reg:=xA (wB (e 19)) fun a=>xA (wB (e 17)) fun b=>xA (wM [.int .i64 0,.int .i64 0,.int .u32 0,.string ⟨#[]⟩,.int .i64 0] [(0,1,a),(1,1,b)]) fun c=>xA (wH 61 [.int .i64 0,.int .i64 0,.int .u32 0,.string ⟨#[]⟩,.int .i64 0]) fun d=>xA (wF 5 d c) fun _=>xC (e.upd 20 d)
def b2a:Reg:=xA (wB (e 19)) fun a=>xA (wE .eql a (.int .i64 2)) fun b=>xC (e.upd 98 b)
def b6v:Reg:=xA (wC 2 (e 16)) fun a=>xA (wA none a) fun b=>xA (wC 2 (e 20)) fun c=>xD fun h3=>xA (wF 1 c (.int .u32 1)) fun _=>xE none none (wA none a) b<|xA (wC 3 (e 20)) fun d=>xD fun h5=>xA (wF 1 d b) fun _=>xC e
def b6w:Reg:=xA (wB (e 10)) fun a=>xA (wB (e 14)) fun b=>xA (wA (some 5) (e 20)) fun c=>xA (wD 20 [c]) fun d=>xA (wM [.int .i64 0,.int .i64 0,.int .i64 0,.slice none 0 0,.int .i64 0,.slice none 0 0] [(0,1,(.int .i64 2)),(2,1,(.int .i64 1)),(1,1,b),(3,1,d)]) fun f=>xA (wD 15 [a,f]) fun g=>xC e
def b6x:Reg:=xA (wB (e 10)) fun a=>xA (wB (e 14)) fun b=>xA (wM [.int .i64 0,.int .i64 0,.int .i64 0,.slice none 0 0,.int .i64 0,.slice none 0 0] [(0,1,(.int .i64 3)),(2,1,(.int .i64 1)),(1,1,b),(4,1,(.int .i64 65536))]) fun c=>xA (wD 15 [a,c]) fun d=>xC e
def b1Y:Reg:=xA (wB (e 19)) fun a=>xA (wE .add a (.int .i64 1)) fun b=>xA (wB b) fun c=>xC (e.upd 19 c)
def b4A:CD:=(.seq (.seq (.lift (.region b1X)) (.cond (fun e=>e 91) (.lift .skip) (.lift (.exit 4)))) (.seq (.block 5 (.seq (.lift (.region b1Z)) (.seq (.seq (.lift (.region b2a)) (.cond (fun e=>e 98) (.lift (.region b6v)) (.lift .skip))) (.seq (.lift (.region b6w)) (.lift (.region b6x)))))) (.lift (.region b1Y))))
def b0L(a b c d:Value):Reg:=xA (wM [.int .i64 0,.int .i64 0,.int .i64 0,.slice none 0 0,.int .i64 0,.slice none 0 0] [(0,1,(.int .i64 2)),(1,1,c),(3,1,d)]) fun f=>xA (wD 15 [b,f]) fun g=>xA (wH 42 [.int .i64 0,.int .i64 0,.slice none 0 0,.slice none 0 0]) fun i=>xA (wH 42 [.int .i64 0,.int .i64 0,.slice none 0 0,.slice none 0 0]) fun j=>xA (wF 4 i a) fun _=>xA (wF 4 j g) fun _=>xC ((e.upd 21 i).upd 22 j)
def d8P:Reg:=xA (wB (e 8)) fun a=>xA (wB (e 14)) fun b=>xA (wB (e 18)) fun c=>xA (wM [.int .i64 0,.int .i64 0,.int .i64 0,.slice none 0 0,.int .i64 0,.slice none 0 0] [(0,1,(.int .i64 2)),(1,1,b),(3,1,c)]) fun d=>xA (wD 15 [a,d]) fun f=>xA (wB (e 10)) fun g=>xA (wB (e 14)) fun i=>xA (wB (e 18)) fun j=>b0L e f g i j
def b0M(a b:Value):Reg:=xA (wH 42 [.int .i64 0,.int .i64 0,.slice none 0 0,.slice none 0 0]) fun c=>xA (wH 42 [.int .i64 0,.int .i64 0,.slice none 0 0,.slice none 0 0]) fun d=>xA (wF 4 c a) fun _=>xA (wF 4 d b) fun _=>xC ((e.upd 23 c).upd 24 d)
def d8Q:Reg:=xA (wB (e 8)) fun a=>xA (wB (e 14)) fun b=>xA (wM [.int .i64 0,.int .i64 0,.int .i64 0,.slice none 0 0,.int .i64 0,.slice none 0 0] [(0,1,(.int .i64 3)),(1,1,b),(4,1,(.int .i64 99))]) fun c=>xA (wD 15 [a,c]) fun d=>xA (wB (e 10)) fun f=>xA (wB (e 14)) fun g=>xA (wM [.int .i64 0,.int .i64 0,.int .i64 0,.slice none 0 0,.int .i64 0,.slice none 0 0] [(0,1,(.int .i64 3)),(1,1,g),(4,1,(.int .i64 99))]) fun i=>xA (wD 15 [f,i]) fun j=>b0M e d j
def d8R:Reg:=xA (wA (some 4) (e 21)) fun a=>xA (wA (some 4) (e 22)) fun b=>xA (wD 25 [a,b]) fun c=>xA (wP .not c) fun d=>xA (wB d) fun f=>xB f false (wA (some 4) (e 23)) fun g=>xB f false (wA (some 4) (e 24)) fun i=>xB f false (wD 25 [g,i]) fun j=>xB f false (wP .not j) fun k=>xA (wK f (.bool true) k) fun m=>xC (e.upd 140 m)
def d8S:Reg:=xA (wB (.bool false)) fun a=>xC (e.upd 6 a)
def d8T:Reg:=xA (wE .add (e 66) (.int .i64 1)) fun a=>xA (wB a) fun b=>xC (e.upd 66 b)
def c6V:CD:=(.seq (.lift (.region d8J)) (.seq (.cond (fun e=>e 67) (.lift .skip) (.lift (.exit 2))) (.seq (.block 3 (.seq (.lift (.region d8K)) (.seq (.lift (.region d8L)) (.seq (.lift (.region d8M)) (.seq (.lift (.region d8N)) (.seq (.seq (.lift (.region d8O)) (.block 4 (.loop b4A))) (.seq (.lift (.region d8P)) (.seq (.lift (.region d8Q)) (.seq (.lift (.region d8R)) (.cond (fun e=>e 140) (.seq (.lift (.region d8S)) (.lift .ret)) (.lift .skip))))))))))) (.lift (.region d8T)))))
def d8U:Reg:=xA (wB (.bool true)) fun a=>xC (e.upd 6 a)
def RD6:=an (ro e2y.eq_1)<|an (rod e2z.eq_1)<|an (ro e2A.eq_1)<|an (ro e2B.eq_1)<|an (ro e2C.eq_1)<|an (ro e2D.eq_1)<|an (ro e2E.eq_1)<|an (ro e2F.eq_1)<|an (ro e2G.eq_1)<|an (ro e2H.eq_1)<|an (ro d8D.eq_1)<|an (ro d8E.eq_1)<|an (ro d8F.eq_1)<|an (ro d8G.eq_1)<|an (ro d8H.eq_1)<|an (ro d8I.eq_1)<|an (ro d8J.eq_1)<|an (ro d8K.eq_1)<|an (ro d8L.eq_1)<|an (ro d8M.eq_1)<|an (ro d8N.eq_1)<|an (ro d8O.eq_1)<|an (ro b1X.eq_1)<|an (ro b1Z.eq_1)<|an (ro b2a.eq_1)<|an (ro b6v.eq_1)<|an (ro b6w.eq_1)<|an (ro b6x.eq_1)<|an (ro b1Y.eq_1)<|an (ro4 b0L.eq_1)<|an (ro d8P.eq_1)<|an (O5 b0M.eq_1)<|an (ro d8Q.eq_1)<|an (ro d8R.eq_1)<|an (ro d8S.eq_1)<|an (ro d8T.eq_1)<|ro d8U.eq_1
def d6:DFn:=⟨(.seq (.lift (.region e2y)) (.seq (.seq (.rd e2z) (.cond (fun e=>e 26) (.seq (.lift (.region e2A)) (.lift .ret)) (.lift .skip))) (.seq (.seq (.lift (.region e2B)) (.cond (fun e=>e 34) (.seq (.lift (.region e2C)) (.lift .ret)) (.lift .skip))) (.seq (.lift (.region e2D)) (.seq (.lift (.region e2E)) (.seq (.lift (.region e2F)) (.seq (.seq (.lift (.region e2G)) (.block 0 (.loop b4z))) (.seq (.lift (.region d8H)) (.seq (.seq (.lift (.region d8I)) (.block 2 (.loop c6V))) (.seq (.lift (.region d8U)) (.lift .ret))))))))))),[.t 6]⟩
end
def c7g:Heap:=⟨fun _=> .gone,0⟩
set_option maxRecDepth 1000000 in
theorem c9H:(b2d cp 100 (.fn 11) [] c7g).map (fun r=>r.1)=some (.bool true):=by kernel_rfl
section
variable {P:Program} {S:Stay} {m:Map} {h:Heap} {w w1:World}
theorem Out.grown(e:Emb P S m h w)(hk:∀k,k<w.heap.size->w1.heap[k]? =w.heap[k]?)(hs:w.heap.size<=w1.heap.size)(hos:w1.os=w.os)(ht:w1.tape=w.tape)(ho:w1.output=w.output):Out P S m h w m h w1:=
 ⟨⟨fun b L hb hl=>uzN (e.lt b L hb hl) hs,e.inj,fun b L hb=>by
  by_cases hl:(h.obj b).live=true
  ·exact(e.obj b L hb).of_block (hk _ (e.lt b L hb hl))
  ·cases hx:h.obj b with
   |gone=>trivial
   |_=>rw[hx]at hl;exact absurd rfl hl,e.prot,e.far,fun k hk=>uzN (e.sLt k hk) hs,e.wf,fun b I hI=>by
  obtain⟨q1,q2,q3⟩:=e.lp b I hI
  refine⟨q1,q2,fun st pd ho r hr=>q3 st pd ho r ?_⟩
  rw[hk _ (e.lt b I.L q1 (by rw[ho];rfl))]at hr
  exact hr⟩,Ext.refl m,fun _ hb=> .inl hb,uzP _,⟨hos,ht,ho,hs,fun k hk' =>hk k (e.sLt k hk')⟩,fun _ _ _=>rfl⟩
end
theorem Emb.none(P:Program)(w:World):Emb P ⟨fun k=>k<w.heap.size,fun _=>False,fun _=> .none⟩ (fun _=>Option.none) c7g w:=
 ⟨fun b L hb=>by simp at hb,fun b c L K hb=>by simp at hb,fun b L hb=>by simp at hb,fun b L hb=>by simp at hb,fun b L hb=>by simp at hb,fun k hk=>hk.elim (fun q=>q) False.elim,fun b hb=>rfl,fun b I hI=>by cases hI⟩
def c6T(f0:FuncId)(v0:Value):a2G:=fun f args h R=>f=f0/\args=[]/\R v0 h
theorem b6r{f0:FuncId}{b:Bool}{n:Nat}(hr:(b2d cp n (.fn f0) [] c7g).map (fun r=>r.1)=some (.bool b)):c7F Tryz.prog (c6T f0 (.bool b)):=by
 rintro f args h R ⟨rfl,rfl,hR⟩
 have hc:=c9U hr
 refine⟨?_,fun S m w args' ha e hf hg=>?_⟩
 ·obtain⟨n,v,h1,he,_⟩:=hc
  exact((a2S d9K n).fn f [] c7g v h1 he).has
 ·have ea:args' = #[]:=Array.toList_eq_nil_iff.1 ha.of_nil
  subst ea
  refine(b6o d9K hc (VL.nil (fun _=>Option.none)) (Emb.none Tryz.prog w) (fun _ _=>rfl)).mono fun en w1 hp=>?_
  obtain⟨v,v',h1,m1,rfl,rfl,hv,ho⟩:=hp
  exact⟨_,v',h,m,rfl,hR,by rw[hv.bool_inv];exact .bool b,Out.grown e (fun k hk=>ho.wd.block k (.inl hk)) ho.wd.size ho.wd.os ho.wd.tape ho.wd.output⟩
def b7p:a2G:=c6T 11 (.bool true)
theorem c9G:c7F Tryz.prog b7p:=b6r c9H
open Go.ChangeShapes Go.WideShapes Go.Deep Go.RowKit in
theorem b6K{P:Program}{CP:CProg}{DS:a2G}(hP:a5D P CP)(hDS:c7F P DS){D:FuncId->Bool}{f:FuncId}{F:Func}(hF:P.funcs[f]? =some F){p:Pers}{fn:DFn}(hfn:c7D P D p F=some fn){args:List Value}{h:Heap}(hc:b7u CP DS fn args h fun v _=>v=.bool true){m:Map}{W:World}{args' :Array Value}(ha:VL m args args'.toList)(hE:Emb P ⟨fun k=>k<W.heap.size,fun _=>False,fun _=>none⟩ m h W)(hf:∀b,h.next<=b->m b=none)(hgl:K7 m:=by intro g hg;exact absurd hg (by simp[GLN])):
  Calls P f args' W fun e W' =>e=.returned (.bool true)/\Below W.heap.size W W' :=by
 refine(b4m hP hDS hF hfn hc ha hE hf hgl).mono fun e W' hp=>?_
 obtain⟨v,v',h1,m1,rfl,rfl,hv,ho⟩:=hp
 refine⟨by rw[hv.bool_inv],ho.wd.os,ho.wd.tape,ho.wd.output,ho.wd.size,fun k hk=>ho.wd.block k (.inl hk)⟩
end Go.Proofs.YtlakhgibjfmjjaaGreat.Can
namespace Go.Proofs.YtlakhgibjfmjjaaGreat.Can
open Go
attribute [local congr] u5 u4 l5 l8 r8 s9 u6 w9 u7 c8I b4s b5n
variable {Q : Value → Heap → Prop}
theorem wholePeeks_law(h:Heap)(v0:Value)(l0:List F3)(hs0:a0d h RE v0 l0)(hl0:l0.length<=maxLen)(_:∀p∈l0,gdR p)(sv:Value)(sl:List Int)(hss:a0d h (Enc.int .u64) sv sl)(_:sl.length<=maxLen)(_:∀x∈sl,(Lit.int .u64 x).wf=true)
  (v:Value) (l:List a5C) (hs:a0d h b1x v l) (_:l.length<=maxLen) (hg:∀x∈l,((Lit.int .i64 x.1).wf=true/\(Lit.int .i64 x.2.1).wf=true/\x.2.2.1.size<=maxLen/\True)):
  b7u cp b7p d6 [v0,sv,v] h fun v _=>v=.bool true:=by
 unfold b7u
 obtain⟨sa0,sc0,hsv,_⟩:=hss.val
 subst hsv
 simp(disch:=omega)only[d6,↓RD6,↓l9,m9,zA,zB,zC,zD,zE,zF,zG,zH,zI,reduceCtorEq,zJ,zK,zL,zM,↓C0,↓D0,↓B7,↓A8,↓y9,↓C3,↓B2,A3,y7,↓E0,↓C1,↓C2,y5,↓A4,↓y8]
 refine⟨rfl,rfl,?_⟩
 by_cases c50:(sl.length:Int)>50
 ·have b0:=dTz c50
  simp(disch:=omega)only[d6,↓RD6,b0,↓l9,m9,zA,zB,zC,zD,zE,zF,zG,zH,zI,reduceCtorEq,zJ,zK,zL,zM,↓C0,↓D0,↓B7,↓A8,↓y9,↓C3,↓B2,A3,y7,↓E0,↓C1,↓C2,y5,↓A4,↓y8]
 have b0:=dFz c50
 simp(disch:=omega)only[d6,↓RD6,b0,↓l9,m9,zA,zB,zC,zD,zE,zF,zG,zH,zI,reduceCtorEq,zJ,zK,zL,zM,↓C0,↓D0,↓B7,↓A8,↓y9,↓C3,↓B2,A3,y7,↓E0,↓C1,↓C2,y5,↓A4,↓y8]
 refine d9t h v l hs.sl (fun c hc=>(hg c hc).2.2.1) fun h2 o2=>?_
 have n2:=o2.next
 by_cases hL:a5B l
 rotate_left
 ·have b1:=dFz hL
  simp(disch:=omega)only[d6,↓RD6,b1,↓l9,m9,zA,zB,zC,zD,zE,zF,zG,zH,zI,reduceCtorEq,zJ,zK,zL,zM,↓C0,↓D0,↓B7,↓A8,↓y9,↓C3,↓B2,A3,y7,↓E0,↓C1,↓C2,y5,↓A4,↓y8]
 have b1:=dTz hL
 simp(disch:=omega)only[d6,↓RD6,b1,↓l9,m9,zA,zB,zC,zD,zE,zF,zG,zH,zI,reduceCtorEq,zJ,zK,zL,zM,↓C0,↓D0,↓B7,↓A8,↓y9,↓C3,↓B2,A3,y7,↓E0,↓C1,↓C2,y5,↓A4,↓y8]
 refine c8A h2 _ l0 (hs0.sl.old o2) hl0 0 fun h4 v4 b4 o4 V4 hb4=>?_
 have n4:=o4.next
 obtain⟨RL,hRL⟩:∃RL,RL=a1q l0:=⟨_,rfl⟩
 obtain⟨okRL,ln1,ln3⟩:=c9k l0
 rw[<-hRL]at V4 okRL ln1 ln3
 have cfg:=d8t RL okRL ⟨ln1,ln3⟩ 0 (by decide)
 obtain⟨va,vc,hv4,_⟩:=V4.val
 rw[uzL]at hv4
 subst hv4
 obtain⟨h5,h5d,o5,n5,_⟩:=T9 h4 (.cells [.int .i64 0,.int .i64 0,.int .i64 0,.slice none 0 0] 30 .fix) (.cells [.int .i64 4294967296,.int .i64 3,.int .i64 (660+0 % 256),.slice va RL.length vc] 30 .fix)
 have g5:h5.obj h4.next=.cells [.int .i64 4294967296,.int .i64 3,.int .i64 660,.slice va RL.length vc] 30 .fix:=by rw[h5d];exact a9 _ _ _
 simp(disch:=omega)only[d6,↓RD6,<-h5d,g5,y6,↓l9,m9,zA,zB,zC,zD,zE,zF,zG,zH,zI,reduceCtorEq,zJ,zK,zL,zM,↓C0,↓D0,↓B7,↓A8,↓y9,↓C3,↓B2,A3,y7,↓E0,↓C1,↓C2,y5,↓A4,↓y8]
 have V5:=V4.old o5
 have oh5:Old h h5:=(o2.trans o4).trans o5
 have hs5:sl.length<=1000000:=by omega
 refine b1p h5 4294967296 3 660 (.slice va RL.length vc) RL b4 V5 cfg okRL _ sl hs5 (hss.sl.old oh5) fun h7 a o7 A7 hlas hcas hou hrows hown=>?_
 have n7:=o7.next
 have g7:=(o7.obj h4.next (by omega)).trans g5
 simp(disch:=omega)only[d6,↓RD6,g7,y6,↓l9,m9,zA,zB,zC,zD,zE,zF,zG,zH,zI,reduceCtorEq,zJ,zK,zL,zM,↓C0,↓D0,↓B7,↓A8,↓y9,↓C3,↓B2,A3,y7,↓E0,↓C1,↓C2,y5,↓A4,↓y8]
 refine b1p h7 4294967296 3 660 (.slice va RL.length vc) RL b4 (V5.old o7) cfg okRL _ sl hs5 ((hss.sl.old oh5).old o7) fun h9 b o9 B9 hlasb hcasb houb hrowsb hownb=>?_
 have n9:=o9.next
 have g9:=(o9.obj h4.next (by omega)).trans g7
 have alt:∀z,a.own none z->z<h7.next:=fun z hz=>by
  obtain⟨cs,S,_⟩:=A7
  exact S.lt hz
 have blt:∀z,b.own none z->z<h9.next:=fun z hz=>by
  obtain⟨cs,S,_⟩:=B9
  exact S.lt hz
 have hab:∀z,a.own none z->¬b.own none z:=fun z h1 h2=>by have:=alt z h1;have:=hownb z h2;omega
 have hab' :∀z,b.own none z->¬a.own none z:=fun z h1 h2=>hab z h2 h1
 have A9:SO h9 a (sw0 RL) (fun _=>none):=by
  obtain⟨cs,S,r⟩:=A7
  exact⟨cs,S.old o9,r⟩
 obtain⟨A0,hA0⟩:∃A,a.cas[0]? =some A:=⟨a.cas[0]'(by omega),uzF _⟩
 obtain⟨A1,hA1⟩:∃A,a.cas[1]? =some A:=⟨a.cas[1]'(by omega),uzF _⟩
 obtain⟨B0,hB0⟩:∃B,b.cas[0]? =some B:=⟨b.cas[0]'(by omega),uzF _⟩
 obtain⟨B1,hB1⟩:∃B,b.cas[1]? =some B:=⟨b.cas[1]'(by omega),uzF _⟩
 obtain⟨h10,h10d,o10,n10,g10⟩:=K2 h9 (.cells [.pointer (some ⟨a.s,0,none⟩),.pointer (some ⟨b.s,0,none⟩)] 35 .grow)
 have k10:=(o10.obj h4.next (by omega)).trans g9
 obtain⟨sa,scap,rfl,hrd⟩:=hs.sl
 have oh9:Old h h9:=(oh5.trans o7).trans o9
 have olda:∀z,a.own none z->h5.next<=z:=fun z hz=>hown z hz
 have oldb:∀z,b.own none z->h5.next<=z:=fun z hz=>by have:=hownb z hz;omega
 have SOold:∀{h h' :Heap} {a:SrvA} {w:SW} {q:Qs} {F:Nat->Prop},SO h a w q->OldF F h h' ->(∀z,a.own none z->¬F z)->SO h' a w q:=fun⟨cs,S,r⟩ o hF=>⟨cs,S.oldF o hF,r⟩
 simp(disch:=omega)only[d6,↓RD6,G0,vCz,vrz,<-h10d,↓l9,m9,zA,zB,zC,zD,zE,zF,zG,zH,zI,reduceCtorEq,zJ,zK,zL,zM,↓C0,↓D0,↓B7,↓A8,↓y9,↓C3,↓B2,A3,y7,↓E0,↓C1,↓C2,y5,↓A4,↓y8]
 obtain⟨Q1,hQ1⟩:∃Q1:Qs,Q1=(Qs.set (fun _=>none) 0 []).set 1 []:=⟨_,rfl⟩
 refine a7M b4z _ (fun d e hh=>∃(j:Nat),j+d=2/\h10.next<=hh.next/\(∀z,z<h5.next->hh.obj z=h10.obj z)/\hh.obj h9.next=.cells [.pointer (some ⟨a.s,0,none⟩),.pointer (some ⟨b.s,0,none⟩)] 35 .grow/\
   (if j=0 then SO hh a (sw0 RL) (fun _=>none)else SO hh a ((sw0 RL).rd 0) Q1)/\(if j=2 then SO hh b ((sw0 RL).rd 0) Q1 else SO hh b (sw0 RL) (fun _=>none))/\
   e 2=.slice sa l.length scap/\e 7=.pointer (some ⟨h4.next,0,none⟩)/\e 8=.pointer (some ⟨a.s,0,none⟩)/\e 10=.pointer (some ⟨b.s,0,none⟩)/\e 51=.slice (some ⟨h9.next,0,none⟩) 2 2/\e 52=.int .i64 2/\e 53=.int .i64 j) ?_ 2 _ _
  ⟨0,rfl,uzP _,fun _ _=>rfl,g10,by
   rw[if_pos rfl]
   obtain⟨cs,S,r⟩:=A9
   exact⟨cs,S.old o10,r⟩,by
   rw[if_neg (by decide)]
   obtain⟨cs,S,r⟩:=B9
   exact⟨cs,S.old o10,r⟩,rfl,rfl,rfl,rfl,rfl,rfl,rfl⟩
 rintro d e hh ⟨j,hj,hn,hk,gp,SA,SB,e2,e7,e8,e10,e51,e52,e53⟩
 have rd0:((sw0 RL).rd 0).rd 0=(sw0 RL).rd 0:=e2I _ _
 rcases j with _|_|j
 ·rw[if_pos rfl]at SA
  rw[if_neg (by decide)]at SB
  simp(disch:=omega)only[b4z,d6,↓RD6,e2,e7,e8,e10,e51,e52,e53,gp,Int.natCast_zero,y6,↓l9,m9,zA,zB,zC,zD,zE,zF,zG,zH,zI,reduceCtorEq,zJ,zK,zL,zM,↓C0,↓D0,↓B7,↓A8,↓y9,↓C3,↓B2,A3,y7,↓E0,↓C1,↓C2,y5,↓A4,↓y8]
  refine a5v (k:=0) SA hA0 rfl 0 0 (by decide) fun h11 o11 SA1=>?_
  have n11:=o11.next
  simp(disch:=omega)only[d6,↓RD6,e2,e7,e8,e10,e51,e52,e53,y6,↓l9,m9,zA,zB,zC,zD,zE,zF,zG,zH,zI,reduceCtorEq,zJ,zK,zL,zM,↓C0,↓D0,↓B7,↓A8,↓y9,↓C3,↓B2,A3,y7,↓E0,↓C1,↓C2,y5,↓A4,↓y8]
  refine a5v (k:=1) SA1 hA1 rfl 0 0 (by decide) fun h12 o12 SA2=>?_
  have n12:=o12.next
  rw[rd0,<-hQ1]at SA2
  have SB2:=SOold (SOold SB o11 hab') o12 hab'
  simp(disch:=omega)only[d6,↓RD6,e2,e7,e8,e10,e51,e52,e53,Int.natCast_zero,↓l9,m9,zA,zB,zC,zD,zE,zF,zG,zH,zI,reduceCtorEq,zJ,zK,zL,zM,↓C0,↓D0,↓B7,↓A8,↓y9,↓C3,↓B2,A3,y7,↓E0,↓C1,↓C2,y5,↓A4,↓y8]
  refine⟨1,by omega,1,rfl,by omega,fun z hz=>?_,?_,?_,?_,?_⟩
  ·rw[o12.obj z (by omega) (fun h=>by have:=olda z h;omega),o11.obj z (by omega) (fun h=>by have:=olda z h;omega)];exact hk z hz
  ·have na:¬a.own none h9.next:=fun h=>by have:=alt _ h;omega
   rw[o12.obj _ (by omega) na,o11.obj _ (by omega) na];exact gp
  ·rw[if_neg (by decide)];exact SA2
  ·rw[if_neg (by decide)];exact SB2
  ·repeat' first|assumption|rfl|apply And.intro
 ·rw[if_neg (by decide)]at SA
  rw[if_neg (by decide)]at SB
  simp(disch:=omega)only[b4z,d6,↓RD6,e2,e7,e8,e10,e51,e52,e53,gp,Int.natCast_zero,Int.natCast_succ,y6,↓l9,m9,zA,zB,zC,zD,zE,zF,zG,zH,zI,reduceCtorEq,zJ,zK,zL,zM,↓C0,↓D0,↓B7,↓A8,↓y9,↓C3,↓B2,A3,y7,↓E0,↓C1,↓C2,y5,↓A4,↓y8]
  refine a5v (k:=0) SB hB0 rfl 0 0 (by decide) fun h11 o11 SB1=>?_
  have n11:=o11.next
  simp(disch:=omega)only[d6,↓RD6,e2,e7,e8,e10,e51,e52,e53,y6,↓l9,m9,zA,zB,zC,zD,zE,zF,zG,zH,zI,reduceCtorEq,zJ,zK,zL,zM,↓C0,↓D0,↓B7,↓A8,↓y9,↓C3,↓B2,A3,y7,↓E0,↓C1,↓C2,y5,↓A4,↓y8]
  refine a5v (k:=1) SB1 hB1 rfl 0 0 (by decide) fun h12 o12 SB2=>?_
  have n12:=o12.next
  rw[rd0,<-hQ1]at SB2
  have SA2:=SOold (SOold SA o11 hab) o12 hab
  simp(disch:=omega)only[d6,↓RD6,e2,e7,e8,e10,e51,e52,e53,Int.natCast_zero,Int.natCast_succ,↓l9,m9,zA,zB,zC,zD,zE,zF,zG,zH,zI,reduceCtorEq,zJ,zK,zL,zM,↓C0,↓D0,↓B7,↓A8,↓y9,↓C3,↓B2,A3,y7,↓E0,↓C1,↓C2,y5,↓A4,↓y8]
  refine⟨0,by omega,2,rfl,by omega,fun z hz=>?_,?_,?_,?_,?_⟩
  ·rw[o12.obj z (by omega) (fun h=>by have:=oldb z h;omega),o11.obj z (by omega) (fun h=>by have:=oldb z h;omega)];exact hk z hz
  ·have nb:¬b.own none h9.next:=fun h=>by have:=blt _ h;omega
   rw[o12.obj _ (by omega) nb,o11.obj _ (by omega) nb];exact gp
  ·rw[if_neg (by decide)];exact SA2
  ·rw[if_pos rfl];exact SB2
  ·repeat' first|assumption|rfl|apply And.intro
 obtain rfl:j=0:=by omega
 rw[if_neg (by decide)]at SA
 rw[if_pos rfl]at SB
 simp(disch:=omega)only[b4z,d6,↓RD6,e2,e7,e8,e10,e51,e52,e53,Int.natCast_zero,Int.natCast_succ,↓l9,m9,zA,zB,zC,zD,zE,zF,zG,zH,zI,reduceCtorEq,zJ,zK,zL,zM,↓C0,↓D0,↓B7,↓A8,↓y9,↓C3,↓B2,A3,y7,↓E0,↓C1,↓C2,y5,↓A4,↓y8]
 have q0:∀n:Nat,1<n->∀k l,Q1 k=some l->k<n:=fun n hn k l hk=>by
  rw[hQ1]at hk
  unfold Qs.set at hk
  split at hk
  ·omega
  ·split at hk
   ·omega
   ·cases hk
 have SA:=SA.si (q0 _ (by omega))
 have SB:=SB.si (q0 _ (by omega))
 have hAS:=SA.same SB (by rw[hlas,hlasb]) hrows hrowsb
 have lena:a.las.length=RL.length:=by rw[<-hlas,uzL]
 have lenb:b.las.length=RL.length:=by rw[<-hlasb,uzL]
 have q10:Q1 0=some []:=by rw[hQ1];rfl
 have q11:Q1 1=some []:=by rw[hQ1];rfl
 have qs0:∀r:List Int,(Q1.set 0 r).set 0 []=Q1:=fun r=>by
  rw[hQ1]
  funext i
  unfold Qs.set
  split
  ·rename_i e;rw[e];rfl
  ·rfl
 have qs1:∀r:List Int,(Q1.set 1 r).set 1 []=Q1:=fun r=>by
  rw[hQ1]
  funext i
  unfold Qs.set
  split
  ·rfl
  ·rfl
 obtain⟨hm,hhm⟩:∃hm:Heap,hm=hh:=⟨_,rfl⟩
 have hmn:h10.next<=hm.next:=by rw[hhm];exact hn
 refine a7M c6V _ (fun d e hh=>∃(j:Nat) (w w' :SW),j+d=l.length/\hm.next<=hh.next/\(∀z,z<h5.next->hh.obj z=h10.obj z)/\SI hh a w Q1/\SI hh b w' Q1/\w.k<=4*j/\w'.k<=4*j/\w.now<=w'.now/\w'.now<=1023*j/\w.again=false/\w'.again=false/\
   (∀(i:Nat) (x y:LV),w.ls[i]? =some x->w'.ls[i]? =some y->GEq w'.now x y)/\e 7=.pointer (some ⟨h4.next,0,none⟩)/\e 8=.pointer (some ⟨a.s,0,none⟩)/\e 10=.pointer (some ⟨b.s,0,none⟩)/\e 14=.int .i64 w'.now/\e 64=.slice sa l.length scap/\e 65=.int .i64 l.length/\e 66=.int .i64 j) ?_ l.length _ _
  ⟨0,_,_,by omega,by rw[hhm];exact uzP _,hk,SA,SB,uzQ _,uzQ _,uzQ _,by show max (max (0:Int) 0) 0<=_;omega,rfl,rfl,fun i x y hx hy=>?_,by assumption,by assumption,by assumption,rfl,rfl,rfl,rfl⟩
 rotate_left
 ·have hx:(RL.map lv0)[i]? =some x:=hx
  have hy:(RL.map lv0)[i]? =some y:=hy
  rw[hx]at hy
  obtain rfl:=uzA hy
  obtain⟨r,_,rfl⟩:=List.mem_map.1 (uzK hx)
  exact GEq.refl (by show(0:Int)<=max (max (0:Int) 0) 0;omega)
 clear e2 e7 e8 e10 e51 e52 e53 gp SA SB hk hn hj
 rintro d e hh ⟨j,w,w',hj,hn,hk,SA,SB,wk,wk',ww,wnow,wag,wag',ge,e7,e8,e10,e14,e64,e65,e66⟩
 have hwn:=SA.now
 have hwn' :=SB.now
 have hwk:=SA.k
 have hwk' :=SB.k
 by_cases cj:j<l.length
 rotate_left
 ·have b2:decide ((j:Int)<(l.length:Int))=false:=dFz (by omega)
  simp(disch:=omega)only[c6V,d6,↓RD6,e7,e8,e10,e14,e64,e65,e66,b2,↓l9,m9,zA,zB,zC,zD,zE,zF,zG,zH,zI,reduceCtorEq,zJ,zK,zL,zM,↓C0,↓D0,↓B7,↓A8,↓y9,↓C3,↓B2,A3,y7,↓E0,↓C1,↓C2,y5,↓A4,↓y8]
 have b2:decide ((j:Int)<(l.length:Int))=true:=dTz (by omega)
 have nx:(j:Int)+1=((j+1:Nat):Int):=by omega
 have hL1:=hL.1
 have wj:IntKind.i64.wrap ((j+1:Nat):Int)=((j+1:Nat):Int):=by rw[R7];omega
 have hx:l[j]? =some l[j]:=uzF cj
 obtain⟨z,hzd⟩:∃y,y=l[j]:=⟨_,rfl⟩
 rw[<-hzd]at hx
 obtain⟨bx,of,hsa,hbx,hr⟩:=hrd j z hx
 subst hsa
 have on10:=oh9.next
 have hr:(hh.obj bx).read (of+j*4) 4=some (b1x.enc z):=by rw[hk bx (by have:=oh5.next;omega),o10.obj bx (by have:=oh9.next;omega),oh9.obj bx hbx];exact hr
 have hmem:=uzK hx
 have hsz:=hL.2 z hmem
 obtain⟨g,co,key,pk⟩:=z
 have hr:(hh.obj bx).read (of+j*4) 4=some [.int .i64 g,.int .i64 co,.string key,.bool pk]:=hr
 have hgg:=hg _ hmem
 have ig:=f2T hgg.1
 simp only at hsz
 obtain⟨kl,hkl,rfl⟩:=e4Y key
 rw[a1B]at hsz
 have gW:=e1R g
 have m6:=W7 6 (by decide) co 63 (by decide)
 have p6:(2:Int) ^ 6=64:=by decide
 rw[p6]at m6
 obtain⟨cost,hcost⟩:∃cost,cost=co % 64:=⟨_,rfl⟩
 rw[<-hcost]at m6
 have cu:IntKind.u32.wrap cost=cost:=b5M (by omega) (by omega)
 have fG:=fun hh Q=>d9j hh g ig Q
 obtain⟨now,hnow⟩:∃now,now=w'.now+c8P g:=⟨_,rfl⟩
 obtain⟨rule,hrule⟩:∃rule:Nat,rule=j % RL.length:=⟨_,rfl⟩
 have hrl:rule<RL.length:=by rw[hrule];exact Nat.mod_lt _ (by omega)
 have tm:Int.tmod (j:Int) (RL.length:Int)=(rule:Int):=by rw[hrule];rw[J8 _ _ (by omega)];omega
 have nR:((RL.length:Int)=0)=False:=eq_false (by omega)
 have gc:hh.obj h4.next=.cells [.int .i64 4294967296,.int .i64 3,.int .i64 660,.slice va RL.length vc] 30 .fix:=(hk _ (by omega)).trans k10
 obtain⟨h12,h12d,o12,n12,g12⟩:=T9 hh (.cells [.int .i64 0,.int .i64 0,.string ⟨#[]⟩,.bool false] 48 .fix) (.cells [.int .i64 g,.int .i64 co,.string (bs kl),.bool pk] 48 .fix)
 have gc12:=(o12.obj h4.next (by omega)).trans gc
 simp(disch:=omega)only[c6V,d6,↓RD6,e7,e8,e10,e14,e64,e65,e66,b2,hr,<-h12d,g12,fG,<-hnow,gc12,tm,nR,m6,cu,y6,↓l9,m9,zA,zB,zC,zD,zE,zF,zG,zH,zI,reduceCtorEq,zJ,zK,zL,zM,↓C0,↓D0,↓B7,↓A8,↓y9,↓C3,↓B2,A3,y7,↓E0,↓C1,↓C2,y5,↓A4,↓y8]
 have A12:=SA.old o12
 have B12:=SB.old o12
 refine b0P h12 1 rule cost kl 0 (.inl rfl) (by omega) hkl hsz fun h13 v13 b13 V13 o13 hb13=>?_
 have n13:=o13.next
 obtain⟨q,hq⟩:∃q:ReqV,q=⟨1,rule,cost,kl,0⟩:=⟨_,rfl⟩
 have hqc:ReqC a.las.length q:=by
  rw[hq]
  exact⟨⟨.inl rfl,by show(0:Int)<=(rule:Int)/\(rule:Int)<_/\(rule:Int)<256;omega,by show(0:Int)<=cost/\cost<4294967296;omega,hsz,hkl,by show(0:Int)<=0/\(0:Int)<256;decide⟩,fun _=>rfl,fun h=>by simp at h,fun _=>rfl⟩
 have hqcb:ReqC b.las.length q:=by rw[lenb,<-lena];exact hqc
 have hfb:C4 q=J5 167 (a3S 1 rule cost kl 0):=by rw[hq];rfl
 rw[<-hfb]at V13
 obtain⟨fa,fcap,hv13,_⟩:=V13.val
 subst hv13
 have g13:=(o13.obj hh.next (by omega)).trans g12
 have away:∀z,h9.next<=z->¬a.own none z/\¬b.own none z:=fun z hz=>⟨fun h=>by have:=alt z h;omega,fun h=>by have:=blt z h;omega⟩
 have k13:∀z,z<h5.next->h13.obj z=h10.obj z:=fun z hz=>by rw[o13.obj z (by omega),o12.obj z (by omega)];exact hk z hz
 simp(disch:=omega)only[d6,↓RD6,e7,e8,e10,e64,e65,e66,↓l9,m9,zA,zB,zC,zD,zE,zF,zG,zH,zI,reduceCtorEq,zJ,zK,zL,zM,↓C0,↓D0,↓B7,↓A8,↓y9,↓C3,↓B2,A3,y7,↓E0,↓C1,↓C2,y5,↓A4,↓y8]
 refine a7M b4A _ (fun d1 e hh1=>∃(o:Nat) (u:SW),o+d1=5/\2<=o/\h13.next<=hh1.next/\(∀z,z<h5.next->hh1.obj z=h10.obj z)/\SI hh1 a w Q1/\SI hh1 b u Q1/\u.k<=4*j+(o-2:Nat)/\u.now<=now/\u.again=false/\
   (∀(i:Nat) (x y:LV),w.ls[i]? =some x->u.ls[i]? =some y->GEq now x y)/\hh1.obj hh.next=.cells [.int .i64 g,.int .i64 co,.string (bs kl),.bool pk] 48 .fix/\E3 hh1 5 B8 (.slice fa (C4 q).length fcap) (C4 q) b13/\
   e 7=.pointer (some ⟨h4.next,0,none⟩)/\e 8=.pointer (some ⟨a.s,0,none⟩)/\e 10=.pointer (some ⟨b.s,0,none⟩)/\e 14=.int .i64 now/\e 16=.pointer (some ⟨hh.next,0,none⟩)/\e 17=.int .i64 rule/\e 18=.slice fa (C4 q).length fcap/\e 19=.int .i64 o/\e 64=.slice (some ⟨bx,of,none⟩) l.length scap/\e 65=.int .i64 l.length/\e 66=.int .i64 j) ?_ 3 _ _
  ⟨2,w',rfl,uzP _,uzP _,k13,A12.old o13,B12.old o13,by omega,by omega,wag',fun i x y hx hy=>(ge i x y hx hy).later (by omega),g13,V13,e7,e8,e10,rfl,rfl,rfl,rfl,rfl,e64,e65,e66⟩
 rintro d1 f hh1 ⟨o,u,ho,ho2,hn1,hk1,SA1,SB1,uk,unow,uag,ge1,gk1,V1,f7,f8,f10,f14,f16,f17,f18,f19,f64,f65,f66⟩
 have hun:=SB1.now
 have huk:=SB1.k
 by_cases c4:o<=4
 rotate_left
 ·have b3:decide ((o:Int)<=4)=false:=dFz (by omega)
  obtain rfl:o=5:=by omega
  simp(disch:=omega)only[b4A,d6,↓RD6,f7,f8,f10,f14,f16,f17,f18,f19,f64,f65,f66,b3,y6,↓l9,m9,zA,zB,zC,zD,zE,zF,zG,zH,zI,reduceCtorEq,zJ,zK,zL,zM,↓C0,↓D0,↓B7,↓A8,↓y9,↓C3,↓B2,A3,y7,↓E0,↓C1,↓C2,y5,↓A4,↓y8]
  obtain⟨La,hLa⟩:∃L,a.las[rule]? =some L:=⟨a.las[rule]'(by omega),uzF _⟩
  obtain⟨Lb,hLb⟩:∃L,b.las[rule]? =some L:=⟨b.las[rule]'(by omega),uzF _⟩
  obtain⟨hLR,hLS,_⟩:=hAS.2 rule La Lb hLa hLb
  have l2a:=SA1.ll
  have l2b:=SB1.ll
  obtain⟨x,hwx⟩:∃x,w.ls[rule]? =some x:=⟨w.ls[rule]'(by omega),uzF _⟩
  obtain⟨y,huy⟩:∃y,u.ls[rule]? =some y:=⟨u.ls[rule]'(by omega),uzF _⟩
  obtain⟨ra,hra⟩:∃r,r=B3 La.R La.rp x now 0 (bs kl) cost:=⟨_,rfl⟩
  obtain⟨rb,hrb⟩:∃r,r=B3 La.R La.rp y now 0 (bs kl) cost:=⟨_,rfl⟩
  obtain⟨c1,c2,c3⟩:=(ge1 rule x y hwx huy).check (uzQ now) La.R La.rp 0 (bs kl) cost
  rw[<-hra,<-hrb]at c1 c2 c3
  have na:(w.rd now).now=now:=by show max (max w.now now) 0=now;omega
  have nb:(u.rd now).now=now:=by show max (max u.now now) 0=now;omega
  have qr:q.rule.toNat=rule:=by rw[hq];show((rule:Int)).toNat=rule;exact vAz _
  have Ra:=b7C (las:=a.las) (w:=w.rd now) (evs:=[]) (q:=q) (L:=La) (v:=x) (by rw[qr];exact hLa) (by rw[qr];exact hwx) wag (by rw[hq]) (r:=ra) (by rw[na,hq];exact hra)
  have Rb:=b7C (las:=b.las) (w:=u.rd now) (evs:=[]) (q:=q) (L:=Lb) (v:=y) (by rw[qr];exact hLb) (by rw[qr];exact huy) uag (by rw[hq]) (r:=rb) (by rw[nb,hq,<-hLS];exact hrb)
  rw[qr,vrz]at Ra Rb
  rw[<-c1,<-c2]at Rb
  obtain⟨evs,hevs⟩:∃evs,evs=evO q.rule ra.2.1:=⟨_,rfl⟩
  have evl:evs.length<=2:=by
   have:=a3x La.R La.rp x now 0 (bs kl) cost
   rw[<-hra]at this
   rw[hevs];unfold evO;rw[uzL];exact this
  obtain⟨byt,hbyt⟩:∃byt,byt=a2N 1 ra.1.1 ra.1.2.1 ra.1.2.2:=⟨_,rfl⟩
  have bytl:byt.length=22:=by rw[hbyt];exact a2O _ _ _ _
  rw[<-hevs,<-hbyt]at Ra Rb
  obtain⟨ua,hua⟩:∃ua:SW,ua={ w.rd now with ls:=(w.rd now).ls.set rule ra.2.2,k:=(w.rd now).k+1 }:=⟨_,rfl⟩
  obtain⟨ub,hub⟩:∃ub:SW,ub={ u.rd now with ls:=(u.rd now).ls.set rule rb.2.2,k:=(u.rd now).k+1 }:=⟨_,rfl⟩
  rw[<-hua]at Ra
  rw[<-hub]at Rb
  have r6a:=b1B a.las w now [] q
  have r6b:=b1B b.las u now [] q
  rw[Ra]at r6a
  rw[Rb]at r6b
  simp only at r6a r6b
  have bno:=away b13 (by omega)
  refine e0i (k:=0) SA1 q10 hqc hq (by omega) (by rw[hou];decide) now 0 (by omega) V1 bno.1 Ra.symm fun h16 ev16 eb16 o16 A16 V16=>?_
  have n16:=o16.next
  have B16:=SB1.oldF o16 hab'
  have V1' :=V1.keep (h' :=h16) n16 fun hl=>o16.obj b13 hl bno.1
  simp(disch:=omega)only[d6,↓RD6,f7,f8,f10,f14,f18,f64,f65,f66,y6,↓l9,m9,zA,zB,zC,zD,zE,zF,zG,zH,zI,reduceCtorEq,zJ,zK,zL,zM,↓C0,↓D0,↓B7,↓A8,↓y9,↓C3,↓B2,A3,y7,↓E0,↓C1,↓C2,y5,↓A4,↓y8]
  refine e0i (k:=0) B16 q10 hqcb hq (by omega) (by rw[houb];decide) now 0 (by omega) V1' bno.2 Rb.symm fun h18 ev18 eb18 o18 B18 V18=>?_
  have n18:=o18.next
  have A18:=A16.oldF o18 hab
  obtain⟨V16,f16⟩:=V16
  obtain⟨V18,f18⟩:=V18
  obtain⟨ea,eac,hea,_⟩:=V16.val
  subst hea
  obtain⟨eb,ebc,heb,_⟩:=V18.val
  subst heb
  obtain⟨h19,h19d⟩:∃h19,h19=(((h18.new (.cells [.int .i64 0,.int .i64 0,.slice none 0 0,.slice none 0 0] 42 .fix)).new (.cells [.int .i64 0,.int .i64 0,.slice none 0 0,.slice none 0 0] 42 .fix)).upd h18.next (.cells [.int .i64 0,.int .i64 ((C4 q).length:Nat),.slice none 0 0,.slice ea evs.length eac] 42 .fix)).upd (h18.next+1) (.cells [.int .i64 0,.int .i64 ((C4 q).length:Nat),.slice none 0 0,.slice eb evs.length ebc] 42 .fix):=⟨_,rfl⟩
  have o19:Old h18 h19:=by rw[h19d];exact⟨by simp only[r9,j0];omega,fun z hz=>by rw[a6 _ _ (by omega),a6 _ _ (by omega),f4 _ _ (by simp only[j0];omega),f4 _ _ (by omega)]⟩
  have n19:h19.next=h18.next+1+1:=by rw[h19d];rfl
  have x19:h19.obj h18.next=.cells [.int .i64 0,.int .i64 ((C4 q).length:Nat),.slice none 0 0,.slice ea evs.length eac] 42 .fix:=by rw[h19d,a6 _ _ (by omega)];exact a9 _ _ _
  have y19:h19.obj (h18.next+1)=.cells [.int .i64 0,.int .i64 ((C4 q).length:Nat),.slice none 0 0,.slice eb evs.length ebc] 42 .fix:=by rw[h19d];exact a9 _ _ _
  simp(disch:=omega)only[d6,↓RD6,f7,f8,f10,f14,f64,f65,f66,K9,y6,<-h19d,↓l9,m9,zA,zB,zC,zD,zE,zF,zG,zH,zI,reduceCtorEq,zJ,zK,zL,zM,↓C0,↓D0,↓B7,↓A8,↓y9,↓C3,↓B2,A3,y7,↓E0,↓C1,↓C2,y5,↓A4,↓y8]
  refine a8u (k:=0) (A18.old o19) (Qs.set_self _ _ _) now 99 (by omega) fun h20 u b20 o20 A20 V20 hb20=>?_
  have n20:=o20.next
  have t22:([]++byt).take (99:Int).toNat=byt:=by rw[vrz];exact vnz (by show byt.length<=99;omega)
  have d22:([]++byt).drop (99:Int).toNat=[]:=by rw[vrz];exact List.drop_eq_nil_of_le (by show byt.length<=99;omega)
  rw[t22]at V20
  rw[d22,qs0]at A20
  have B20:=(B18.old o19).oldF o20 hab'
  simp(disch:=omega)only[d6,↓RD6,f7,f8,f10,f14,f64,f65,f66,K9,y6,↓l9,m9,zA,zB,zC,zD,zE,zF,zG,zH,zI,reduceCtorEq,zJ,zK,zL,zM,↓C0,↓D0,↓B7,↓A8,↓y9,↓C3,↓B2,A3,y7,↓E0,↓C1,↓C2,y5,↓A4,↓y8]
  refine a8u (k:=0) B20 (Qs.set_self _ _ _) now 99 (by omega) fun h21 u' b21 o21 B21 V21 hb21=>?_
  have n21:=o21.next
  rw[t22]at V21
  rw[d22,qs0]at B21
  have A21:=A20.oldF o21 hab
  obtain⟨da,dac,hda,_⟩:=V20.val
  subst hda
  obtain⟨db,dbc,hdb,_⟩:=V21.val
  subst hdb
  obtain⟨h22,h22d⟩:∃h22,h22=(((h21.new (.cells [.int .i64 0,.int .i64 0,.slice none 0 0,.slice none 0 0] 42 .fix)).new (.cells [.int .i64 0,.int .i64 0,.slice none 0 0,.slice none 0 0] 42 .fix)).upd h21.next (.cells [.int .i64 0,.int .i64 0,.slice da byt.length dac,.slice none 0 0] 42 .fix)).upd (h21.next+1) (.cells [.int .i64 0,.int .i64 0,.slice db byt.length dbc,.slice none 0 0] 42 .fix):=⟨_,rfl⟩
  have o22:Old h21 h22:=by rw[h22d];exact⟨by simp only[r9,j0];omega,fun z hz=>by rw[a6 _ _ (by omega),a6 _ _ (by omega),f4 _ _ (by simp only[j0];omega),f4 _ _ (by omega)]⟩
  have n22:h22.next=h21.next+1+1:=by rw[h22d];rfl
  have x22:h22.obj h21.next=.cells [.int .i64 0,.int .i64 0,.slice da byt.length dac,.slice none 0 0] 42 .fix:=by rw[h22d,a6 _ _ (by omega)];exact a9 _ _ _
  have y22:h22.obj (h21.next+1)=.cells [.int .i64 0,.int .i64 0,.slice db byt.length dbc,.slice none 0 0] 42 .fix:=by rw[h22d];exact a9 _ _ _
  have k19:∀z,h9.next<=z->z<h19.next->h22.obj z=h19.obj z:=fun z h1 h2=>by rw[o22.obj z (by omega),o21.obj z (by omega) (away z h1).2,o20.obj z h2 (away z h1).1]
  have x23:=(k19 h18.next (by omega) (by omega)).trans x19
  have y23:=(k19 (h18.next+1) (by omega) (by omega)).trans y19
  have EA:Lst h22 EvE (.slice ea evs.length eac) evs:=by
   rcases f16 with⟨e1,e2⟩|f16
   ·rw[show Value.slice ea evs.length eac=.slice none 0 0 from e2,show evs=[]from e1];exact⟨none,0,rfl,fun i x hx=>by simp at hx⟩
   ·refine(V16.keep (h' :=h22) (by omega) fun hl=>?_).sl
    rw[k19 eb16 (by omega) (by omega),o19.obj eb16 (by omega),o18.obj eb16 hl (away eb16 (by omega)).2]
  have EB:Lst h22 EvE (.slice eb evs.length ebc) evs:=by
   rcases f18 with⟨e1,e2⟩|f18
   ·rw[show Value.slice eb evs.length ebc=.slice none 0 0 from e2,show evs=[]from e1];exact⟨none,0,rfl,fun i x hx=>by simp at hx⟩
   ·refine(V18.keep (h' :=h22) (by omega) fun hl=>?_).sl
    rw[k19 eb18 (by omega) (by omega),o19.obj eb18 (by omega)]
  have DA:Bys h22 (.slice da byt.length dac) byt:=(V20.keep (h' :=h22) (by omega) fun hl=>by rw[o22.obj b20 (by omega),o21.obj b20 hl (away b20 (by omega)).2]).bys
  have DB:Bys h22 (.slice db byt.length dbc) byt:=(V21.keep (h' :=h22) (by omega) fun hl=>o22.obj b21 hl).bys
  have NB:Bys h22 (.slice none 0 0) []:=.inl ⟨rfl,rfl⟩
  have NE:Lst h22 EvE (.slice none 0 0) []:=⟨none,0,rfl,fun i x hx=>by simp at hx⟩
  simp(disch:=omega)only[d6,↓RD6,f7,f8,f10,f14,f64,f65,f66,K9,y6,<-h22d,x22,y22,x23,y23,↓l9,m9,zA,zB,zC,zD,zE,zF,zG,zH,zI,reduceCtorEq,zJ,zK,zL,zM,↓C0,↓D0,↓B7,↓A8,↓y9,↓C3,↓B2,A3,y7,↓E0,↓C1,↓C2,y5,↓A4,↓y8]
  refine c7y h22 0 _ NB NB EA EB (by omega) fun h23 o23=>?_
  have n23:=o23.next
  have x24:=(o23.obj h21.next (by omega)).trans x22
  have y24:=(o23.obj (h21.next+1) (by omega)).trans y22
  simp(disch:=omega)only[d6,↓RD6,f7,f8,f10,f14,f64,f65,f66,x24,y24,Bool.not_true,↓l9,m9,zA,zB,zC,zD,zE,zF,zG,zH,zI,reduceCtorEq,zJ,zK,zL,zM,↓C0,↓D0,↓B7,↓A8,↓y9,↓C3,↓B2,A3,y7,↓E0,↓C1,↓C2,y5,↓A4,↓y8]
  refine c7y h23 0 0 (DA.old o23) (DB.old o23) (NE.old o23) (NE.old o23) (by decide) fun h24 o24=>?_
  have n24:=o24.next
  have A24:=((A21.old o22).old o23).old o24
  have B24:=((B21.old o22).old o23).old o24
  rw[r6a]at A24
  rw[r6b]at B24
  have old24:∀z,z<h5.next->h24.obj z=h10.obj z:=fun z hz=>by
   have za:¬a.own none z:=fun h=>by have:=olda z h;omega
   have zb:¬b.own none z:=fun h=>by have:=oldb z h;omega
   rw[o24.obj z (by omega),o23.obj z (by omega),o22.obj z (by omega),o21.obj z (by omega) zb,o20.obj z (by omega) za,o19.obj z (by omega),o18.obj z (by omega) zb,o16.obj z (by omega) za]
   exact hk1 z hz
  simp(disch:=omega)only[d6,↓RD6,f7,f8,f10,f14,f64,f65,f66,Bool.not_true,nx,wj,↓l9,m9,zA,zB,zC,zD,zE,zF,zG,zH,zI,reduceCtorEq,zJ,zK,zL,zM,↓C0,↓D0,↓B7,↓A8,↓y9,↓C3,↓B2,A3,y7,↓E0,↓C1,↓C2,y5,↓A4,↓y8]
  refine⟨d-1,by omega,j+1,ua,ub,by omega,by omega,old24,A24,B24,?_,?_,?_,?_,?_,?_,fun i x' y' hx' hy' =>?_,?_⟩
  ·rw[hua];show w.k+1<=_;omega
  ·rw[hub];show u.k+1<=_;omega
  ·rw[hua,hub];show(w.rd now).now<=(u.rd now).now;omega
  ·rw[hub];show(u.rd now).now<=_;omega
  ·rw[hua];exact wag
  ·rw[hub];exact uag
  ·have nub:ub.now=now:=by rw[hub];exact nb
   rw[nub]
   have hx' :(w.ls.set rule ra.2.2)[i]? =some x' :=by rw[hua]at hx';exact hx'
   have hy' :(u.ls.set rule rb.2.2)[i]? =some y' :=by rw[hub]at hy';exact hy'
   by_cases e:rule=i
   ·subst e
    rw[uzH (by omega)]at hx' hy'
    rw[<-uzA hx',<-uzA hy']
    exact c3
   ·rw[uzI e]at hx' hy'
    exact ge1 i x' y' hx' hy'
  ·have nub:ub.now=now:=by rw[hub];exact nb
   repeat' first|assumption|rfl|apply And.intro
   rw[nub]
 have b3:decide ((o:Int)<=4)=true:=dTz (by omega)
 have nx2:(o:Int)+1=((o+1:Nat):Int):=by omega
 have wo:IntKind.i64.wrap ((o+1:Nat):Int)=((o+1:Nat):Int):=by rw[R7];omega
 have ask:∀(e:a7) (hY:Heap) (c20:Nat) (cost' :Int) (key' :List Int),Old hh1 hY->h13.next<=c20/\c20<hY.next->hY.obj c20=.cells [.int .i64 o,.int .i64 rule,.int .u32 cost',.string (bs key'),.int .i64 0] 61 .fix->(0<=cost' /\cost' <4294967296)->E4 key' ->key'.length<=64->(¬o=2->cost' =0/\key' =[])->
   (∀i,i=7\/i=8\/i=10\/i=14\/i=16\/i=17\/i=18\/i=19\/i=64\/i=65\/i=66->e i=f i)->e 20=.pointer (some ⟨c20,0,none⟩)->∀K:B5,
   (∀e2 h2,(∃u2:SW,h13.next<=h2.next/\(∀z,z<h5.next->h2.obj z=h10.obj z)/\SI h2 a w Q1/\SI h2 b u2 Q1/\u2.k<=u.k+1/\u2.now<=now/\u2.again=false/\(∀(i:Nat) (x y:LV),w.ls[i]? =some x->u2.ls[i]? =some y->GEq now x y)/\h2.obj hh.next=.cells [.int .i64 g,.int .i64 co,.string (bs kl),.bool pk] 48 .fix/\E3 h2 5 B8 (.slice fa (C4 q).length fcap) (C4 q) b13/\
    (∀i,i=7\/i=8\/i=10\/i=14\/i=16\/i=17\/i=18\/i=19\/i=64\/i=65\/i=66->e2 i=f i))->K .normal e2 h2)->
   H1 cp (b6w e) hY (c9w cp b7p (CD.lift (CC.region b6x)) K):=by
  intro e hY c20 cost' key' oY hc20 gq hcost' hkey' hkl' hnot hi e20 K hK
  have nY:=oY.next
  have e10:e 10=.pointer (some ⟨b.s,0,none⟩):=(hi 10 (by decide)).trans f10
  have e14' :e 14=.int .i64 now:=(hi 14 (by decide)).trans f14
  simp(disch:=omega)only[d6,↓RD6,e10,e14',e20,gq,↓l9,m9,zA,zB,zC,zD,zE,zF,zG,zH,zI,reduceCtorEq,zJ,zK,zL,zM,↓C0,↓D0,↓B7,↓A8,↓y9,↓C3,↓B2,A3,y7,↓E0,↓C1,↓C2,y5,↓A4,↓y8]
  have oop:(o:Int)=1\/(o:Int)=2\/(o:Int)=3\/(o:Int)=4:=by omega
  refine b0P hY o rule cost' key' 0 oop hcost' hkey' hkl' fun h14 v14 b14 V14 o14 hb14=>?_
  have n14:=o14.next
  obtain⟨q2,hq2⟩:∃q:ReqV,q=⟨o,rule,cost',key',0⟩:=⟨_,rfl⟩
  have hqc2:ReqC b.las.length q2:=by
   rw[hq2]
   refine⟨⟨by show(o:Int)=1\/_;exact oop,by show(0:Int)<=(rule:Int)/\(rule:Int)<_/\(rule:Int)<256;omega,hcost',hkl',hkey',by show(0:Int)<=0/\(0:Int)<256;decide⟩,fun _=>rfl,fun h=>?_,fun _=>rfl⟩
   have h:(o:Int)=3\/(o:Int)=4:=h
   exact hnot (by omega)
  have hfb2:C4 q2=J5 167 (a3S o rule cost' key' 0):=by rw[hq2];rfl
  rw[<-hfb2]at V14
  obtain⟨ga,gcap,hv14,_⟩:=V14.val
  subst hv14
  have e10:=e10
  simp(disch:=omega)only[d6,↓RD6,e10,e14',y6,↓l9,m9,zA,zB,zC,zD,zE,zF,zG,zH,zI,reduceCtorEq,zJ,zK,zL,zM,↓C0,↓D0,↓B7,↓A8,↓y9,↓C3,↓B2,A3,y7,↓E0,↓C1,↓C2,y5,↓A4,↓y8]
  obtain⟨R2,hR2⟩:∃R,R=N7 b.las (u.rd now,[]) q2:=⟨_,rfl⟩
  obtain⟨r1,r2,r3,r4,_⟩:=d0n b.las (u.rd now,[]) q2
  have r6:=b1B b.las u now [] q2
  have nu:(u.rd now).now=now:=by show max (max u.now now) 0=now;omega
  have r7:=e0S (las:=b.las) (w:=u.rd now) (evs:=[]) (q:=q2) (by rw[hq2];show(o:Int)≠1;omega) (lx:=w.ls) ge1 (by omega)
  rw[nu,<-hR2]at r7
  rw[<-hR2]at r1 r2 r3 r4 r6
  have r1:R2.1.1.now=now:=r1.trans nu
  have r2:R2.1.1.again=false:=r2.trans uag
  have r3:R2.1.1.k<=u.k+1:=r3
  have bno:=(away b14 (by omega)).2
  refine e2f (k:=1) ((SB1.old oY).old o14) q11 hqc2 (by omega) (fun L hL=>?_) now 0 (by omega) V14 bno hR2 fun h15 ev15 eb15 o15 B15 _=>?_
  ·rw[hq2,houb]
   show(0:Int)+T8 o 0 L.R.T<=660
   unfold T8
   split
   ·omega
   ·split<;>omega
  have n15:=o15.next
  simp(disch:=omega)only[d6,↓RD6,e10,e14',y6,↓l9,m9,zA,zB,zC,zD,zE,zF,zG,zH,zI,reduceCtorEq,zJ,zK,zL,zM,↓C0,↓D0,↓B7,↓A8,↓y9,↓C3,↓B2,A3,y7,↓E0,↓C1,↓C2,y5,↓A4,↓y8]
  refine a8u (k:=1) B15 (Qs.set_self _ _ _) now 65536 (by omega) fun h16 u16 b16 o16 B16 V16 hb16=>?_
  have n16:=o16.next
  have rl:R2.2.length<=700:=by rw[hR2];exact SB1.anslen hqc2.toReqOK now
  have d0:([]++R2.2).drop (65536:Int).toNat=[]:=by rw[vrz];exact List.drop_eq_nil_of_le (by show R2.2.length<=65536;omega)
  rw[d0,qs1,r6]at B16
  have SA16:=(((SA1.old oY).old o14).oldF o15 hab).oldF o16 hab
  have kb:∀z,z<h14.next->¬b.own none z->h16.obj z=h14.obj z:=fun z hz hb=>by rw[o16.obj z (by omega) hb,o15.obj z hz hb]
  have V1l:b13<hh1.next/\h12.next<=b13:=by
   have hfl:0<(C4 q).length:=by
    have:=(a1I hqc).1.l4;omega
   obtain⟨_,_,_,hl,_⟩:=V1.at hfl
   exact⟨hl,hb13⟩
  simp(disch:=omega)only[d6,↓RD6,e10,e14',↓l9,m9,zA,zB,zC,zD,zE,zF,zG,zH,zI,reduceCtorEq,zJ,zK,zL,zM,↓C0,↓D0,↓B7,↓A8,↓y9,↓C3,↓B2,A3,y7,↓E0,↓C1,↓C2,y5,↓A4,↓y8]
  refine hK _ h16 ⟨R2.1.1,by omega,fun z hz=>?_,SA16,B16,r3,by omega,r2,r7,?_,V1.keep (by omega) fun hl=>?_,fun i hi' =>?_⟩
  ·rw[kb z (by omega) (fun h=>by have:=oldb z h;omega),o14.obj z (by omega),oY.obj z (by omega)];exact hk1 z hz
  ·rw[kb _ (by omega) (away _ (by omega)).2,o14.obj _ (by omega),oY.obj _ (by omega)];exact gk1
  ·rw[kb b13 (by omega) (away _ (by omega)).2,o14.obj b13 (by omega),oY.obj b13 (by omega)]
  ·rw[<-hi i hi']
 have next:∀(e2:a7) (h2:Heap),(∃u2:SW,h13.next<=h2.next/\(∀z,z<h5.next->h2.obj z=h10.obj z)/\SI h2 a w Q1/\SI h2 b u2 Q1/\u2.k<=u.k+1/\u2.now<=now/\u2.again=false/\(∀(i:Nat) (x y:LV),w.ls[i]? =some x->u2.ls[i]? =some y->GEq now x y)/\h2.obj hh.next=.cells [.int .i64 g,.int .i64 co,.string (bs kl),.bool pk] 48 .fix/\E3 h2 5 B8 (.slice fa (C4 q).length fcap) (C4 q) b13/\
    (∀i,i=7\/i=8\/i=10\/i=14\/i=16\/i=17\/i=18\/i=19\/i=64\/i=65\/i=66->e2 i=f i))->
   (∃d',d' <d1/\∃(o2:Nat) (u:SW),o2+d' =5/\2<=o2/\h13.next<=h2.next/\(∀z,z<h5.next->h2.obj z=h10.obj z)/\SI h2 a w Q1/\SI h2 b u Q1/\u.k<=4*j+(o2-2:Nat)/\u.now<=now/\u.again=false/\
    (∀(i:Nat) (x y:LV),w.ls[i]? =some x->u.ls[i]? =some y->GEq now x y)/\h2.obj hh.next=.cells [.int .i64 g,.int .i64 co,.string (bs kl),.bool pk] 48 .fix/\E3 h2 5 B8 (.slice fa (C4 q).length fcap) (C4 q) b13/\
    e2 7=.pointer (some ⟨h4.next,0,none⟩)/\e2 8=.pointer (some ⟨a.s,0,none⟩)/\e2 10=.pointer (some ⟨b.s,0,none⟩)/\e2 14=.int .i64 now/\e2 16=.pointer (some ⟨hh.next,0,none⟩)/\e2 17=.int .i64 rule/\e2 18=.slice fa (C4 q).length fcap/\o2=o+1/\e2 64=.slice (some ⟨bx,of,none⟩) l.length scap/\e2 65=.int .i64 l.length/\e2 66=.int .i64 j)/\e2 19=.int .i64 o:=by
  rintro e2 h2 ⟨u2,i1,i2,i3,i4,i5,i6,i7,i8,i9,i10,ie⟩
  refine⟨⟨d1-1,by omega,o+1,u2,by omega,by omega,i1,i2,i3,i4,by omega,i6,i7,i8,i9,i10,(ie 7 (by decide)).trans f7,(ie 8 (by decide)).trans f8,(ie 10 (by decide)).trans f10,(ie 14 (by decide)).trans f14,(ie 16 (by decide)).trans f16,(ie 17 (by decide)).trans f17,(ie 18 (by decide)).trans f18,rfl,(ie 64 (by decide)).trans f64,(ie 65 (by decide)).trans f65,(ie 66 (by decide)).trans f66⟩,(ie 19 (by decide)).trans f19⟩
 obtain⟨hY,hYd,oY,nY,gY⟩:=T9 hh1 (.cells [.int .i64 0,.int .i64 0,.int .u32 0,.string ⟨#[]⟩,.int .i64 0] 61 .fix) (.cells [.int .i64 o,.int .i64 rule,.int .u32 0,.string ⟨#[]⟩,.int .i64 0] 61 .fix)
 have gkY:=(oY.obj hh.next (by omega)).trans gk1
 have fin1:∀(e2:a7) (h2:Heap),(∃d',d' <d1/\∃(o2:Nat) (u:SW),o2+d' =5/\2<=o2/\h13.next<=h2.next/\(∀z,z<h5.next->h2.obj z=h10.obj z)/\SI h2 a w Q1/\SI h2 b u Q1/\u.k<=4*j+(o2-2:Nat)/\u.now<=now/\u.again=false/\
    (∀(i:Nat) (x y:LV),w.ls[i]? =some x->u.ls[i]? =some y->GEq now x y)/\h2.obj hh.next=.cells [.int .i64 g,.int .i64 co,.string (bs kl),.bool pk] 48 .fix/\E3 h2 5 B8 (.slice fa (C4 q).length fcap) (C4 q) b13/\
    e2 7=.pointer (some ⟨h4.next,0,none⟩)/\e2 8=.pointer (some ⟨a.s,0,none⟩)/\e2 10=.pointer (some ⟨b.s,0,none⟩)/\e2 14=.int .i64 now/\e2 16=.pointer (some ⟨hh.next,0,none⟩)/\e2 17=.int .i64 rule/\e2 18=.slice fa (C4 q).length fcap/\o2=o+1/\e2 64=.slice (some ⟨bx,of,none⟩) l.length scap/\e2 65=.int .i64 l.length/\e2 66=.int .i64 j)->
   (∃d',d' <d1/\∃(o2:Nat) (u:SW),o2+d' =5/\2<=o2/\h13.next<=h2.next/\(∀z,z<h5.next->h2.obj z=h10.obj z)/\SI h2 a w Q1/\SI h2 b u Q1/\u.k<=4*j+(o2-2:Nat)/\u.now<=now/\u.again=false/\
    (∀(i:Nat) (x y:LV),w.ls[i]? =some x->u.ls[i]? =some y->GEq now x y)/\h2.obj hh.next=.cells [.int .i64 g,.int .i64 co,.string (bs kl),.bool pk] 48 .fix/\E3 h2 5 B8 (.slice fa (C4 q).length fcap) (C4 q) b13/\
    e2 7=.pointer (some ⟨h4.next,0,none⟩)/\e2 8=.pointer (some ⟨a.s,0,none⟩)/\e2 10=.pointer (some ⟨b.s,0,none⟩)/\e2 14=.int .i64 now/\e2 16=.pointer (some ⟨hh.next,0,none⟩)/\e2 17=.int .i64 rule/\e2 18=.slice fa (C4 q).length fcap/\Value.int .i64 ((o+1:Nat):Int)=Value.int .i64 (o2:Int)/\e2 64=.slice (some ⟨bx,of,none⟩) l.length scap/\e2 65=.int .i64 l.length/\e2 66=.int .i64 j):=by
  rintro e2 h2 ⟨d',hd,o2,u2,i1,i2,i3,i4,i5,i6,i7,i8,i9,i10,i11,i12,j7,j8,j10,j14,j16,j17,j18,rfl,j64,j65,j66⟩
  exact⟨d',hd,_,u2,i1,i2,i3,i4,i5,i6,i7,i8,i9,i10,i11,i12,j7,j8,j10,j14,j16,j17,j18,rfl,j64,j65,j66⟩
 by_cases o2:o=2
 ·have b4:((o:Int)==2)=true:=beq_iff_eq.2 (by omega)
  obtain⟨hZ,hZd⟩:∃hZ,hZ=hY.upd hh1.next (.cells [.int .i64 o,.int .i64 rule,.int .u32 1,.string ⟨#[]⟩,.int .i64 0] 61 .fix):=⟨_,rfl⟩
  have gZ:hZ.obj hh1.next=.cells [.int .i64 o,.int .i64 rule,.int .u32 1,.string ⟨#[]⟩,.int .i64 0] 61 .fix:=by rw[hZd];exact a9 _ _ _
  have gkZ:hZ.obj hh.next=.cells [.int .i64 g,.int .i64 co,.string (bs kl),.bool pk] 48 .fix:=by rw[hZd,a6 _ _ (by omega)];exact gkY
  obtain⟨hW,hWd⟩:∃hW,hW=hZ.upd hh1.next (.cells [.int .i64 o,.int .i64 rule,.int .u32 1,.string (bs kl),.int .i64 0] 61 .fix):=⟨_,rfl⟩
  have gW' :hW.obj hh1.next=.cells [.int .i64 o,.int .i64 rule,.int .u32 1,.string (bs kl),.int .i64 0] 61 .fix:=by rw[hWd];exact a9 _ _ _
  have oW:Old hh1 hW:=⟨by rw[hWd,hZd];show hh1.next<=hY.next;omega,fun z hz=>by rw[hWd,a6 _ _ (by omega),hZd,a6 _ _ (by omega)];exact oY.obj z hz⟩
  have nW:hW.next=hY.next:=by rw[hWd,hZd];rfl
  simp(disch:=omega)only[b4A,b1X,b1Z,b2a,b6v,f7,f8,f10,f14,f16,f17,f18,f19,f64,f65,f66,b3,y6,<-hYd,b4,gkY,gY,setAt,vbz,vez,<-hZd,gkZ,gZ,<-hWd,↓l9,m9,zA,zB,zC,zD,zE,zF,zG,zH,zI,reduceCtorEq,zJ,zK,zL,zM,↓C0,↓D0,↓B7,↓A8,↓y9,↓C3,↓B2,A3,y7,↓E0,↓C1,↓C2,y5,↓A4,↓y8]
  refine ask _ hW hh1.next 1 kl oW ⟨by omega,by omega⟩ gW' ⟨by decide,by decide⟩ hkl hsz (fun h=>absurd o2 h) (fun i hi=>?_) rfl _ fun e2 h2 hx=>?_
  ·rcases hi with rfl|rfl|rfl|rfl|rfl|rfl|rfl|rfl|rfl|rfl|rfl<;>rfl
  ·obtain⟨m1,m2⟩:=next e2 h2 hx
   simp(disch:=omega)only[b1Y,m2,nx2,wo,↓l9,m9,zA,zB,zC,zD,zE,zF,zG,zH,zI,reduceCtorEq,zJ,zK,zL,zM,↓C0,↓D0,↓B7,↓A8,↓y9,↓C3,↓B2,A3,y7,↓E0,↓C1,↓C2,y5,↓A4,↓y8]
   exact fin1 e2 h2 m1
 ·have b4:((o:Int)==2)=false:=beq_eq_false_iff_ne.2 (by omega)
  simp(disch:=omega)only[b4A,b1X,b1Z,b2a,f7,f8,f10,f14,f16,f17,f18,f19,f64,f65,f66,b3,y6,<-hYd,b4,↓l9,m9,zA,zB,zC,zD,zE,zF,zG,zH,zI,reduceCtorEq,zJ,zK,zL,zM,↓C0,↓D0,↓B7,↓A8,↓y9,↓C3,↓B2,A3,y7,↓E0,↓C1,↓C2,y5,↓A4,↓y8]
  refine ask _ hY hh1.next 0 [] oY ⟨by omega,by omega⟩ gY ⟨by decide,by decide⟩ (fun x hx=>by simp at hx) (by decide) (fun _=>⟨rfl,rfl⟩) (fun i hi=>?_) rfl _ fun e2 h2 hx=>?_
  ·rcases hi with rfl|rfl|rfl|rfl|rfl|rfl|rfl|rfl|rfl|rfl|rfl<;>rfl
  ·obtain⟨m1,m2⟩:=next e2 h2 hx
   simp(disch:=omega)only[b1Y,m2,nx2,wo,↓l9,m9,zA,zB,zC,zD,zE,zF,zG,zH,zI,reduceCtorEq,zJ,zK,zL,zM,↓C0,↓D0,↓B7,↓A8,↓y9,↓C3,↓B2,A3,y7,↓E0,↓C1,↓C2,y5,↓A4,↓y8]
   exact fin1 e2 h2 m1
end Go.Proofs.YtlakhgibjfmjjaaGreat.Can
namespace Go.Proofs.YtlakhgibjfmjjaaGreat.Can
open Go
theorem f2S:c7D Tryz.prog f1w p6 Tryz.f6=some d6:=by kernel_rfl
end Go.Proofs.YtlakhgibjfmjjaaGreat.Can
namespace Go.Proofs.YtlakhgibjfmjjaaGreat.wholePeeks
open Go.ChangeShapes Go.WideShapes Go.ChangeAt Go.RowKit Go.Proofs.YtlakhgibjfmjjaaGreat.Can
open Go.ChangeMaps (open_string shut_string)
theorem own:ownKnob Tryz.prog.godebug=none:=by kernel_rfl
theorem laidOut:laidOutB Tryz.prog=true:=by kernel_rfl
theorem op3:Ar Tryz.prog 3 (Enc.int .i64) (fun x=>(Lit.int .i64 x).wf=true):=Ar.int Tryz.underlying3 (by kernel_rfl)
theorem op4:Ar Tryz.prog 4 Enc.bool (fun _=>True):=Ar.bool Tryz.underlying4 (by kernel_rfl)
theorem op23:Ar Tryz.prog 23 (Enc.pair (Enc.int .i64) (Enc.pair (Enc.int .i64) (Enc.pair (Enc.int .i64) (Enc.pair (Enc.int .i64) (Enc.pair (Enc.int .i64) (Enc.pair (Enc.int .i64) (Enc.pair (Enc.int .i64) (Enc.pair (Enc.int .i64) Enc.bool)))))))) (fun x=>((Lit.int .i64 x.1).wf=true/\(Lit.int .i64 x.2.1).wf=true/\(Lit.int .i64 x.2.2.1).wf=true/\(Lit.int .i64 x.2.2.2.1).wf=true/\(Lit.int .i64 x.2.2.2.2.1).wf=true/\(Lit.int .i64 x.2.2.2.2.2.1).wf=true/\(Lit.int .i64 x.2.2.2.2.2.2.1).wf=true/\(Lit.int .i64 x.2.2.2.2.2.2.2.1).wf=true/\True)):=Ar.struct Tryz.underlying23 (by kernel_rfl) (Ar.fsCons op3 (Ar.fsCons op3 (Ar.fsCons op3 (Ar.fsCons op3 (Ar.fsCons op3 (Ar.fsCons op3 (Ar.fsCons op3 (Ar.fsCons op3 (Ar.fsOne op4)))))))))
theorem op78:Ar Tryz.prog 78 (Enc.int .u64) (fun x=>(Lit.int .u64 x).wf=true):=Ar.int Tryz.underlying78 (by kernel_rfl)
theorem op2:Ar Tryz.prog 2 (Enc.int .i64) (fun x=>(Lit.int .i64 x).wf=true):=Ar.int Tryz.underlying2 (by kernel_rfl)
theorem op9:Ar Tryz.prog 9 Enc.str (fun x=>x.size<=maxLen):=Ar.str Tryz.underlying9 (by kernel_rfl)
theorem op48:Ar Tryz.prog 48 (Enc.pair (Enc.int .i64) (Enc.pair (Enc.int .i64) (Enc.pair Enc.str Enc.bool))) (fun x=>((Lit.int .i64 x.1).wf=true/\(Lit.int .i64 x.2.1).wf=true/\x.2.2.1.size<=maxLen/\True)):=Ar.struct Tryz.underlying48 (by kernel_rfl) (Ar.fsCons op2 (Ar.fsCons op2 (Ar.fsCons op9 (Ar.fsOne op4))))
set_option maxRecDepth 100000 in
theorem lifted(os:Os)(started:os.Started)(H:Type)(enc:TypeId×Value->H):
  ReturnsInHanded {} Tryz.checked os 6 .any (Rows.wholePeeksSpec.pre6 enc Tryz.prog Tryz.f6 Rows.wholePeeksRow.domain false) (Rows.wholePeeksSpec.post enc Tryz.prog Tryz.f6 false true false false):=by
 refine returnsInHanded_of_change_sized (C:=Tryz.checked) own started (by kernel_rfl) Tryz.func6
  (ChangeSpec.witness6 (enc:=enc) (C:=Tryz.checked) false ⟨#[],#[.slice none 0 0,.slice none 0 0,.slice none 0 0],[]⟩ 8 (by kernel_rfl) (by kernel_rfl) (by kernel_rfl) (by kernel_rfl)) ?_
 intro W base args ds gs before hval0 hW hcnd hsz0 _
 have hsz:(DataW.weightsEach Tryz.prog (Tryz.f6.params.toList++Rows.wholePeeksSpec.plain.varTypes Tryz.prog) (ds++gs)).all (· <=reachBytes)=true:=hsz0
 have hval:∀(j:Nat) t v,Tryz.f6.params[j]? =some t->args[j]? =some v->Value.okWide Tryz.prog W .any base t v:=hval0
 have hW' :=hW
 obtain⟨p,q,hA0,hV,rfl,hfz,hnd⟩:=hW
 have hA:DataW.TrodAll enc Tryz.prog W 0 (fun _=>true) true Tryz.f6.params.toList args.toList ds p:=hA0
 rw[Tryz.params6]at hA hval hsz
 obtain⟨v0,vs0,d0,ds0,p0,q0,hargs,rfl,rfl,h0,r0⟩:=trodAll_cons hA
 obtain⟨v1,vs1,d1,ds1,p1,q1,rfl,rfl,rfl,h1,r1⟩:=trodAll_cons r0
 obtain⟨v2,vs2,d2,ds2,p2,q2,rfl,rfl,rfl,h2,r2⟩:=trodAll_cons r1
 obtain⟨rfl,rfl,rfl⟩:=trodAll_nil r2
 obtain rfl:args= #[v0,v1,v2]:=by cases args;simp_all
 obtain⟨rfl,rfl⟩:=trodVars_none hV
 obtain⟨a0,len0,cap0,rfl⟩:=okWide_slice Tryz.underlying32 (hval 0 32 v0 rfl rfl)
 have hb0:=W0 Tryz.underlying32 (hval 0 32 _ rfl rfl)
 have k0:=h0
 have lt0:∀x∈p0,x.block<W.heap.size:=by obtain⟨m,hm⟩:=k0;exact DataW.trod_lt m _ _ _ hm
 obtain⟨l0,u0,hS0,hR0,hl0,hc0,hm0,hg0⟩:=a3k Tryz.underlying32 op23 (by decide) hb0 h0
 obtain⟨a1,len1,cap1,rfl⟩:=okWide_slice Tryz.underlying24 (hval 1 24 v1 rfl rfl)
 have hb1:=W0 Tryz.underlying24 (hval 1 24 _ rfl rfl)
 have k1:=h1
 have lt1:∀x∈p1,x.block<W.heap.size:=by obtain⟨m,hm⟩:=k1;exact DataW.trod_lt m _ _ _ hm
 obtain⟨l1,u1,hS1,hR1,hl1,hc1,hm1,hg1⟩:=a3k Tryz.underlying24 op78 (by decide) hb1 h1
 obtain⟨a2,len2,cap2,rfl⟩:=okWide_slice Tryz.underlying25 (hval 2 25 v2 rfl rfl)
 have hb2:=W0 Tryz.underlying25 (hval 2 25 _ rfl rfl)
 have k2:=h2
 have lt2:∀x∈p2,x.block<W.heap.size:=by obtain⟨m,hm⟩:=k2;exact DataW.trod_lt m _ _ _ hm
 obtain⟨l2,u2,hS2,hR2,hl2,hc2,hm2,hg2⟩:=a3k Tryz.underlying25 op48 (by decide) hb2 h2
 clear hA0 hval0 hsz0 hsz
 refine(b6K d9K c9G Tryz.func6 f2S (wholePeeks_law (Y0 W) u0 l0 hS0 (by omega) hg0 u1 l1 hS1 (by omega) hg1 u2 l2 hS2 (by omega) hg2) (VL.cons hR0 (VL.cons hR1 (VL.cons hR2 (VL.nil _)))) (Emb.id Tryz.prog W) (b6H Tryz.prog W)).mono fun e W' ⟨he,bel⟩=>?_
 subst he
 exact⟨_,rfl,_,_,_,[],_,[],hW',trodAll_mk1 (shut_bool Tryz.underlying4 _),(trodAll_cons_mk (Below.trod laidOut (by kernel_rfl) (of_decide_eq_true (by kernel_rfl)) k0 bel lt0) (trodAll_cons_mk (Below.trod laidOut (by kernel_rfl) (of_decide_eq_true (by kernel_rfl)) k1 bel lt1) (trodAll_cons_mk (Below.trod laidOut (by kernel_rfl) (of_decide_eq_true (by kernel_rfl)) k2 bel lt2) trodAll_mk0))),rfl,bel.frame _,fun h=>by cases h⟩
theorem over:Rows.wholePeeksRow.holds Tryz.pinned (OpenSpec.ofChange Rows.wholePeeksSpec):=
 OpenClaim.holds_of_wide 6 Tryz.f6 rfl rfl rfl rfl rfl rfl rfl ⟨rfl,rfl,rfl,rfl,rfl⟩ rfl rfl rfl rfl rfl (by kernel_rfl) Tryz.func6 (by kernel_rfl)
  (of_decide_eq_true (by kernel_rfl)) (by unfold Func.isWrapper;first| (rw[if_pos (by decide+kernel)];kernel_rfl)| (rw[if_neg (by decide+kernel)];exact⟨rfl,rfl⟩))
  (fun os started H enc _=>lifted os started H enc)
theorem proved:Rows.WholePeeksSaid:=over
end Go.Proofs.YtlakhgibjfmjjaaGreat.wholePeeks
namespace Go.Proofs.YtlakhgibjfmjjaaGreat
theorem wholePeeks_holds:Rows.WholePeeksSaid:=wholePeeks.proved
end Go.Proofs.YtlakhgibjfmjjaaGreat
