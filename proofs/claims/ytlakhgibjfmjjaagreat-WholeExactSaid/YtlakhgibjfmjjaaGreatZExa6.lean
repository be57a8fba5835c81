/- Part 6 of 6 of the proof of the row RowWholeExact: whatever the input, the law returns true. No condition. -/
import Derived.Test.YtlakhgibjfmjjaaGreatZExa5
import Derived.Below
import Derived.ChangeOld
import Derived.KernelRfl
import Derived.Maps.RangeRun
import Derived.OpenShut
import Derived.ProofKit
import Derived.ShutString
import Derived.SizedLaws
import Derived.Test.YtlakhgibjfmjjaaGreatProg
import Derived.Test.YtlakhgibjfmjjaaGreatRows
import Derived.WalkKit
set_option linter.unusedSimpArgs false
set_option linter.unusedVariables false
set_option linter.defProp false
set_option maxHeartbeats 4000000
open Nat renaming reduceEqDiff → zA, reduceAdd → zB, reduceMul → zC, reduceSub → zD, reduceLT → zE, reduceLeDiff → zF, reduceBEq → zG, lt_of_lt_of_le → yN, le_refl → yP, le_trans → yR, mul_one → yS
open Int renaming reduceLT → zH, reduceLE → zI, reduceToNat → zJ, reduceAdd → zK, reduceSub → zL, reduceMul → zM, reduceBEq → zN, mul_nonneg → yO, le_refl → yQ
open Option renaming some.inj → yA, some.injEq → yC, map_eq_some_iff → yD
open Prod renaming mk.injEq → yB
open List renaming getElem?_eq_some_iff → yE, getElem?_eq_getElem → yF, length_append → yG, getElem?_set_self → yH, getElem?_set_ne → yI, getElem?_map → yJ, mem_of_getElem? → yK, length_map → yL, length_cons → yM
namespace Go.Proofs.YtlakhgibjfmjjaaGreat.Can
open Go
attribute [local congr] s9 u4 l7 l6 m9 s7 r8 u9 u6
theorem c6l(op ver rem ret:Int)(hop:0<=op/\op<128)(hv:0<=ver/\ver<256):I1 (Y1 op ver rem ret):=fun x hx=>by
 rw[b7j]at hx
 simp only[List.mem_cons]at hx
 rcases hx with rfl|rfl|rfl|rfl|rfl|hx
 iterate 5 omega
 unfold Z0 at hx
 rcases List.mem_cons.1 hx with rfl|hx
 ·omega
 ·exact((W4 _).app (W4 _)) x hx
theorem b2H{B now held cost ver ret:Int}(h:H8 B now held cost=some (ver,ret)):2<=ver/\ver<=3:=by
 unfold H8 at h
 split at h
 ·cases h;omega
 ·split at h
  ·cases h;omega
  ·split at h
   ·cases h;omega
   ·cases h
theorem a4U(R:RuleV)(rp:RP)(v:LV)(now held:Int)(key:ByteArray)(cost:Int):1<=(D0 R rp v now held key cost).1.1/\(D0 R rp v now held key cost).1.1<=3:=by
 unfold D0
 split
 ·rename_i hr
  have:=b2H hr
  exact⟨Int.le_trans (by decide) this.1,this.2⟩
 ·have h1:(1:Int)<=1/\(1:Int)<=3:=by decide
  have h2:(1:Int)<=2/\(2:Int)<=3:=by decide
  simp only
  split
  ·split
   ·exact h1
   ·exact h2
  ·split
   ·exact h1
   ·exact h2
theorem b3T(R:RuleV)(rp:RP)(v:LV)(now:Int)(key:ByteArray):(H1 R rp v now key).2.1.length<=2:=by
 unfold H1
 split
 ·exact Nat.zero_le _
 ·split
  ·exact Nat.le_succ _
  ·split
   ·exact Nat.zero_le _
   ·split
    ·exact Nat.zero_le _
    ·exact yP _
theorem b0l(R:RuleV)(rp:RP)(v:LV)(now held:Int)(key:ByteArray)(cost:Int):(D0 R rp v now held key cost).2.1.length<=2:=by
 unfold D0
 split
 ·exact Nat.zero_le _
 ·simp only
  split
  ·split<;>exact b3T _ _ _ _ _
  ·split<;>exact b3T _ _ _ _ _
section
variable {h:Heap} {a:LA} {v:LV}
theorem c5Y(L:Lmt h a v){k tm:Int}(B:LB k tm v)(hk:k+1<=1000000000){now held cost:Int}(hnow:0<=now/\now<=tm){key:ByteArray}(hs:key.size<=64){Q:Value->Heap->Prop}
  (hQ:∀h' ev,OldF a.own h h' ->Lmt h' a (D0 a.R a.rp v now held key cost).2.2->e2z h h' ev (D0 a.R a.rp v now held key cost).2.1->
   Q (.tuple #[.agg #[.int .i64 (D0 a.R a.rp v now held key cost).1.1,.int .i64 (D0 a.R a.rp v now held key cost).1.2.1,.int .i64 (D0 a.R a.rp v now held key cost).1.2.2],ev]) h'):
  u5 cp 120 [.pointer (some ⟨a.p,0,none⟩),.int .i64 now,.int .i64 held,.string key,.int .i64 cost] h Q:=by
 cases hr:H8 a.R.B now held cost with
 |none=>exact d0V L B hk hnow hs hr hQ
 |some x=>
  obtain⟨ver,ret⟩:=x
  have e:D0 a.R a.rp v now held key cost=((ver,0,ret),[],v.cnt ver):=by unfold D0;rw[hr]
  rw[e]at hQ
  have inL:a.own a.p:=by
   have:=L.geo.il
   have:=L.geo.ib
   unfold LA.own;omega
  exact a7a L now held cost key hr fun h' o L' =>hQ h' _ (o.f inL) L' (.inl ⟨rfl,rfl⟩)
end
def e0b(L:LA)(l:LimV)(v:LV):Prop:=∀h,LimAt h L l->Lmt h L v
theorem Lmt.rel{h:Heap}{L:LA}{v:LV}(M:Lmt h L v):∃l,LimAt h L l/\e0b L l v:=by
 obtain⟨tp,tu,os,ws,A,back⟩:=M.toAt
 exact⟨_,A,fun h' A' =>back h' v rfl rfl A'⟩
def evO(i:Int)(l:List EvT'):List EvT:=l.map fun e=>(i,e.2)
section
variable {h h' :Heap} {a:SrvA} {v:SrvV} {ev:Value} {ex:Option Nat}
def SrvA.ansF(a:SrvA)(N:Nat):Nat->Prop:=fun z=>z=a.s\/(∃(i:Nat) (L:LA),a.las[i]? =some L/\L.own z)\/(N<=z/\¬a.own none z)
def a5x(a:SrvA)(N:Nat)(evs:List EvT)(ev:Value)(eb:Nat):Prop:=evs=[]/\ev=.slice none 0 0\/¬a.own none eb/\N<=eb
theorem c6C(S:SrvAt h a v ev ex)(tv:v.T){q:ReqV}(rq:ReqOK a.las.length q)(hop:q.op=1){L:LA}{l:LimV}{x:LV}(hL:a.las[q.rule.toNat]? =some L)(hl:v.ls[q.rule.toNat]? =some l)(hx:e0b L l x)
  {k tm:Int} (B:LB k tm x) (hk:k+1<=1000000000) (hnow:0<=v.now/\v.now<=tm) {evs:List EvT} {eb N:Nat} (V:H0 h 123 EvE ev evs eb) (he:a5x a N evs ev eb) (hel:evs.length<=2000000000) (hN:N<=h.next) (hown:∀z,a.own none z->z<h.next)
  {r:(Int×Int×Int)×List EvT' ×LV} (hr:r=D0 L.R L.rp x v.now (a1B v.now v.first v.again L.R.Wd) (bs q.key) q.cost) {Q:Value->Heap->Prop}
  (hQ:∀h' ev' eb' l' u b,OldF (a.ansF N) h h' ->SrvAt h' a { v with ls:=v.ls.set q.rule.toNat l' } ev' ex->e0b L l' r.2.2->H0 h' 123 EvE ev' (evs++evO q.rule r.2.1) eb' ->a5x a N (evs++evO q.rule r.2.1) ev' eb' ->
   H0 h' 5 B8 u (Y1 1 r.1.1 r.1.2.1 r.1.2.2) b->h.next<=b->Q u h'):
  u5 cp 117 [.pointer (some ⟨a.s,0,none⟩),q.val] h Q:=by
 rw[b8 cp e5V]
 have r1:=rq.rule
 obtain⟨i,hi⟩:∃i:Nat,q.rule=i:=⟨q.rule.toNat,by omega⟩
 rw[hi,Int.toNat_natCast]at hL hl hQ
 have il:i<a.las.length:=(List.getElem?_eq_some_iff.1 hL).1
 obtain⟨h1,h1d,o1,n1,g1⟩:=M5 h (.cells [.int .i64 1,.int .i64 i,.int .u32 q.cost,.string (bs q.key),.int .i64 q.k] 61 .fix)
 have S1:=S.old o1
 have os:=S1.os
 have L1:=hx _ (S1.L i L l hL hl)
 have ok:=L1.geo.ok
 have okW:=ok.Wd
 obtain⟨cap,hv,hrd⟩:=S1.K.read (i:=i) (x:=L.R.t) (by rw[yJ,hL];rfl)
 rw[yL]at hv
 have hgw:(h1.obj a.kb).get (i*9+1)=some (.int .i64 L.R.Wd):=by
  have:=a5d (i:=1) hrd (by decide) (v:=.int .i64 L.R.Wd) rfl
  rwa [Nat.zero_add]at this
 obtain⟨cap2,hv2,hrb,hgp⟩:=S1.W.get (i:=i) (p:=L.p) (by rw[yJ,hL];rfl)
 rw[yL]at hv2
 have hgp:(h1.obj a.rb).get i=some (.pointer (some ⟨L.p,0,none⟩)):=hgp
 have fN:=fun Q=>c6B os Q
 have fH:=fun Q=>b6h os L.R.Wd (by unfold C0;omega) (by omega) tv.first tv.now Q
 obtain⟨held,hheld⟩:∃held,held=a1B v.now v.first v.again L.R.Wd:=⟨_,rfl⟩
 rw[<-hheld]at fH hr
 have os0:=os
 rw[hv,hv2]at os
 have wc:IntKind.i64.wrap q.cost=q.cost:=by have:=rq.cost;rw[Q4];omega
 have ks:(bs q.key).size<=64:=by rw[a4t];exact rq.len
 unfold ReqV.val a2B
 rw[hi,hop]
 simp(disch:=omega)only[b0X,↓c7y,<-h1d,g1,os,hgw,hgp,fN,fH,wc,zN,yS,↓l8,l9,zA,zB,zC,zD,zE,zF,zG,zH,zI,reduceCtorEq,zJ,zK,zL,zM]
 refine c5Y L1 B hk hnow ks fun h2 ce o2 L2 E2=>?_
 rw[<-hr]at L2 E2 ⊢
 obtain⟨⟨ver,rem,ret⟩,rl,x'⟩:=r
 have hver:1<=ver/\ver<=3:=by
  have:=a4U L.R L.rp x v.now held (bs q.key) q.cost
  rw[<-hr]at this;exact this
 have hrl:rl.length<=2:=by
  have:=b0l L.R L.rp x v.now held (bs q.key) q.cost
  rw[<-hr]at this;exact this
 simp only at L2 E2 hQ ⊢
 have n2:=o2.next
 obtain⟨l',A2,hx'⟩:=L2.rel
 have ownL:∀z,L.own z->z<h.next:=fun z hz=>yN hz.2 (S.L i L l hL hl).lt
 have S2:=S1.upL hL o2 A2
 have g2:=(o2.obj h.next (by omega) (fun hz=>by have:=ownL _ hz;omega)).trans g1
 obtain⟨h3,h3d,o3,n3,q3⟩:=Y0 h2 (.cells [.int .i64 0,.int .i64 0,.int .i64 0] 55 .fix) (.cells [.int .i64 ver,.int .i64 rem,.int .i64 ret] 55 .fix)
 have g3:=(o3.obj h.next (by omega)).trans g2
 have S3:=S2.old o3
 have eL:∀z,¬a.own none z->¬L.own z:=fun z hz hL' =>hz (.inr (.inr (.inr (.inr (.inr ⟨i,L,hL,hL'⟩)))))
 have V3:H0 h3 123 EvE ev evs eb:=by
  rcases he with⟨e1,e2⟩| ⟨e1,e2⟩
  ·rw[e1,e2];exact H0.nil _ _ _ _
  ·refine V.keep (by omega) fun hlb=>?_
   rw[o3.obj eb (by omega),o2.obj eb (by omega) (eL eb e1),o1.obj eb hlb]
 have oF3:OldF (a.ansF N) h h3:=((o1.f _).trans (o2.mono fun z hz=> .inr (.inl ⟨i,L,hL,hz⟩))).trans (o3.f _)
 obtain⟨ca,hce,hcr⟩:∃ca,ce=.slice ca rl.length rl.length/\∀(j:Nat) (e:EvT'),rl[j]? =some e->∃b,ca=some ⟨b,0,none⟩/\h.next<b/\b<h2.next/\(h2.obj b).read (j*4) 4=some (EvE'.enc e):=by
  rcases E2 with⟨e1,e2⟩| ⟨b,b1,b2,e1,e2⟩
  ·subst e1;exact⟨none,e2,fun j e hj=>by simp at hj⟩
  ·refine⟨_,e1,fun j e hj=>⟨b,rfl,by omega,b2,?_⟩⟩
   have V' :H0 h2 123 EvE' (.slice (some ⟨b,0,none⟩) rl.length rl.length) rl b:=.inr ⟨rl.length,[],rfl,b2,by rw[List.append_nil];exact e2,by simp,yP _⟩
   obtain⟨_,_,hh⟩:=V'.read hj
   rw[Nat.zero_add]at hh;exact hh
 subst hce
 simp(disch:=omega)only[b0X,↓c7y,<-h3d,q3,g3,↓l8,l9,zA,zB,zC,zD,zE,zF,zG,zH,zI,reduceCtorEq,zJ,zK,zL,zM]
 refine z7 cp a2o _ (fun d e hh=>∃(j:Nat) (ev' :Value) (eb' :Nat),j+d=rl.length/\OldF (a.ansF N) h hh/\h3.next<=hh.next/\(∀z,h.next<=z->z<h3.next->hh.obj z=h3.obj z)/\SrvAt hh a { v with ls:=v.ls.set i l' } ev' ex/\H0 hh 123 EvE ev' (evs++evO i (rl.take j)) eb' /\a5x a N (evs++evO i (rl.take j)) ev' eb' /\(ev' =.slice none 0 0\/eb' <h.next\/h3.next<=eb')/\
   e 0=.pointer (some ⟨a.s,0,none⟩)/\e 3=.pointer (some ⟨h.next,0,none⟩)/\e 8=.pointer (some ⟨h2.next,0,none⟩)/\e 54=.slice ca rl.length rl.length/\e 55=.int .i64 (rl.length:Int)/\e 56=.int .i64 (j:Int)) ?_ rl.length _ _
   ⟨0,ev,eb,by omega,oF3,yP _,fun z _ _=>rfl,S3,by rw[List.take_zero];show H0 _ _ _ _ (evs++[]) _;rw[List.append_nil];exact V3,by rw[List.take_zero];show a5x _ _ (evs++[]) _ _;rw[List.append_nil];exact he,?_,rfl,rfl,rfl,rfl,rfl,rfl⟩
 rotate_left
 ·rcases V with⟨e1,_⟩| ⟨_,_,_,e1,_⟩
  ·exact .inl e1
  ·exact .inr (.inl e1)
 rintro d e hh ⟨j,ev',eb',hj,oh,nh,kh,Sh,Vh,fh,hebb,e0,e3,e8,e54,e55,e56⟩
 have ohn:=oh.next
 have q4:=(kh h2.next (by omega) (by omega)).trans q3
 have g4:=(kh h.next (by omega) (by omega)).trans g3
 by_cases cj:j<rl.length
 rotate_left
 ·have b1:decide ((j:Int)<(rl.length:Int))=false:=decide_eq_false (by omega)
  obtain rfl:j=rl.length:=by omega
  simp(disch:=omega)only[a2o,b0X,↓c7y,e0,e3,e8,e54,e55,e56,b1,q4,g4,↓l8,l9,zA,zB,zC,zD,zE,zF,zG,zH,zI,reduceCtorEq,zJ,zK,zL,zM]
  refine b3R hh 1 (.inl rfl) ver rem ret (by omega) fun h4 u b V4 o4 hb=>?_
  simp(disch:=omega)only[b0X,↓c7y,↓l8,l9,zA,zB,zC,zD,zE,zF,zG,zH,zI,reduceCtorEq,zJ,zK,zL,zM]
  rw[List.take_length]at Vh fh
  exact hQ h4 ev' eb' l' u b (oh.trans (o4.f _)) (Sh.old o4) hx' (Vh.old o4) fh V4 (by omega)
 have b1:decide ((j:Int)<(rl.length:Int))=true:=decide_eq_true (by omega)
 have hxe:rl[j]? =some rl[j]:=yF cj
 obtain⟨y,hy⟩:∃y,y=rl[j]:=⟨_,rfl⟩
 rw[<-hy]at hxe
 obtain⟨b,hca,hb1,hb2,hbr⟩:=hcr j y hxe
 have hbr:(hh.obj b).read (j*4) 4=some (EvE'.enc y):=by rw[kh b (by omega) (by omega),o3.obj b hb2];exact hbr
 obtain⟨y1,y2,y3,y4⟩:=y
 have hbr:(hh.obj b).read (j*4) 4=some [.int .i64 y1,.string y2,.bool y3,.int .i64 y4]:=hbr
 subst hca
 obtain⟨ea,ecap,rfl,_⟩:=Vh.val
 have osh:=Sh.os
 have lsh:=Sh.ls
 have nx:(j:Int)+1=((j+1:Nat):Int):=by omega
 have wj:IntKind.i64.wrap ((j+1:Nat):Int)=((j+1:Nat):Int):=by rw[Q4];omega
 have tj:evs++evO i (rl.take (j+1))=(evs++evO i (rl.take j))++[((i:Int),y2,y3,y4)]:=by
  rw[I8 hxe];unfold evO;rw[List.map_append,List.append_assoc];rfl
 obtain⟨h4,h4d⟩:∃h4,h4=((hh.new (.cells [.int .i64 0,.string ⟨#[]⟩,.bool false,.int .i64 0] 123 .fix)).upd hh.next (.cells [.int .i64 y1,.string y2,.bool y3,.int .i64 y4] 123 .fix)).upd hh.next (.cells [.int .i64 i,.string y2,.bool y3,.int .i64 y4] 123 .fix):=⟨_,rfl⟩
 have o4:Old hh h4:=by rw[h4d];exact⟨Nat.le_succ _,fun z hz=>by rw[a6 _ _ (by omega),a6 _ _ (by omega),j0 _ _ (by omega)]⟩
 have n4:h4.next=hh.next+1:=by rw[h4d];rfl
 have p4:h4.obj hh.next=.cells [.int .i64 i,.string y2,.bool y3,.int .i64 y4] 123 .fix:=by rw[h4d];exact f7 _ _ _
 have os4:=(o4.obj a.s lsh).trans osh
 obtain⟨h5,h5d,o5,n5,_⟩:=M5 h4 (.cells [.int .i64 i,.string y2,.bool y3,.int .i64 y4] 123 .grow)
 have src5:C3 h5 4 (.slice (some ⟨h4.next,0,none⟩) 1 1)=some (EvE.all [((i:Int),y2,y3,y4)],[((i:Int),y2,y3,y4)].length):=by
  rw[h5d];exact Y9 EvE h4 ((i:Int),y2,y3,y4) _ 1
 have V5:=(Vh.old o4).old o5
 have g4' :=(o4.obj h.next (by omega)).trans g4
 simp(disch:=omega)only[a2o,b0X,↓c7y,e0,e3,e8,e54,e55,e56,b1,q4,g4,hbr,v8,<-h4d,p4,g4',os4,G9,List.append_nil,↓l8,l9,zA,zB,zC,zD,zE,zF,zG,zH,zI,reduceCtorEq,zJ,zK,zL,zM]
 rw[<-h5d]
 have hlen:(evs++evO i (rl.take j)).length<=2000000002:=by
  unfold evO
  rw[yG,yL,List.length_take];omega
 have s0:(evs++evO i (rl.take j)).length+[((i:Int),y2,y3,y4)].length=(evs++evO i (rl.take j)).length+1:=rfl
 obtain⟨eb2,V5,fr,fr2⟩:∃eb2,H0 h5 123 EvE (.slice ea (evs++evO i (rl.take j)).length ecap) (evs++evO i (rl.take j)) eb2/\(¬a.own none eb2/\N<=eb2)/\(eb2<h.next\/h3.next<=eb2):=by
  rcases fh with⟨e1,e2⟩|e
  ·rw[e1]at e2 ⊢
   rw[e2]
   exact⟨h5.next,H0.nil _ _ _ _,⟨fun hz=>by have:=hown _ hz;omega,by omega⟩,.inr (by omega)⟩
  ·rcases hebb with hebb|hebb
   ·rw[hebb]
    rcases V5 with⟨e1,e2⟩| ⟨_,_,e1,_⟩
    ·rw[e2]
     exact⟨h5.next,H0.nil _ _ _ _,⟨fun hz=>by have:=hown _ hz;omega,by omega⟩,.inr (by omega)⟩
    ·rw[e1]at hebb;simp at hebb
   ·exact⟨eb',V5,e,hebb⟩
 refine V5.app (m:=[((i:Int),y2,y3,y4)]) rfl src5 (by rw[s0];omega) (by rw[s0];omega) fun v6 h6 b6 V6 n6 hb6 ho6=>?_
 rw[<-tj]at V6
 have own0:∀z,a.own ex z->a.own none z:=fun z hz=>by
  rcases hz with hz|hz|hz|hz| ⟨i,A',he,hA2,hz⟩|hz
  ·exact .inl hz
  ·exact .inr (.inl hz)
  ·exact .inr (.inr (.inl hz))
  ·exact .inr (.inr (.inr (.inl hz)))
  ·exact .inr (.inr (.inr (.inr (.inl ⟨i,A',by simp,hA2,hz⟩))))
  ·exact .inr (.inr (.inr (.inr (.inr hz))))
 have ne6:∀z,a.own none z->z<h5.next->h6.obj z=h5.obj z:=fun z hz hl=>ho6 z hl (.inr fun e=>fr.1 (e▸hz))
 have S6:SrvAt h6 a { v with ls:=v.ls.set i l' } (.slice ea (evs++evO i (rl.take j)).length ecap) ex:=((Sh.old o4).old o5).keep n6 fun z hz hl=>ne6 z (own0 z hz) hl
 have os6:=S6.os
 have sown:a.own none a.s:=.inl rfl
 have hfree:¬a.own none b6/\N<=b6:=by
  rcases hb6 with rfl|hb6
  ·exact fr
  ·exact⟨fun hz=>by have:=hown _ hz;omega,by omega⟩
 have hb7:b6<h.next\/h3.next<=b6:=by
  rcases hb6 with rfl|hb6
  ·exact fr2
  ·exact .inr (by omega)
 have aslt:=hown _ sown
 have bne:b6≠a.s:=fun e=>hfree.1 (by rw[e];exact sown)
 obtain⟨va6,vc6,rfl,_⟩:=V6.val
 obtain⟨h7,h7d⟩:∃h7,h7=h6.upd a.s (.cells (O1 v.now v.first v.again v.read a.bu a.cas.length a.ou a.crv a.cv a.rv (.slice va6 (evs++evO i (rl.take (j+1))).length vc6)) 93 .fix):=⟨_,rfl⟩
 have o7:OldX a.s h6 h7:=by rw[h7d];exact OldX.upd _ _ _
 have n7:h7.next=h6.next:=by rw[h7d];rfl
 have g7:h7.obj a.s=.cells (O1 v.now v.first v.again v.read a.bu a.cas.length a.ou a.crv a.cv a.rv (.slice va6 (evs++evO i (rl.take (j+1))).length vc6)) 93 .fix:=by rw[h7d];exact f7 _ _ _
 have S7:=S6.upS o7 g7
 simp(disch:=omega)only[a2o,b0X,↓c7y,e0,e3,e8,e54,e55,e56,os6,nx,wj,v8,<-h7d,↓l8,l9,zA,zB,zC,zD,zE,zF,zG,zH,zI,reduceCtorEq,zJ,zK,zL,zM]
 refine⟨d-1,by omega,j+1,_,b6,by omega,?_,by omega,fun z z1 z2=>?_,S7,V6.keep (by omega) fun hl=>o7.obj b6 hl bne,.inr hfree,.inr hb7,?_⟩
 ·refine oh.trans ⟨by omega,fun z hz hn=>?_⟩
  have z1:z≠a.s:=fun e=>hn (.inl e)
  rw[h7d,a6 _ _ z1,ho6 z (by omega) (.inr fun e=>hn (.inr (.inr (e▸⟨fr.2,fr.1⟩)))),o5.obj z (by omega),o4.obj z hz]
 ·rw[h7d,a6 _ _ (by omega),ho6 z (by omega) (.inr (by omega)),o5.obj z (by omega),o4.obj z (by omega)]
  exact kh z z1 z2
 ·repeat' first|assumption|rfl|apply And.intro
end
structure SW where
 now:Int
 first:Int
 again:Bool
 read:Bool
 cs:List CV
 ls:List LV
 k:Int
structure SRel(a:SrvA)(w:SW)(v:SrvV):Prop where
 now:v.now=w.now
 first:v.first=w.first
 again:v.again=w.again
 read:v.read=w.read
 cs:v.cs=w.cs
 len:w.ls.length=v.ls.length
 rel:∀(i:Nat) (L:LA) (l:LimV) (x:LV),a.las[i]? =some L->v.ls[i]? =some l->w.ls[i]? =some x->e0b L l x
structure SB(w:SW):Prop where
 now:0<=w.now/\w.now<=1000000000
 first:0<=w.first/\w.first<=1000000000
 k:0<=w.k/\w.k<=1000000000
 lb:∀x∈w.ls,LB w.k 1000000000 x
def WV(a:SrvA)(st:SW×List EvT)(s:SrvV×List EvT):Prop:=SRel a st.1 s.1/\SB st.1/\(st.2.length:Int)<=2*st.1.k/\s.2=st.2
def SW.rd(w:SW)(r:Int):SW:={ w with now:=max (max w.now r) 0,first:=if w.read then w.first else max (max w.now r) 0,read:=true }
def b1S(R:RuleV)(rp:RP)(v:LV)(now held:Int)(q:ReqV):(Int×Int×Int)×List EvT' ×LV:=D0 R rp v now held (bs q.key) q.cost
def a1p(las:List LA)(st:SW×List EvT)(q:ReqV):(SW×List EvT)×List Int:=
 match las[q.rule.toNat]?,st.1.ls[q.rule.toNat]? with
 |some L,some v=>
  let r:=b1S L.R L.rp v st.1.now (a1B st.1.now st.1.first st.1.again L.R.Wd) q
  (({ st.1 with ls:=st.1.ls.set q.rule.toNat r.2.2,k:=st.1.k+1 },st.2++evO q.rule r.2.1),Y1 1 r.1.1 r.1.2.1 r.1.2.2)
 |_,_=>(st,[])
def a0P(las:List LA)(st:SW×List EvT)(q:ReqV):Int:=match las[q.rule.toNat]? with|some L=>b3U q.op q.k L.R.T|none=>22
def okW(st:SW×List EvT)(q:ReqV):Prop:=q.op=1/\st.1.k+1<=1000000000
theorem RP.geo{a:LA}{nx:Nat}(g:LGeo a nx):1<=a.rp.W/\a.rp.N<=65:=by
 have ok:=g.ok
 have hS:=ok.S
 have hWd:=ok.Wd
 have e:=Int.mul_ediv_add_emod a.R.Wd (a.R.S:Int)
 rw[ok.Sd,Int.add_zero]at e
 have h0:0<=a.R.Wd / (a.R.S:Int):=Int.ediv_nonneg (by omega) (by omega)
 have h1:=g.gW
 have h2:=g.gN
 refine⟨?_,by omega⟩
 rcases Int.lt_or_eq_of_le h0 with h|h
 ·omega
 ·rw[<-h,Int.mul_zero]at e;omega
theorem b6b{a:SrvA}{k:Nat}{A:CA}(hA:a.cas[k]? =some A)(hAr:A.rr=a.las.length)(hap:∀z,A.own z->z≠a.s/\∀(i:Nat) (L:LA),a.las[i]? =some L->¬L.own z)(N:Nat):
  Host (SW×List EvT) a.s (a.ansF N) A (fun hh st=>∃s,HI a k N hh s/\WV a st s) okW (a0P a.las) (a1p a.las) where
 keep:=fun⟨s,I,W⟩ o=>⟨s,I.keep hA o,W⟩
 most_ok:=fun {h st q Q} I rq hq hQ=>by
  obtain⟨s,⟨nn,ev,eb,S,V,e⟩,W⟩:=I
  rw[hAr]at rq
  have r1:=rq.rule
  have il:q.rule.toNat<a.las.length:=by omega
  have hl:=yF il
  obtain⟨l,hll⟩:∃l,s.1.ls[q.rule.toNat]? =some l:=⟨_,yF (by rw[S.ll];exact il)⟩
  refine d7v S rq hl (S.L _ _ l hl hll).ok fun h' o=>?_
  have e:a0P a.las st q=b3U q.op q.k (a.las[q.rule.toNat]).R.T:=by unfold a0P;rw[hl]
  rw[<-e]
  exact hQ h' o
 ans_ok:=fun {h st q Q} I rq hq hQ=>by
  obtain⟨⟨sv,evs⟩,⟨nn,ev,eb,S,V,e⟩,W⟩:=I
  obtain⟨Wr,Wb,We,Ws⟩:=W
  simp only at S V e Wr Ws
  subst Ws
  rw[hAr]at rq
  have r1:=rq.rule
  have il:q.rule.toNat<a.las.length:=by omega
  have hl:=yF il
  obtain⟨L,hLd⟩:∃L,L=a.las[q.rule.toNat]:=⟨_,rfl⟩
  rw[<-hLd]at hl
  obtain⟨l,hll⟩:∃l,sv.ls[q.rule.toNat]? =some l:=⟨_,yF (by rw[S.ll];exact il)⟩
  have iw:q.rule.toNat<st.1.ls.length:=by rw[Wr.len,S.ll];exact il
  obtain⟨x,hx⟩:∃x,st.1.ls[q.rule.toNat]? =some x:=⟨_,yF iw⟩
  have n1:=Wr.now
  have n2:=Wr.first
  have n3:=Wr.again
  have b1:=Wb.now
  have b2:=Wb.first
  have b3:=Wb.k
  have rel:=Wr.rel _ L l x hl hll hx
  have M:=rel _ (S.L _ L l hl hll)
  have B:=Wb.lb x (yK hx)
  obtain⟨gW,gN⟩:=RP.geo M.geo
  have e' :a5x a N st.2 ev eb:=by
   rcases e with⟨e1,e2⟩|e
   ·exact .inl ⟨e1,e2⟩
   ·exact .inr e
  obtain⟨r,hr⟩:∃r,r=D0 L.R L.rp x st.1.now (a1B st.1.now st.1.first st.1.again L.R.Wd) (bs q.key) q.cost:=⟨_,rfl⟩
  have an:a1p a.las st q=(({ st.1 with ls:=st.1.ls.set q.rule.toNat r.2.2,k:=st.1.k+1 },st.2++evO q.rule r.2.1),Y1 1 r.1.1 r.1.2.1 r.1.2.2):=by
   unfold a1p;rw[hl,hx];simp only;unfold b1S;rw[<-hr]
  rw[an]at hQ
  have B' :LB (st.1.k+1) 1000000000 r.2.2:=by
   rw[hr]
   refine B.check hq.2 M.geo.ok (RuleV.pace M.geo.ok) gW gN b1 _ ?_
   have:=M.P.ok
   rw[M.geo.pn]at this;exact this
  refine c6C S ⟨by rw[n1];unfold C0;omega,by rw[n2];unfold C0;omega⟩ rq hq.1 hl hll rel B hq.2 (by rw[n1];exact b1) V e' (by omega) nn.1 (fun z hz=>yN (nn.2 z hz) nn.1) (r:=r) (by rw[hr,n1,n2,n3]) fun h' ev' eb' l' u b o S' rel' V' e2 V2 hb=>?_
  refine hQ h' u b o ⟨({ sv with ls:=sv.ls.set q.rule.toNat l' },st.2++evO q.rule r.2.1),⟨⟨by have:=o.next;omega,nn.2⟩,ev',eb',S',V',?_⟩,⟨n1,n2,n3,Wr.read,Wr.cs,?_,fun i L' l2 x2 h1 h2 h3=>?_⟩,⟨b1,b2,?_,fun y hy=>?_⟩,?_,rfl⟩ V2 hb
  ·rcases e2 with⟨e1,e2⟩|e2
   ·exact .inl ⟨e1,e2⟩
   ·exact .inr e2
  ·show(st.1.ls.set _ _).length=(sv.ls.set _ _).length
   rw[List.length_set,List.length_set];exact Wr.len
  ·have h2:(sv.ls.set q.rule.toNat l')[i]? =some l2:=h2
   have h3:(st.1.ls.set q.rule.toNat r.2.2)[i]? =some x2:=h3
   by_cases ei:q.rule.toNat=i
   ·subst ei
    rw[yH (List.getElem?_eq_some_iff.1 hll).1]at h2
    rw[yH iw]at h3
    rw[hl]at h1
    rw[<-yA h1,<-yA h2,<-yA h3]
    exact rel'
   ·rw[yI ei]at h2 h3
    exact Wr.rel i L' l2 x2 h1 h2 h3
  ·show 0<=st.1.k+1/\st.1.k+1<=_
   have:=hq.2
   omega
  ·have hy:y∈st.1.ls.set q.rule.toNat r.2.2:=hy
   rcases List.mem_or_eq_of_mem_set hy with hy|rfl
   ·exact(Wb.lb y hy).next hq.2
   ·exact B'
  ·show((st.2++evO q.rule r.2.1).length:Int)<=2*(st.1.k+1)
   have:=b0l L.R L.rp x st.1.now (a1B st.1.now st.1.first st.1.again L.R.Wd) (bs q.key) q.cost
   rw[<-hr]at this
   unfold evO
   rw[yG,yL]
   omega
 len:=fun {h st q} I rq hq=>by
  have m:a0P a.las st q=22:=by
   unfold a0P
   rw[hq.1]
   split<;>rfl
  rw[m]
  unfold a1p
  split
  ·rename_i L v _ _
   have:=a4U L.R L.rp v st.1.now (a1B st.1.now st.1.first st.1.again L.R.Wd) (bs q.key) q.cost
   refine⟨?_,c6l _ _ _ _ (by decide) ?_⟩
   ·show((Y1 _ _ _ _).length:Int)<=22
    rw[a0F];decide
   ·show 0<=(D0 _ _ _ _ _ _ _).1.1/\_
    unfold b1S
    omega
  ·exact⟨by simp,fun x hx=>by simp at hx⟩
 apart:=fun z hz hF=>by
  obtain⟨h1,h2⟩:=hap z hz
  rcases hF with e| ⟨i,L,hL,hz'⟩| ⟨_,hn⟩
  ·exact h1 e
  ·exact h2 i L hL hz'
  ·exact hn (.inr (.inr (.inr (.inr (.inl ⟨k,A,by simp,hA,hz⟩)))))
def Srv(h:Heap)(a:SrvA)(w:SW):Prop:=∃v,SrvAt h a v K8 none/\SRel a w v/\SB w
section
variable {h h' :Heap} {a:SrvA} {w:SW}
theorem Srv.old(S:Srv h a w)(o:Old h h'):Srv h' a w:=by
 obtain⟨v,S,r⟩:=S
 exact⟨v,S.old o,r⟩
theorem Srv.lt(S:Srv h a w){z:Nat}(hz:a.own none z):z<h.next:=by
 obtain⟨v,S,r⟩:=S
 exact S.lt hz
theorem Srv.oldF{F:Nat->Prop}(S:Srv h a w)(o:OldF F h h')(hF:∀z,a.own none z->¬F z):Srv h' a w:=by
 obtain⟨v,S,r⟩:=S
 exact⟨v,S.oldF o fun z hz _=>hF z hz,r⟩
theorem SRel.rd{v:SrvV}(r:SRel a w v)(t:Int):SRel a (w.rd t) (v.rd t):=by
 refine⟨?_,?_,r.again,rfl,r.cs,r.len,r.rel⟩
 ·show max (max v.now t) 0=max (max w.now t) 0
  rw[r.now]
 ·show(if v.read then v.first else max (max v.now t) 0)=(if w.read then w.first else max (max w.now t) 0)
  rw[r.now,r.first,r.read]
theorem SB.rd(b:SB w){t:Int}(ht:t<=1000000000):SB (w.rd t):=by
 have b1:=b.now
 have b2:=b.first
 refine⟨?_,?_,b.k,b.lb⟩
 ·show 0<=max (max w.now t) 0/\max (max w.now t) 0<=_
  omega
 ·show 0<=(if w.read then w.first else max (max w.now t) 0)/\(if w.read then w.first else max (max w.now t) 0)<=_
  split<;>omega
theorem SRel.conn{v:SrvV}(r:SRel a w v)(cs:List CV):SRel a { w with cs:=cs } { v with cs:=cs }:=⟨r.now,r.first,r.again,r.read,rfl,r.len,r.rel⟩
theorem SB.conn(b:SB w)(cs:List CV):SB { w with cs:=cs }:=⟨b.now,b.first,b.k,b.lb⟩
theorem SrvAt.tags{v:SrvV}{ev:Value}{ex:Option Nat}(S:SrvAt h a v ev ex){k:Nat}{A:CA}(hA:a.cas[k]? =some A):∀z,A.own z->z≠a.s/\∀(i:Nat) (L:LA),a.las[i]? =some L->¬L.own z:=fun z hz=>by
 have t:=S.tC k A z hA hz
 refine⟨fun e=>?_,fun i L hL h2=>?_⟩
 ·rw[e,S.ts]at t;omega
 ·have:=S.tL i L z hL h2;omega
variable {k:Nat} {A:CA} {c:CV}
theorem c7k(S:Srv h a w)(hA:a.cas[k]? =some A)(hc:w.cs[k]? =some c)(hw:c.w=true)(hr:c.r=A.rr)(di:c.e=0->T8 c.bs c.n c.r)
  (r n:Int) (ht:r<=1000000000) (x:Value) (l:List Int) (sl:V9 h x l) (byt:I1 l) (hll:l.length<=100000) (hok:okS (a0P a.las) (a1p a.las) A.S okW l (w.rd r,[]) c) (hg:∀z o cap,x=.slice (some ⟨z,o,none⟩) l.length cap->¬a.own none z)
  {R:(SW×List EvT)×CV×Nat} (hR:R=B0 (a0P a.las) (a1p a.las) A.S l (w.rd r,[]) c) {Q:Value->Heap->Prop}
  (hQ:∀h' evv eb,OldF (a.own none) h h' ->(R.2.1.w=true/\R.2.1.r=A.rr/\(R.2.1.e=0->T8 R.2.1.bs R.2.1.n R.2.1.r))->Srv h' a { R.1.1 with cs:=R.1.1.cs.set k R.2.1 }->
   H0 h' 123 EvE evv R.1.2 eb/\(R.1.2=[]/\evv=.slice none 0 0\/h.next<=eb)->Q (.agg #[.int .i64 0,.int .i64 R.2.2,K8,evv]) h'):
  u5 cp 15 [.pointer (some ⟨a.s,0,none⟩),.agg #[.int .i64 2,.int .i64 r,.int .i64 k,x,.int .i64 n,.slice none 0 0]] h Q:=by
 obtain⟨v,S,rel,sb⟩:=S
 have hcv:v.cs[k]? =some c:=by rw[rel.cs];exact hc
 refine d6p (V:=WV a) (F:=a.ansF) (fun N=>b6b hA (S.cr k A hA).1 (S.tags hA) N) (fun N z hz=>?_) S hA hcv hw hr di r n ⟨rel.rd r,sb.rd ht,?_,rfl⟩ x l sl byt hll hok hg fun h' evv eb s o cc V S' Vv=>?_
 ·rcases hz with e| ⟨i,L,hL,hz⟩| ⟨hz,_⟩
  ·exact .inl (.inl e)
  ·exact .inl (.inr (.inr (.inr (.inr (.inr ⟨i,L,hL,hz⟩)))))
  ·exact .inr hz
 ·have:=sb.k
  show((0:Nat):Int)<=2*w.k
  omega
 ·rw[<-hR]at cc V S' ⊢
  obtain⟨V1,V2,V3,V4⟩:=V
  rw[V4]at Vv
  refine hQ h' evv eb o cc ⟨_,S',?_,V2.conn _⟩ Vv
  rw[V1.cs]
  exact V1.conn _
theorem d7D(S:Srv h a w)(hA:a.cas[k]? =some A)(hc:w.cs[k]? =some c)(hw:c.w=false)(r n:Int)(ht:r<=1000000000){Q:Value->Heap->Prop}
  (hQ:∀h',OldF (a.own none) h h' ->Srv h' a { w.rd r with cs:=w.cs.set k (a7L A.rr) }->Q (.agg #[.int .i64 0,.int .i64 0,K8,K8]) h'):
  u5 cp 15 [.pointer (some ⟨a.s,0,none⟩),.agg #[.int .i64 0,.int .i64 r,.int .i64 k,.slice none 0 0,.int .i64 n,.slice none 0 0]] h Q:=by
 obtain⟨v,S,rel,sb⟩:=S
 have hcv:v.cs[k]? =some c:=by rw[rel.cs];exact hc
 refine d9v S hA hcv hw r n fun h' o S' =>hQ h' o ⟨_,S',?_,(sb.rd ht).conn _⟩
 rw[rel.cs]
 exact(rel.rd r).conn _
theorem c6O(S:Srv h a w)(hA:a.cas[k]? =some A)(hc:w.cs[k]? =some c)(hw:c.w=true)(r n:Int)(ht:r<=1000000000){Q:Value->Heap->Prop}
  (hQ:∀h' u b,OldF (a.own none) h h' ->Srv h' a { w.rd r with cs:=w.cs.set k { c with qs:=c.qs.drop n.toNat } }->H0 h' 5 B8 u (c.qs.take n.toNat) b->h.next<=b->Q (.agg #[.int .i64 0,.int .i64 0,u,K8]) h'):
  u5 cp 15 [.pointer (some ⟨a.s,0,none⟩),.agg #[.int .i64 3,.int .i64 r,.int .i64 k,.slice none 0 0,.int .i64 n,.slice none 0 0]] h Q:=by
 obtain⟨v,S,rel,sb⟩:=S
 have hcv:v.cs[k]? =some c:=by rw[rel.cs];exact hc
 refine d1l S hA hcv hw r n fun h' u b o S' V hb=>hQ h' u b o ⟨_,S',?_,(sb.rd ht).conn _⟩ V hb
 rw[rel.cs]
 exact(rel.rd r).conn _
end
structure Idl(c:CV)(rr:Int)(qs:List Int):Prop where
 w:c.w=true
 r:c.r=rr
 e:c.e=0
 n:c.n=0
 bs:c.bs.length=75
 qs:c.qs=qs
abbrev Qs:=Nat->Option (List Int)
def Qs.set(q:Qs)(k:Nat)(l:List Int):Qs:=fun j=>if j=k then some l else q j
theorem Qs.set_self(q:Qs)(k:Nat)(l:List Int):q.set k l k=some l:=if_pos rfl
theorem Qs.set_ne(q:Qs){k j:Nat}(l:List Int)(h:j≠k):q.set k l j=q j:=if_neg h
def SI(h:Heap)(a:SrvA)(w:SW)(q:Qs):Prop:=∃cs,Srv h a { w with cs:=cs }/\∀k l,q k=some l->∃A c,a.cas[k]? =some A/\cs[k]? =some c/\Idl c A.rr l
section
variable {h h' :Heap} {a:SrvA} {w:SW} {q:Qs}
theorem SI.old(S:SI h a w q)(o:Old h h'):SI h' a w q:=by
 obtain⟨cs,S,r⟩:=S
 exact⟨cs,S.old o,r⟩
theorem SI.lt(S:SI h a w q){z:Nat}(hz:a.own none z):z<h.next:=by
 obtain⟨cs,S,r⟩:=S
 exact S.lt hz
theorem SI.oldF{F:Nat->Prop}(S:SI h a w q)(o:OldF F h h')(hF:∀z,a.own none z->¬F z):SI h' a w q:=by
 obtain⟨cs,S,r⟩:=S
 exact⟨cs,S.oldF o hF,r⟩
theorem SI.set{cs:List CV}{w' :SW}(S:Srv h' a { w' with cs:=cs }){k:Nat}{A:CA}{c:CV}{l:List Int}(hA:a.cas[k]? =some A)(hc:cs[k]? =some c)(I:Idl c A.rr l)(hq:∀j m,j≠k->q j=some m->∃A c,a.cas[j]? =some A/\cs[j]? =some c/\Idl c A.rr m):SI h' a w' (q.set k l):=
 ⟨cs,S,fun j m hj=>by
  by_cases e:j=k
  ·subst e
   rw[Qs.set_self]at hj
   rw[<-yA hj]
   exact⟨A,c,hA,hc,I⟩
  ·rw[Qs.set_ne _ _ e]at hj
   exact hq j m e hj⟩
theorem d9A(las:List LA)(w:SW)(cs:List CV)(evs:List EvT)(rq:ReqV):a1p las ({ w with cs:=cs },evs) rq=(({ (a1p las (w,evs) rq).1.1 with cs:=cs },(a1p las (w,evs) rq).1.2),(a1p las (w,evs) rq).2):=by
 unfold a1p
 cases e1:las[rq.rule.toNat]? <;>cases e2:w.ls[rq.rule.toNat]? <;>simp only[e1,e2]
theorem e1x(S:SI h a w q){k:Nat}{l:List Int}(hq:q k=some l){rq:ReqV}(rc:ReqC a.las.length rq)(ho:rq.op=1)(hk:w.k+1<=1000000000)(hou:l.length+22<=a.ou)(t n:Int)(ht:t<=1000000000)
  (x:Value) (sl:V9 h x (H7 rq)) (byt:I1 (H7 rq)) (hg:∀z o cap,x=.slice (some ⟨z,o,none⟩) (H7 rq).length cap->¬a.own none z) {R:(SW×List EvT)×List Int} (hR:R=a1p a.las (w.rd t,[]) rq) {Q:Value->Heap->Prop}
  (hQ:∀h' evv eb,OldF (a.own none) h h' ->SI h' a R.1.1 (q.set k (l++R.2))->H0 h' 123 EvE evv R.1.2 eb/\(R.1.2=[]/\evv=.slice none 0 0\/h.next<=eb)->Q (.agg #[.int .i64 0,.int .i64 (H7 rq).length,K8,evv]) h'):
  u5 cp 15 [.pointer (some ⟨a.s,0,none⟩),.agg #[.int .i64 2,.int .i64 t,.int .i64 k,x,.int .i64 n,.slice none 0 0]] h Q:=by
 obtain⟨cs,S,hcs⟩:=S
 obtain⟨A,c,hA,hc,I⟩:=hcs k l hq
 obtain⟨v,SA,_⟩:=id S
 obtain⟨hAr,hAS⟩:=SA.cr k A hA
 have hc' :({ w with cs:=cs }:SW).cs[k]? =some c:=hc
 have wrd:(({ w with cs:=cs }:SW).rd t)={ w.rd t with cs:=cs }:=rfl
 have an:=d9A a.las (w.rd t) cs [] rq
 rw[<-hR]at an
 have m:a0P a.las (({ w with cs:=cs }:SW).rd t,[]) rq<=((A.S-c.qs.length:Nat):Int):=by
  rw[I.qs,hAS]
  have:a0P a.las (({ w with cs:=cs }:SW).rd t,[]) rq=22:=by
   unfold a0P
   rw[ho]
   split<;>rfl
  rw[this];omega
 have rc' :ReqC A.rr rq:=by rw[hAr];exact rc
 obtain⟨bs',hb',hacc⟩:=b5O (a0P a.las) (a1p a.las) A.S rc' (({ w with cs:=cs }:SW).rd t,[]) c I.bs I.e I.n I.r m
 rw[wrd,an]at hacc
 have fl:=(a2P rc').2.2
 refine c7k S hA hc' I.w I.r (fun _=>by rw[I.n];exact⟨by decide,.inl rfl⟩) t n ht x (H7 rq) sl byt (by omega) (e2q _ _ _ rc' _ ⟨ho,hk⟩ c I.bs I.n I.r) hg hacc.symm fun h' evv eb o cc S' V=>hQ h' evv eb o ?_ V
 have cl:=(List.getElem?_eq_some_iff.1 hc).1
 have e1:(({ R.1.1 with cs:=cs }:SW).cs.set k { c with bs:=bs',n:=0,qs:=c.qs++R.2 })=cs.set k { c with bs:=bs',n:=0,qs:=c.qs++R.2 }:=rfl
 refine SI.set (cs:=cs.set k { c with bs:=bs',n:=0,qs:=c.qs++R.2 }) S' hA (yH cl) ⟨I.w,I.r,I.e,rfl,hb',by show c.qs++R.2=_;rw[I.qs]⟩ fun j m hj hm=>?_
 obtain⟨A',c',h1,h2,h3⟩:=hcs j m hm
 exact⟨A',c',h1,by rw[yI (fun e=>hj e.symm)];exact h2,h3⟩
theorem c9E(S:SI h a w q){k:Nat}{l:List Int}(hq:q k=some l)(t n:Int)(ht:t<=1000000000){Q:Value->Heap->Prop}
  (hQ:∀h' u b,OldF (a.own none) h h' ->SI h' a (w.rd t) (q.set k (l.drop n.toNat))->H0 h' 5 B8 u (l.take n.toNat) b->h.next<=b->Q (.agg #[.int .i64 0,.int .i64 0,u,K8]) h'):
  u5 cp 15 [.pointer (some ⟨a.s,0,none⟩),.agg #[.int .i64 3,.int .i64 t,.int .i64 k,.slice none 0 0,.int .i64 n,.slice none 0 0]] h Q:=by
 obtain⟨cs,S,hcs⟩:=S
 obtain⟨A,c,hA,hc,I⟩:=hcs k l hq
 have hc' :({ w with cs:=cs }:SW).cs[k]? =some c:=hc
 refine c6O S hA hc' I.w t n ht fun h' u b o S' V hb=>hQ h' u b o ?_ (by rw[<-I.qs];exact V) hb
 have cl:=(List.getElem?_eq_some_iff.1 hc).1
 refine SI.set (cs:=cs.set k { c with qs:=c.qs.drop n.toNat }) S' hA (yH cl) ⟨I.w,I.r,I.e,I.n,I.bs,by show c.qs.drop _=_;rw[I.qs]⟩ fun j m hj hm=>?_
 obtain⟨A',c',h1,h2,h3⟩:=hcs j m hm
 exact⟨A',c',h1,by rw[yI (fun e=>hj e.symm)];exact h2,h3⟩
def SO(h:Heap)(a:SrvA)(w:SW)(q:Qs):Prop:=∃cs,Srv h a { w with cs:=cs }/\∀k A,a.cas[k]? =some A->(∃c,cs[k]? =some c/\(q k=none->c.w=false)/\∀l,q k=some l->Idl c A.rr l)
theorem SO.si(S:SO h a w q)(hn:∀k l,q k=some l->k<a.cas.length):SI h a w q:=by
 obtain⟨cs,S,hcs⟩:=S
 refine⟨cs,S,fun k l hk=>?_⟩
 have hA:=yF (hn k l hk)
 obtain⟨c,h1,_,h2⟩:=hcs k _ hA
 exact⟨_,c,hA,h1,h2 l hk⟩
theorem e0q(S:SO h a w q){k:Nat}{A:CA}(hA:a.cas[k]? =some A)(hq:q k=none)(t n:Int)(ht:t<=1000000000){Q:Value->Heap->Prop}
  (hQ:∀h',OldF (a.own none) h h' ->SO h' a (w.rd t) (q.set k [])->Q (.agg #[.int .i64 0,.int .i64 0,K8,K8]) h'):
  u5 cp 15 [.pointer (some ⟨a.s,0,none⟩),.agg #[.int .i64 0,.int .i64 t,.int .i64 k,.slice none 0 0,.int .i64 n,.slice none 0 0]] h Q:=by
 obtain⟨cs,S,hcs⟩:=S
 obtain⟨c,h1,h2,h3⟩:=hcs k A hA
 have hc' :({ w with cs:=cs }:SW).cs[k]? =some c:=h1
 refine d7D S hA hc' (h2 hq) t n ht fun h' o S' =>hQ h' o ⟨cs.set k (a7L A.rr),S',fun j A' hA' =>?_⟩
 obtain⟨c',k1,k2,k3⟩:=hcs j A' hA'
 by_cases e:j=k
 ·subst e
  refine⟨a7L A.rr,yH (List.getElem?_eq_some_iff.1 h1).1,⟨fun hn=>?_,fun l hl=>?_⟩⟩
  ·rw[Qs.set_self]at hn;cases hn
  rw[Qs.set_self]at hl
  rw[hA]at hA'
  rw[<-yA hA',<-yA hl]
  exact⟨rfl,rfl,rfl,rfl,List.length_replicate,rfl⟩
 ·rw[Qs.set_ne _ _ e]
  exact⟨c',by rw[yI (fun e' =>e e'.symm)];exact k1,k2,k3⟩
end
def sw0(rl:List RuleV):SW:=⟨0,0,false,false,[],rl.map lv0,0⟩
theorem e1T(r:RuleV):LB 0 1000000000 (lv0 r):=by
 refine⟨⟨by decide,by decide⟩,⟨by decide,by decide⟩,fun i c hc=>?_,?_,?_,⟨yQ 0,by show(0:Int)<=_;decide⟩,by show(0:Int)<=_;decide⟩
 ·have hc:(List.replicate r.C ((0:Int),(0:Int),(0:Int),(0:Int)))[i]? =some c:=hc
  have:=yK hc
  rw[(List.mem_replicate.1 this).2]
  exact⟨⟨by decide,by decide⟩,⟨by decide,by decide⟩,⟨by decide,by decide⟩,by decide,by decide⟩
 ·exact Pos.zero _
 ·exact Bd.zero _ (by decide)
theorem c5Z(h:Heap)(bu:Int)(co ou:Nat)(v0:Value)(rl:List RuleV)(b0:Nat)(V0:H0 h 34 RE v0 (rl.map RuleV.t) b0)(cfg:a2s bu co ou (rl.map RuleV.t))(rok:∀r∈rl,r.OK)
  (sv:Value) (sl:List Int) (hsl:sl.length<=1000000) (hsd:Lst h (Enc.int .u64) sv sl) {Q:Value->Heap->Prop}
  (hQ:∀h' a,Old h h' ->SO h' a (sw0 rl) (fun _=>none)->a.las.map LA.R=rl->a.cas.length=co->a.ou=ou->d3g a sl->(∀z,a.own none z->h.next<=z)->Q (.tuple #[.pointer (some ⟨a.s,0,none⟩),.int .i64 0]) h'):
  u5 cp 14 [.agg #[.int .i64 bu,.int .i64 co,.int .i64 ou,v0],sv] h Q:=by
 have z9:(0:Int)<=1000000000:=by decide
 refine c7c h bu co ou v0 rl b0 V0 cfg rok sv sl hsl hsd fun h' a o S hlas hcas hou hrows hown=>hQ h' a o ⟨List.replicate co cv0,⟨_,S,⟨rfl,rfl,rfl,rfl,rfl,?_,fun i L l x hL hl hx=>?_⟩,⟨yQ 0,z9⟩,⟨yQ 0,z9⟩,⟨yQ 0,z9⟩,fun x hx=>?_⟩,fun k A hA=>?_⟩ hlas hcas hou hrows hown
 ·show(rl.map lv0).length=(rl.map a1x).length
  rw[yL,yL]
 ·have hl:(rl.map a1x)[i]? =some l:=hl
  have hx:(rl.map lv0)[i]? =some x:=hx
  have hr:rl[i]? =some L.R:=by rw[<-hlas,yJ,hL];rfl
  rw[yJ,hr]at hl hx
  rw[<-yA hl,<-yA hx]
  obtain⟨_,r2,r3⟩:=hrows i L hL
  exact fun h2 A2=>Lmt.new A2 rfl (by rw[r2];exact b1c _ _) (by rw[r3];exact b1c _ _)
 ·obtain⟨r,_,rfl⟩:=List.mem_map.1 hx
  exact e1T r
 ·have hk:=(List.getElem?_eq_some_iff.1 hA).1
  refine⟨cv0,by rw[List.getElem?_replicate,if_pos (by omega)],fun _=>rfl,fun l hl=>by cases hl⟩
def R7(p:E3):RuleV:=
 { L:=p.1 % 32+1,Wd:=(p.2.1 % 32+1)*(p.2.2.2.1 % 8+1),B:=(p.2.2.1 % 32) % (p.1 % 32+1)+1,S:=(p.2.2.2.1 % 8+1).toNat,C:=(p.2.2.2.2.1 % 8+1).toNat,R:=(p.2.2.2.2.2.1 % 4+1).toNat,
   W:=(p.2.2.2.2.2.2.1 % 16+1).toNat,T:=(p.2.2.2.2.2.2.2.1 % 8+1).toNat,sm:=p.2.2.2.2.2.2.2.2 && decide (p.2.2.2.1 % 8+1>1) }
theorem b3X(p:E3):(R7 p).OK:=by
 obtain⟨l,w,b,s,c,r,d,t,m⟩:=p
 have hb:0<=(b % 32) % (l % 32+1)/\(b % 32) % (l % 32+1)<l % 32+1:=⟨Int.emod_nonneg _ (by omega),Int.emod_lt_of_pos _ (by omega)⟩
 obtain⟨s',hs⟩:∃s' :Nat,s % 8=s' :=⟨(s % 8).toNat,by omega⟩
 obtain⟨w',hw⟩:∃w' :Nat,w % 32=w' :=⟨(w % 32).toNat,by omega⟩
 have hp:1*1<=(w % 32+1)*(s % 8+1):=Int.mul_le_mul (by omega) (by omega) (by omega) (by omega)
 have hp2:(w % 32+1)*(s % 8+1)<=32*8:=Int.mul_le_mul (by omega) (by omega) (by omega) (by omega)
 refine⟨?_,?_,?_,?_,?_,?_,?_,?_,?_,?_⟩
 ·show 1<=l % 32+1/\l % 32+1<=32;omega
 ·show 1<=(w % 32+1)*(s % 8+1)/\(w % 32+1)*(s % 8+1)<=256;omega
 ·show 1<=(b % 32) % (l % 32+1)+1/\(b % 32) % (l % 32+1)+1<=l % 32+1;omega
 ·show 1<=(s % 8+1).toNat/\(s % 8+1).toNat<=8;omega
 ·show((w % 32+1)*(s % 8+1)) % (((s % 8+1).toNat:Nat):Int)=0
  rw[Int.toNat_of_nonneg (by omega)];exact Int.mul_emod_left _ _
 ·show 1<=(c % 8+1).toNat/\(c % 8+1).toNat<=8;omega
 ·show 1<=(r % 4+1).toNat/\(r % 4+1).toNat<=4;omega
 ·show 1<=(d % 16+1).toNat/\(d % 16+1).toNat<=16;omega
 ·show 1<=(t % 8+1).toNat/\(t % 8+1).toNat<=8;omega
 ·intro h
  have h:(m && decide (s % 8+1>1))=true:=h
  rw[Bool.and_eq_true]at h
  have:=of_decide_eq_true h.2
  show 2<=(s % 8+1).toNat
  omega
theorem a3L(h:Heap)(p:E3){Q:Value->Heap->Prop}(hQ:∀h',Old h h' ->Q (.agg (R7 p).c.toArray) h'):u5 cp 30 [.agg (RE.enc p).toArray] h Q:=by
 obtain⟨l,w,b,s,c,r,d,t,m⟩:=p
 show u5 cp 30 [.agg #[.int .i64 l,.int .i64 w,.int .i64 b,.int .i64 s,.int .i64 c,.int .i64 r,.int .i64 d,.int .i64 t,.bool m]] h Q
 rw[b8 cp e7L]
 have m31:=fun x=>U4 5 (by decide) x 31 (by decide)
 have m15:=fun x=>U4 4 (by decide) x 15 (by decide)
 have m7:=fun x=>U4 3 (by decide) x 7 (by decide)
 have m3:=fun x=>U4 2 (by decide) x 3 (by decide)
 obtain⟨l',hl,l1⟩:∃y,l % 2 ^ 5=y/\0<=y/\y<=31:=⟨_,rfl,by omega,by omega⟩
 obtain⟨w',hw,w1⟩:∃y,w % 2 ^ 5=y/\0<=y/\y<=31:=⟨_,rfl,by omega,by omega⟩
 obtain⟨b',hb,b1⟩:∃y,b % 2 ^ 5=y/\0<=y/\y<=31:=⟨_,rfl,by omega,by omega⟩
 obtain⟨s',hs,s1⟩:∃y,s % 2 ^ 3=y/\0<=y/\y<=7:=⟨_,rfl,by omega,by omega⟩
 obtain⟨c',hc,c1⟩:∃y,c % 2 ^ 3=y/\0<=y/\y<=7:=⟨_,rfl,by omega,by omega⟩
 obtain⟨r',hr,r1⟩:∃y,r % 2 ^ 2=y/\0<=y/\y<=3:=⟨_,rfl,by omega,by omega⟩
 obtain⟨d',hd,d1⟩:∃y,d % 2 ^ 4=y/\0<=y/\y<=15:=⟨_,rfl,by omega,by omega⟩
 obtain⟨t',ht,t1⟩:∃y,t % 2 ^ 3=y/\0<=y/\y<=7:=⟨_,rfl,by omega,by omega⟩
 have n0:(l' +1=0)=False:=eq_false (by omega)
 have tm:Int.tmod b' (l' +1)=b' % (l' +1):=I7 _ _ b1.1
 have hbb:0<=b' % (l' +1)/\b' % (l' +1)<l' +1:=⟨Int.emod_nonneg _ (by omega),Int.emod_lt_of_pos _ (by omega)⟩
 have hp:1*1<=(w' +1)*(s' +1):=Int.mul_le_mul (by omega) (by omega) (by omega) (by omega)
 have hp2:(w' +1)*(s' +1)<=32*8:=Int.mul_le_mul (by omega) (by omega) (by omega) (by omega)
 have e:RuleV.c (R7 (l,w,b,s,c,r,d,t,m))=[.int .i64 (l' +1),.int .i64 ((w' +1)*(s' +1)),.int .i64 (b' % (l' +1)+1),.int .i64 (s' +1),.int .i64 (c' +1),.int .i64 (r' +1),.int .i64 (d' +1),.int .i64 (t' +1),.bool (m && decide (s' +1>1))]:=by
  have q1:l % 32=l' :=hl
  have q2:w % 32=w' :=hw
  have q3:b % 32=b' :=hb
  have q4:s % 8=s' :=hs
  have q5:c % 8=c' :=hc
  have q6:r % 4=r' :=hr
  have q7:d % 16=d' :=hd
  have q8:t % 8=t' :=ht
  simp only[RuleV.c,R7,q1,q2,q3,q4,q5,q6,q7,q8]
  rw[Int.toNat_of_nonneg (by omega),Int.toNat_of_nonneg (by omega),Int.toNat_of_nonneg (by omega),Int.toNat_of_nonneg (by omega),Int.toNat_of_nonneg (by omega)]
 rw[e]at hQ
 have ob:∃h1,h1=(h.new (.cells [.int .i64 l,.int .i64 w,.int .i64 b,.int .i64 s,.int .i64 c,.int .i64 r,.int .i64 d,.int .i64 t,.bool m] 23 .fix)).new (.cells [.int .i64 0,.int .i64 0,.int .i64 0,.int .i64 0,.int .i64 0,.int .i64 0,.int .i64 0,.int .i64 0,.bool false] 34 .fix):=⟨_,rfl⟩
 obtain⟨h1,h1d⟩:=ob
 have o1:Old h h1:=by rw[h1d];exact((Old.refl h).more _).more _
 have n1:h1.next=h.next+1+1:=by rw[h1d];rfl
 have g1:h1.obj h.next=.cells [.int .i64 l,.int .i64 w,.int .i64 b,.int .i64 s,.int .i64 c,.int .i64 r,.int .i64 d,.int .i64 t,.bool m] 23 .fix:=by rw[h1d,j0 _ _ (by simp only[f6];omega)];exact f9 _ _
 have g2:h1.obj (h.next+1)=.cells [.int .i64 0,.int .i64 0,.int .i64 0,.int .i64 0,.int .i64 0,.int .i64 0,.int .i64 0,.int .i64 0,.bool false] 34 .fix:=by rw[h1d];exact f9 (h.new _) _
 cases m with
 |false=>
  simp(maxSteps:=1000000) (disch:=omega)only[c30,↓R30,<-h1d,g1,g2,m31,m15,m7,m3,hl,hw,hb,hs,hc,hr,hd,ht,n0,tm,v8,↓l8,l9,zA,zB,zC,zD,zE,zF,zG,zH,zI,reduceCtorEq,zJ,zK,zL,zM]
  exact hQ _ ⟨by simp only[l5,f6];omega,fun z hz=>by rw[a6 _ _ (by omega),a6 _ _ (by omega),a6 _ _ (by omega),j0 _ _ (by omega),o1.obj z hz]⟩
 |true=>
  simp(maxSteps:=1000000) (disch:=omega)only[c30,↓R30,<-h1d,g1,g2,m31,m15,m7,m3,hl,hw,hb,hs,hc,hr,hd,ht,n0,tm,v8,↓l8,l9,zA,zB,zC,zD,zE,zF,zG,zH,zI,reduceCtorEq,zJ,zK,zL,zM]
  exact hQ _ ⟨by simp only[l5,f6];omega,fun z hz=>by rw[a6 _ _ (by omega),a6 _ _ (by omega),a6 _ _ (by omega),j0 _ _ (by omega),o1.obj z hz]⟩
abbrev a6k:=Int×Int×ByteArray×Bool
abbrev b7K:Enc a6k:=Enc.pair (Enc.int .i64) (Enc.pair (Enc.int .i64) (Enc.pair Enc.str Enc.bool))
def a6F(l:List a6k):Prop:=l.length<=150/\∀c∈l,c.2.2.1.size<=64
instance (l:List a6k):Decidable (a6F l):=by unfold a6F;infer_instance
theorem d7Z(h:Heap)(v:Value)(l:List a6k)(hs:Lst h b7K v l)(hz:∀c∈l,c.2.2.1.size<=maxLen){Q:Value->Heap->Prop}
  (hQ:∀h',Old h h' ->Q (.bool (decide (a6F l))) h'):u5 cp 12 [v] h Q:=by
 rw[b8 cp e8A]
 obtain⟨a,cap,rfl,hrd⟩:=hs
 have no:¬a6F l->∀h',Old h h' ->Q (.bool false) h' :=fun hn h' o=>by
  have:=hQ h' o
  rwa [decide_eq_false hn]at this
 by_cases c1:(l.length:Int)>150
 ·have b1:=decide_eq_true c1
  simp(disch:=omega)only[c12,↓R12,b1,↓l8,l9,zA,zB,zC,zD,zE,zF,zG,zH,zI,reduceCtorEq,zJ,zK,zL,zM]
  exact no (fun q=>by have:=q.1;omega) _ (Old.refl h)
 have b1:=decide_eq_false c1
 simp(disch:=omega)only[c12,↓R12,b1,↓l8,l9,zA,zB,zC,zD,zE,zF,zG,zH,zI,reduceCtorEq,zJ,zK,zL,zM]
 refine z7 cp a5t _ (fun d e hh=>∃j:Nat,j+d=l.length/\Old h hh/\(∀c∈l.take j,c.2.2.1.size<=64)/\e 8=.slice a l.length cap/\e 9=.int .i64 l.length/\e 10=.int .i64 j) ?_ l.length _ _
  ⟨0,by omega,Old.refl _,fun c hc=>by simp at hc,rfl,rfl,rfl⟩
 rintro d e hh ⟨j,hj,o,hk,e8,e9,e10⟩
 have on:=o.next
 by_cases cj:j<l.length
 rotate_left
 ·have b2:decide ((j:Int)<(l.length:Int))=false:=decide_eq_false (by omega)
  obtain rfl:j=l.length:=by omega
  rw[List.take_length]at hk
  simp(disch:=omega)only[a5t,c12,↓R12,e8,e9,e10,b2,↓l8,l9,zA,zB,zC,zD,zE,zF,zG,zH,zI,reduceCtorEq,zJ,zK,zL,zM]
  have:=hQ hh o
  rwa [decide_eq_true ⟨by omega,hk⟩]at this
 have b2:decide ((j:Int)<(l.length:Int))=true:=decide_eq_true (by omega)
 have nx:(j:Int)+1=((j+1:Nat):Int):=by omega
 have hx:l[j]? =some l[j]:=yF cj
 obtain⟨x,hxd⟩:∃x,x=l[j]:=⟨_,rfl⟩
 rw[<-hxd]at hx
 have tk:=I8 hx
 obtain⟨b,of,rfl,hb,hr⟩:=hrd j x hx
 rw[<-o.obj b hb]at hr
 have hmem:=yK hx
 have hsz:=hz x hmem
 obtain⟨g,co,key,pk⟩:=x
 have hr:(hh.obj b).read (of+j*4) 4=some [.int .i64 g,.int .i64 co,.string key,.bool pk]:=hr
 simp only at hsz
 have oo:Old h ((hh.new (.cells [.int .i64 0,.int .i64 0,.string ⟨#[]⟩,.bool false] 48 .fix)).upd hh.next (.cells [.int .i64 g,.int .i64 co,.string key,.bool pk] 48 .fix)):=o.put _ _
 by_cases c2:(key.size:Int)>64
 ·have b3:=decide_eq_true c2
  simp(disch:=omega)only[a5t,c12,↓R12,e8,e9,e10,b2,hr,b3,↓l8,l9,zA,zB,zC,zD,zE,zF,zG,zH,zI,reduceCtorEq,zJ,zK,zL,zM]
  exact no (fun q=>by have:=q.2 _ hmem;simp only at this;omega) _ oo
 have b3:=decide_eq_false c2
 simp(disch:=omega)only[a5t,c12,↓R12,e8,e9,e10,b2,hr,b3,nx,↓l8,l9,zA,zB,zC,zD,zE,zF,zG,zH,zI,reduceCtorEq,zJ,zK,zL,zM]
 refine⟨d-1,by omega,j+1,by omega,oo,?_,?_⟩
 ·rw[tk]
  intro c hc
  rcases List.mem_append.1 hc with hc|hc
  ·exact hk c hc
  ·rw[List.mem_singleton.1 hc];show key.size<=64;omega
 ·repeat' first|assumption|rfl|apply And.intro
def b1r(l:List E3):List RuleV:=if l=[]then[R7 (0,0,0,0,0,0,0,0,false)]else(l.take 3).map R7
theorem RuleV.OK.t{r:RuleV}(ok:r.OK):E3.OK r.t/\r.t.T<=8/\E3.by_ r.t<=30000/\0<=E3.by_ r.t:=by
 have h1:=ok.L
 have h2:=ok.Wd
 have h3:=ok.B
 have h4:=ok.S
 have h5:=ok.C
 have h6:=ok.R
 have h7:=ok.W
 have h8:=ok.T
 have cr:=a3r r.Wd (r.L+1-r.B) (by omega) (by omega)
 have p0:r.B*J5 r.Wd (r.L+1-r.B)<=32*256:=Int.mul_le_mul (by omega) (by omega) (by omega) (by omega)
 have q0:(0:Int)<=(r.R:Int)*(r.W:Int):=yO (by omega) (by omega)
 have q1:(r.R:Int)*(r.W:Int)<=4*16:=Int.mul_le_mul (by omega) (by omega) (by omega) (by omega)
 have q2:((r.S:Int)+1)*(16+8*((r.R:Int)*(r.W:Int)))<=9*528:=Int.mul_le_mul (by omega) (by omega) (by omega) (by omega)
 have q3:0<=((r.S:Int)+1)*(16+8*((r.R:Int)*(r.W:Int))):=yO (by omega) (by omega)
 refine⟨⟨by show 1<=r.L/\r.L<=_;omega,by show 1<=r.Wd/\r.Wd<=_;omega,h3,by show 1<=(r.S:Int)/\(r.S:Int)<=64;omega,ok.Sd,by show 1<=(r.C:Int)/\(r.C:Int)<=1024;omega,by show 1<=(r.R:Int)/\(r.R:Int)<=8;omega,by show 1<=(r.W:Int)/\(r.W:Int)<=4096;omega,by show 1<=(r.T:Int)/\(r.T:Int)<=64;omega,fun h=>?_,?_⟩,?_,?_,?_⟩
 ·have:=ok.sm h
  show 2<=(r.S:Int);omega
 ·show r.B*J5 r.Wd (r.L+1-r.B)<=_
  omega
 ·show(r.T:Int)<=8;omega
 ·show E4 r.S r.C r.R r.W r.T<=_
  unfold E4;omega
 ·show 0<=E4 r.S r.C r.R r.W r.T
  unfold E4;omega
theorem a5c:∀(l:List RuleV),(∀r∈l,r.OK)->0<=T0 (l.map RuleV.t)/\T0 (l.map RuleV.t)<=30000*l.length
 | [],_=>by simp[T0]
 |r::l,h=>by
  have:=(h r List.mem_cons_self).t
  have:=a5c l fun r hr=>h r (List.mem_cons_of_mem _ hr)
  simp only[List.map_cons,T0,yM]
  omega
theorem d3B(l:List RuleV)(h:∀r∈l,r.OK)(hl:1<=l.length/\l.length<=3)(k:Int)(hk:0<=k/\k<=255):a2s 4294967296 (3:Nat) ((660+k).toNat:Nat) (l.map RuleV.t):=by
 have:=a5c l h
 rw[show(((660+k).toNat:Nat):Int)=660+k by omega]
 refine⟨by decide,by rw[yL];omega,by decide,by omega,fun r hr=>?_,by show(3:Int)*(660+k)+_<=_;omega⟩
 obtain⟨x,hx,rfl⟩:=List.mem_map.1 hr
 have:=(h x hx).t
 exact⟨this.1,by omega⟩
theorem c6L(h:Heap)(v:Value)(l:List E3)(hs:Lst h RE v l)(hl:l.length<=9223372036854775807)(out:Int){Q:Value->Heap->Prop}
  (hQ:∀h' v' b,Old h h' ->H0 h' 34 RE v' ((b1r l).map RuleV.t) b->h.next<=b->Q (.agg #[.int .i64 4294967296,.int .i64 3,.int .i64 (660+out % 256),v']) h'):
  u5 cp 13 [v,.int .i64 out] h Q:=by
 rw[b8 cp e9L]
 obtain⟨a,cap,rfl,hrd⟩:=hs
 have m8:IntKind.i64.wrap ((BitVec.ofInt IntKind.i64.bits out &&& BitVec.ofInt IntKind.i64.bits 255).toNat:Int)=out % 256:=U4 8 (by decide) out 255 (by decide)
 obtain⟨ou,hou⟩:∃ou,ou=660+out % 256:=⟨_,rfl⟩
 have oub:660<=ou/\ou<=915:=by omega
 rw[<-hou]at hQ
 obtain⟨c0,hc0⟩:∃c0:Value->List Value,c0=fun v=>[.int .i64 4294967296,.int .i64 3,.int .i64 ou,v]:=⟨_,rfl⟩
 obtain⟨h1,h1d⟩:∃h1,h1=((h.new (.cells [.int .i64 0,.int .i64 0,.int .i64 0,.slice none 0 0] 30 .fix)).new (.cells [.int .i64 0,.int .i64 0,.int .i64 0,.slice none 0 0] 30 .fix)).upd (h.next+1) (.cells [.int .i64 4294967296,.int .i64 3,.int .i64 (660+out % 256),.slice none 0 0] 30 .fix):=⟨_,rfl⟩
 have o1:Old h h1:=by rw[h1d];exact⟨by simp only[l5,f6];omega,fun z hz=>by rw[a6 _ _ (by omega),j0 _ _ (by simp only[f6];omega),j0 _ _ (by omega)]⟩
 have n1:h1.next=h.next+1+1:=by rw[h1d];rfl
 have g1:h1.obj h.next=.cells [.int .i64 0,.int .i64 0,.int .i64 0,.slice none 0 0] 30 .fix:=by rw[h1d,a6 _ _ (by omega),j0 _ _ (by simp only[f6];omega)];exact f9 _ _
 have g2:h1.obj (h.next+1)=.cells [.int .i64 4294967296,.int .i64 3,.int .i64 ou,.slice none 0 0] 30 .fix:=by rw[h1d,hou];exact f7 _ _ _
 simp(disch:=first|omega| (simp only[f6,l5,ne_eq];omega))only[c13,↓R13,m8,v8,<-h1d,↓l8,l9,zA,zB,zC,zD,zE,zF,zG,zH,zI,reduceCtorEq,zJ,zK,zL,zM]
 have fin:∀(hh:Heap) (v' :Value) (b:Nat) (ll:List RuleV),ll=b1r l->Old h hh->h.next+1<hh.next->h.next+1<b->hh.obj h.next=.cells [.int .i64 0,.int .i64 0,.int .i64 0,.slice none 0 0] 30 .fix->hh.obj (h.next+1)=.cells [.int .i64 4294967296,.int .i64 3,.int .i64 ou,v'] 30 .fix->
   H0 hh 34 RE v' (ll.map RuleV.t) b->Q (.agg #[.int .i64 4294967296,.int .i64 3,.int .i64 ou,v']) (hh.upd h.next (.cells [.int .i64 4294967296,.int .i64 3,.int .i64 ou,v'] 30 .fix)):=fun hh v' b ll e o hn hb k1 k2 V=>by
  subst e
  exact hQ _ _ b ⟨o.next,fun z hz=>by rw[a6 _ _ (by omega)];exact o.obj z hz⟩ (V.keep (yP _) fun _=>a6 _ _ (by omega)) (by omega)
 refine z7 cp a2C _ (fun d e hh=>∃(j b:Nat) (v' :Value),j+d=l.length/\Old h hh/\h.next+1<hh.next/\h.next+1<b/\hh.obj h.next=.cells [.int .i64 0,.int .i64 0,.int .i64 0,.slice none 0 0] 30 .fix/\hh.obj (h.next+1)=.cells [.int .i64 4294967296,.int .i64 3,.int .i64 ou,v'] 30 .fix/\
   H0 hh 34 RE v' ((((l.take j).take 3).map R7).map RuleV.t) b/\e 4=.pointer (some ⟨h.next,0,none⟩)/\e 5=.pointer (some ⟨h.next+1,0,none⟩)/\e 12=.slice a l.length cap/\e 13=.int .i64 l.length/\e 14=.int .i64 j) ?_ l.length _ _
  ⟨0,h.next+2,.slice none 0 0,by omega,o1,by omega,by omega,g1,g2,H0.nil _ _ _ _,rfl,rfl,rfl,rfl,rfl⟩
 rintro d e hh ⟨j,b,v',hj,o,hn,hb,k1,k2,V,e4,e5,e12,e13,e14⟩
 have on:=o.next
 by_cases cj:j<l.length
 ·have b2:decide ((j:Int)<(l.length:Int))=true:=decide_eq_true (by omega)
  have nx:(j:Int)+1=((j+1:Nat):Int):=by omega
  have hx:l[j]? =some l[j]:=yF cj
  obtain⟨x,hxd⟩:∃x,x=l[j]:=⟨_,rfl⟩
  rw[<-hxd]at hx
  have tk:=I8 hx
  obtain⟨bx,of,rfl,hbx,hr⟩:=hrd j x hx
  rw[<-o.obj bx hbx]at hr
  obtain⟨xl,xw,xb,xs,xc,xr,xd,xt,xm⟩:=x
  have hr:(hh.obj bx).read (of+j*9) 9=some [.int .i64 xl,.int .i64 xw,.int .i64 xb,.int .i64 xs,.int .i64 xc,.int .i64 xr,.int .i64 xd,.int .i64 xt,.bool xm]:=hr
  obtain⟨h2,h2d,o2,n2,q2⟩:=Y0 hh (.cells [.int .i64 0,.int .i64 0,.int .i64 0,.int .i64 0,.int .i64 0,.int .i64 0,.int .i64 0,.int .i64 0,.bool false] 23 .fix) (.cells [.int .i64 xl,.int .i64 xw,.int .i64 xb,.int .i64 xs,.int .i64 xc,.int .i64 xr,.int .i64 xd,.int .i64 xt,.bool xm] 23 .fix)
  have k1' :=(o2.obj h.next (by omega)).trans k1
  have k2' :=(o2.obj (h.next+1) (by omega)).trans k2
  by_cases c3:j<3
  rotate_left
  ·have b3:decide ((j:Int)<3)=false:=decide_eq_false (by omega)
   simp(disch:=omega)only[a2C,c13,↓R13,e4,e5,e12,e13,e14,b2,b3,hr,<-h2d,nx,↓l8,l9,zA,zB,zC,zD,zE,zF,zG,zH,zI,reduceCtorEq,zJ,zK,zL,zM]
   refine⟨d-1,by omega,j+1,b,v',by omega,o.trans o2,by omega,hb,k1',k2',?_,?_⟩
   ·rw[List.take_take,show min 3 (j+1)=3 by omega]
    rw[List.take_take,show min 3 j=3 by omega]at V
    exact V.old o2
   ·repeat' first|assumption|rfl|apply And.intro
  have b3:decide ((j:Int)<3)=true:=decide_eq_true (by omega)
  simp(disch:=omega)only[a2C,c13,↓R13,e4,e5,e12,e13,e14,b2,b3,hr,<-h2d,q2,k1',k2',nx,↓l8,l9,zA,zB,zC,zD,zE,zF,zG,zH,zI,reduceCtorEq,zJ,zK,zL,zM]
  refine a3L h2 (xl,xw,xb,xs,xc,xr,xd,xt,xm) fun h3 o3=>?_
  have n3:=o3.next
  have k13:=(o3.obj h.next (by omega)).trans k1'
  have k23:=(o3.obj (h.next+1) (by omega)).trans k2'
  obtain⟨R,hR⟩:∃R,R=R7 (xl,xw,xb,xs,xc,xr,xd,xt,xm):=⟨_,rfl⟩
  rw[<-hR]
  have tl:(R.c.toArray).toList=R.c:=rfl
  have sc:R.c.all D5=true:=rfl
  have ln:R.c.length=9:=rfl
  have st:setAt [.int .i64 0,.int .i64 0,.int .i64 0,.int .i64 0,.int .i64 0,.int .i64 0,.int .i64 0,.int .i64 0,.bool false] 0 R.c=RE.all [R.t]:=rfl
  have V3:=(V.old (o2.trans o3)).keep (h' :=h3.new (.cells (RE.all [R.t]) 34 .grow)) (Nat.le_succ _) fun hl=>j0 _ _ (by omega)
  have ll3:((((l.take j).take 3).map R7).map RuleV.t).length<=3:=by simp only[yL,List.length_take];omega
  simp(disch:=omega)only[c13,↓R13,k13,k23,v8,tl,sc,ln,st,G9,List.append_nil,↓l8,l9,zA,zB,zC,zD,zE,zF,zG,zH,zI,reduceCtorEq,zJ,zK,zL,zM]
  refine V3.app (m:=[R.t]) (bytes:=72) rfl (Y9 RE h3 R.t 34 1) (by simp only[yM,List.length_nil];omega) (by simp only[yM,List.length_nil];omega) fun v4 h4 b4 V4 n4 hb4 o4=>?_
  have n4' :h3.next+1<=h4.next:=n4
  obtain⟨va4,vc4,hv4,_⟩:=V4.val
  obtain⟨ln4,hln4⟩:∃n,n=(((((l.take j).take 3).map R7).map RuleV.t)++[R.t]).length:=⟨_,rfl⟩
  rw[<-hln4]at hv4
  subst hv4
  have keep4:∀z,z<h3.next->z≠b->h4.obj z=h3.obj z:=fun z hz hne=>by rw[o4 z (by show z<h3.next+1;omega) (.inr hne),j0 _ _ (by omega)]
  have k14:=(keep4 h.next (by omega) (by omega)).trans k13
  have k24:=(keep4 (h.next+1) (by omega) (by omega)).trans k23
  have b4g:h.next+1<b4:=by
   rcases hb4 with rfl|hb4
   ·exact hb
   ·have:h3.next+1<=b4:=hb4
    omega
  simp(disch:=omega)only[c13,↓R13,e4,e5,e12,e13,e14,k24,nx,↓l8,l9,zA,zB,zC,zD,zE,zF,zG,zH,zI,reduceCtorEq,zJ,zK,zL,zM]
  refine⟨d-1,by omega,j+1,b4,.slice va4 ln4 vc4,by omega,⟨by show h.next<=h4.next;omega,fun z hz=>?_⟩,by show h.next+1<h4.next;omega,b4g,?_,by first|exact f7 _ _ _|rfl,?_,?_⟩
  ·rw[a6 _ _ (by omega),keep4 z (by omega) (by omega),o3.obj z (by omega),o2.obj z (by omega),o.obj z hz]
  ·first|exact k14| (rw[a6 _ _ (by omega)];exact k14)
  ·have e1:(((l.take (j+1)).take 3).map R7).map RuleV.t=(((l.take j).take 3).map R7).map RuleV.t++[R.t]:=by
    rw[List.take_take,show min 3 (j+1)=j+1 by omega,List.take_take,show min 3 j=j by omega,tk,hR]
    simp
   rw[e1]
   exact V4.keep (yP _) fun _=>a6 _ _ (by omega)
  ·repeat' first|assumption|rfl|apply And.intro
 have b2:decide ((j:Int)<(l.length:Int))=false:=decide_eq_false (by omega)
 obtain rfl:j=l.length:=by omega
 rw[List.take_length]at V
 by_cases c0:l=[]
 rotate_left
 ·have lp:=List.length_pos_iff.2 c0
  obtain⟨va,vc,rfl,_⟩:=V.val
  have lz:((l.take 3).length:Int)≠0:=by simp only[List.length_take];omega
  have b3:(((l.take 3).length:Int)==0)=false:=beq_eq_false_iff_ne.2 lz
  simp(disch:=omega)only[a2C,c13,↓R13,e4,e5,e12,e13,e14,b2,b3,k1,k2,↓l8,l9,zA,zB,zC,zD,zE,zF,zG,zH,zI,reduceCtorEq,zJ,zK,zL,zM]
  rw[yL,yL]at k2 V
  refine fin hh _ b _ ?_ o hn hb k1 k2 V
  unfold b1r;rw[if_neg c0]
 ·subst c0
  obtain⟨va,vc,rfl,_⟩:=V.val
  have b2:decide (((0:Nat):Int)<((0:Nat):Int))=false:=by decide
  have b3:(((([]:List E3).take 3).length:Int)==0)=true:=rfl
  have b4:(((0:Nat):Int)==0)=true:=rfl
  simp(disch:=omega)only[a2C,c13,↓R13,e4,e5,e12,e13,e14,b2,b3,b4,k1,k2,v8,↓l8,l9,zA,zB,zC,zD,zE,zF,zG,zH,zI,reduceCtorEq,zJ,zK,zL,zM]
  refine a3L hh (0,0,0,0,0,0,0,0,false) fun h3 o3=>?_
  have n3:=o3.next
  have k13:=(o3.obj h.next (by omega)).trans k1
  have k23:=(o3.obj (h.next+1) (by omega)).trans k2
  obtain⟨R,hR⟩:∃R,R=R7 (0,0,0,0,0,0,0,0,false):=⟨_,rfl⟩
  rw[<-hR]
  have tl:(R.c.toArray).toList=R.c:=rfl
  have sc:R.c.all D5=true:=rfl
  have ln:R.c.length=9:=rfl
  have st:setAt [.int .i64 0,.int .i64 0,.int .i64 0,.int .i64 0,.int .i64 0,.int .i64 0,.int .i64 0,.int .i64 0,.bool false] 0 R.c=RE.all [R.t]:=rfl
  have V3:=(V.old o3).keep (h' :=h3.new (.cells (RE.all [R.t]) 34 .grow)) (Nat.le_succ _) fun hl=>j0 _ _ (by omega)
  simp(disch:=omega)only[c13,↓R13,k13,k23,v8,tl,sc,ln,st,G9,List.append_nil,↓l8,l9,zA,zB,zC,zD,zE,zF,zG,zH,zI,reduceCtorEq,zJ,zK,zL,zM]
  refine V3.app (m:=[R.t]) (bytes:=72) rfl (Y9 RE h3 R.t 34 1) (by simp) (by simp) fun v4 h4 b4 V4 n4 hb4 o4=>?_
  have n4' :h3.next+1<=h4.next:=n4
  obtain⟨va4,vc4,hv4,_⟩:=V4.val
  obtain⟨ln4,hln4⟩:∃n,n=((((([]:List E3).take 3).map R7).map RuleV.t)++[R.t]).length:=⟨_,rfl⟩
  rw[<-hln4]at hv4
  subst hv4
  have keep4:∀z,z<h3.next->z≠b->h4.obj z=h3.obj z:=fun z hz hne=>by rw[o4 z (by show z<h3.next+1;omega) (.inr hne),j0 _ _ (by omega)]
  have k14:=(keep4 h.next (by omega) (by omega)).trans k13
  have k24:=(keep4 (h.next+1) (by omega) (by omega)).trans k23
  have b4g:h.next+1<b4:=by
   rcases hb4 with rfl|hb4
   ·exact hb
   ·have:h3.next+1<=b4:=hb4
    omega
  obtain⟨h5,h5d⟩:∃h5,h5=h4.upd (h.next+1) (.cells [.int .i64 4294967296,.int .i64 3,.int .i64 ou,(.slice va4 ln4 vc4)] 30 .fix):=⟨_,rfl⟩
  have n5:h5.next=h4.next:=by rw[h5d];rfl
  have k25:h5.obj (h.next+1)=.cells [.int .i64 4294967296,.int .i64 3,.int .i64 ou,(.slice va4 ln4 vc4)] 30 .fix:=by rw[h5d];exact f7 _ _ _
  have k15:h5.obj h.next=.cells [.int .i64 0,.int .i64 0,.int .i64 0,.slice none 0 0] 30 .fix:=by rw[h5d,a6 _ _ (by omega)];exact k14
  simp(disch:=omega)only[c13,↓R13,e4,e5,e12,e13,e14,k24,<-h5d,k25,k15,↓l8,l9,zA,zB,zC,zD,zE,zF,zG,zH,zI,reduceCtorEq,zJ,zK,zL,zM]
  refine fin h5 (.slice va4 ln4 vc4) b4 [R] (by rw[hR];rfl) ⟨by omega,fun z hz=>?_⟩ (by omega) b4g k15 k25 ?_
  ·rw[h5d,a6 _ _ (by omega),keep4 z (by omega) (by omega),o3.obj z (by omega),o.obj z hz]
  ·exact V4.keep (by omega) fun _=>by rw[h5d];exact a6 _ _ (by omega)
theorem d9d{α:Type}{h:Heap}{E:Enc α}{b:Nat}{t:TypeId}{g:How}(x:α)(hb:b<h.next)(ho:h.obj b=.cells (E.enc x) t g)(hl:(E.enc x).length=E.sz):Lst h E (.slice (some ⟨b,0,none⟩) 1 1) [x]:=by
 refine⟨_,1,rfl,fun i y hy=>?_⟩
 have hi:=(List.getElem?_eq_some_iff.1 hy).1
 have:i=0:=by simpa using hi
 subst this
 obtain rfl:x=y:=by simpa using hy
 refine⟨b,0,rfl,hb,?_⟩
 rw[ho,N2,if_pos (by rw[hl];omega)]
 simp[<-hl]
theorem b5w{q:ReqV}{rule cost:Int}{kl:List Int}(hk:I1 kl)(hq:q=⟨1,rule,cost,kl,0⟩):I1 (H7 q):=by
 subst hq
 show I1 (O6 167 ([1 % 256,rule % 256]++(T4 4 cost++[(kl.length:Int) % 256]++kl)))
 have h0:I1 [(1:Int) % 256,rule % 256]:=fun x hx=>by simp at hx;omega
 have h1:I1 [(kl.length:Int) % 256]:=fun x hx=>by simp at hx;omega
 have h2:∀l:List Int,I1 l->I1 (O6 167 l):=fun l hl=>by
  have:I1 [(167:Int),1,(l.length:Int) / 256 % 256,(l.length:Int) % 256]:=fun x hx=>by simp at hx;omega
  exact this.app hl
 exact h2 _ (h0.app (((a3o 4 cost).app h1).app hk))
def c6S(x:Int):Int:=if x % 2=1 then x / 2 % 1024 else x / 2 % 16
theorem d9U(x:Int):0<=c6S x/\c6S x<=1023:=by unfold c6S;split<;>omega
theorem d2Q(h:Heap)(x:Int)(hx:C0 x)(Q:Value->Heap->Prop):u5 cp 16 [.int .i64 x] h Q↔Q (.int .i64 (c6S x)) h:=by
 refine u7 ?_ Q
 rw[b8 cp e9R]
 have s1:=fun x:Int=>a2v .i64 x 1 (by decide)
 have m1:=U4 1 (by decide) x 1 (by decide)
 have m12:=U4 10 (by decide) (x / 2) 1023 (by decide)
 have m4:=U4 4 (by decide) (x / 2) 15 (by decide)
 have p1:(2:Int) ^ 1=2:=by decide
 have p4:(2:Int) ^ 4=16:=by decide
 have p12:(2:Int) ^ 10=1024:=by decide
 unfold C0 at hx
 unfold c6S
 by_cases c:x % 2=1
 ·have a1:(x % 2==1)=true:=by rw[c];rfl
  rw[if_pos c]
  simp(disch:=omega)only[c16,↓R16,s1,m1,m12,m4,p1,p4,p12,a1,↓l8,l9,zA,zB,zC,zD,zE,zF,zG,zH,zI,reduceCtorEq,zJ,zK,zL,zM]
 ·have a1:(x % 2==1)=false:=beq_eq_false_iff_ne.2 c
  rw[if_neg c]
  simp(disch:=omega)only[c16,↓R16,s1,m1,m12,m4,p1,p4,p12,a1,↓l8,l9,zA,zB,zC,zD,zE,zF,zG,zH,zI,reduceCtorEq,zJ,zK,zL,zM]
theorem e8T{x:Int}(h:(Lit.int .i64 x).wf=true):C0 x:=by have:=e2F h;unfold C0 at*;omega
section
variable {h h' :Heap} {a:SrvA} {w:SW} {q:Qs}
theorem e2n(S:SI h a w q){k:Nat}{l:List Int}(hq:q k=some l){rq:ReqV}(rc:ReqC a.las.length rq){rule cost:Int}{kl:List Int}(ho:rq=⟨1,rule,cost,kl,0⟩)(hk:w.k+1<=1000000000)(hou:l.length+22<=a.ou)(t n:Int)(ht:t<=1000000000)
  {x:Value} {b:Nat} (V:H0 h 5 B8 x (H7 rq) b) (hb:¬a.own none b) {R:(SW×List EvT)×List Int} (hR:R=a1p a.las (w.rd t,[]) rq) {Q:Value->Heap->Prop}
  (hQ:∀h' evv eb,OldF (a.own none) h h' ->SI h' a R.1.1 (q.set k (l++R.2))->H0 h' 123 EvE evv R.1.2 eb/\(R.1.2=[]/\evv=.slice none 0 0\/h.next<=eb)->Q (.agg #[.int .i64 0,.int .i64 (H7 rq).length,K8,evv]) h'):
  u5 cp 15 [.pointer (some ⟨a.s,0,none⟩),.agg #[.int .i64 2,.int .i64 t,.int .i64 k,x,.int .i64 n,.slice none 0 0]] h Q:=by
 have rb:=rc.byt
 rw[ho]at rb
 refine e1x S hq rc (by rw[ho]) hk hou t n ht x V.bys (b5w rb ho) (fun z o cap e hz=>?_) hR hQ
 have:z=b:=V.blk e
 exact hb (this▸hz)
theorem SI.old'{F:Nat->Prop}{h0:Heap}(o:Old h0 h)(k:OldF F h h')(hF:∀z,F z->h0.next<=z):Old h0 h' :=⟨yR o.next k.next,fun z hz=>by rw[k.obj z (yN hz o.next) (fun hz' =>by have:=hF z hz';omega),o.obj z hz]⟩
theorem SI.geo(S:SI h a w q){i:Nat}{L:LA}{x:LV}(hL:a.las[i]? =some L)(hx:w.ls[i]? =some x):x.P.OK L.R.C/\L.R.OK/\1<=L.rp.W/\L.rp.N<=65:=by
 obtain⟨cs,⟨v,S,r,sb⟩,_⟩:=S
 have hi:=(List.getElem?_eq_some_iff.1 hL).1
 obtain⟨l,hl⟩:∃l,v.ls[i]? =some l:=⟨_,yF (by rw[S.ll];exact hi)⟩
 have M:=r.rel i L l x hL hl hx _ (S.L i L l hL hl)
 obtain⟨g1,g2⟩:=RP.geo M.geo
 have:=M.P.ok
 rw[M.geo.pn]at this
 exact⟨this,M.geo.ok,g1,g2⟩
theorem SI.k(S:SI h a w q):0<=w.k:=by
 obtain⟨cs,⟨v,S,r,sb⟩,_⟩:=S
 exact sb.k.1
theorem SI.now(S:SI h a w q):0<=w.now/\w.now<=1000000000:=by
 obtain⟨cs,⟨v,S,r,sb⟩,_⟩:=S
 exact sb.now
end
end Go.Proofs.YtlakhgibjfmjjaaGreat.Can
namespace Go.Proofs.YtlakhgibjfmjjaaGreat.Can.Cl
open Go
attribute [local congr] s9 u4 l7 l6 m9 s7 r8 u9 u6
def Neg(z:Int):Prop:= -1000<=z/\z<=2305999999999900000
theorem OldX.refl(X:Nat)(h:Heap):OldX X h h:=⟨yP _,fun _ _ _=>rfl⟩
abbrev ruleX(L W B:Int)(y9:Nat×Nat×Nat×Nat×Nat×Bool):List Value:=[.int .i64 L,.int .i64 W,.int .i64 B,.int .i64 y9.1,.int .i64 y9.2.1,.int .i64 y9.2.2.1,.int .i64 y9.2.2.2.1,.int .i64 y9.2.2.2.2.1,.bool y9.2.2.2.2.2]
section
variable {T W B L F S C U now:Int} {y9:Nat×Nat×Nat×Nat×Nat×Bool}
theorem unit_ok(h:Heap)(p:PaceOk T W B L)(hT:T=J5 W (L+1-B)){Q:Value->Heap->Prop}(hQ:∀h',Old h h' ->Q (.int .i64 T) h'):u5 cp 41 [.agg (ruleX L W B y9).toArray] h Q:=by
 rw[b8 cp e7C]
 have w1:=p.w1
 have w2:=p.w2
 have b1:=p.b1
 have bl:=p.bl
 have l2:=p.l2
 obtain⟨d,hd⟩:∃d,d=L+1-B:=⟨_,rfl⟩
 rw[<-hd]at hT
 have nd:(d=0)=False:=by simp;omega
 have td:Int.tdiv W d=W / d:=a2h _ _ (by omega)
 have e:=Int.ediv_mul_add_emod W d
 have r0:=Int.emod_nonneg W (show d≠0 by omega)
 have r1:=Int.emod_lt_of_pos W (show 0<d by omega)
 have q0:0<=W / d:=Int.ediv_nonneg (by omega) (by omega)
 have q1:W / d<=W:=Int.ediv_le_self d (by omega)
 have q2:0<=W / d*d:=yO q0 (by omega)
 unfold J5 at hT
 by_cases c:W % d=0
 ·rw[if_pos c]at hT
  have a1:decide (W / d*d<W)=false:=decide_eq_false (by omega)
  rw[hT]at hQ
  simp(disch:=first|omega| (simp only[f6,l5,ne_eq];omega))only[c41,↓R41,<-hd,nd,td,a1,↓l8,l9,zA,zB,zC,zD,zE,zF,zG,zH,zI,reduceCtorEq,zJ,zK,zL,zM]
  exact hQ _ ((Old.refl h).more _)
 ·rw[if_neg c]at hT
  have a1:decide (W / d*d<W)=true:=decide_eq_true (by omega)
  rw[hT]at hQ
  simp(disch:=first|omega| (simp only[f6,l5,ne_eq];omega))only[c41,↓R41,<-hd,nd,td,a1,↓l8,l9,zA,zB,zC,zD,zE,zF,zG,zH,zI,reduceCtorEq,zJ,zK,zL,zM]
  exact hQ _ ((Old.refl h).more _)
theorem one_yes'(h:Heap){x:Nat}(ox:h.obj x=.cells (cellC F S C U) 52 .fix)(lx:x<h.next)(p:PaceOk T W B L)(hT:T=J5 W (L+1-B))(hF:Small F)(hn:Small now)(hM:max F now<=now+(B-1)*T){Q:Value->Heap->Prop}
  (hQ:∀h',OldX x h h' ->h'.obj x=.cells (cellC (max F now+T) S C U) 52 .fix->Q (.bool true) h'):u5 cp 42 [.pointer (some ⟨x,0,none⟩),.agg (ruleX L W B y9).toArray,.int .i64 now] h Q:=by
 rw[b8 cp e3E]
 have xn:x≠h.next:=by omega
 have hb:=bc_le p (yQ 1) p.b1
 have b1:=p.b1
 have bl:=p.bl
 have l2:=p.l2
 have t1:=p.t1
 have t2:=p.t2
 unfold Small at hF hn
 simp(disch:=first|omega| (simp only[f6,l5,ne_eq];omega))only[c42,↓R42,↓l8,l9,zA,zB,zC,zD,zE,zF,zG,zH,zI,reduceCtorEq,zJ,zK,zL,zM]
 refine unit_ok _ p hT fun h1 o1=>?_
 have g1:=(o1.obj x (by simp only[f6];omega)).trans ((j0 _ _ xn).trans ox)
 have g2:=(o1.obj h.next (Nat.lt_succ_self _)).trans (f9 _ _)
 have n1:=o1.next
 simp only[f6]at n1
 have fin:∀h2,Old h1 h2->OldX x h (h2.upd x (.cells (cellC (max F now+T) S C U) 52 .fix)):=fun h2 o2=>⟨by have:=o2.next;show h.next<=h2.next;omega,fun b hb hne=>by rw[a6 _ _ hne,o2.obj b (by omega),o1.obj b (Nat.lt_succ_of_lt hb),j0 _ _ (by omega)]⟩
 have a2:decide (max F now>now+(B-1)*T)=false:=decide_eq_false (by omega)
 by_cases c:F<now
 ·have a1:=decide_eq_true c
  rw[show max F now=now by omega]at a2 hQ fin
  simp(disch:=first|omega| (simp only[f6,l5,ne_eq];omega))only[c42,↓R42,g1,g2,a1,a2,D3,↓l8,l9,zA,zB,zC,zD,zE,zF,zG,zH,zI,reduceCtorEq,zJ,zK,zL,zM]
  refine unit_ok _ p hT fun h2 o2=>?_
  have g3:=(o2.obj x (by omega)).trans g1
  simp(disch:=first|omega| (simp only[f6,l5,ne_eq];omega))only[c42,↓R42,g3,D3,↓l8,l9,zA,zB,zC,zD,zE,zF,zG,zH,zI,reduceCtorEq,zJ,zK,zL,zM]
  exact hQ _ (fin h2 o2) (f7 _ _ _)
 ·have a1:=decide_eq_false c
  rw[show max F now=F by omega]at a2 hQ fin
  simp(disch:=first|omega| (simp only[f6,l5,ne_eq];omega))only[c42,↓R42,g1,g2,a1,a2,D3,↓l8,l9,zA,zB,zC,zD,zE,zF,zG,zH,zI,reduceCtorEq,zJ,zK,zL,zM]
  refine unit_ok _ p hT fun h2 o2=>?_
  have g3:=(o2.obj x (by omega)).trans g1
  simp(disch:=first|omega| (simp only[f6,l5,ne_eq];omega))only[c42,↓R42,g3,D3,↓l8,l9,zA,zB,zC,zD,zE,zF,zG,zH,zI,reduceCtorEq,zJ,zK,zL,zM]
  exact hQ _ (fin h2 o2) (f7 _ _ _)
theorem one_no'(h:Heap){x:Nat}(ox:h.obj x=.cells (cellC F S C U) 52 .fix)(lx:x<h.next)(p:PaceOk T W B L)(hT:T=J5 W (L+1-B))(hF:Small F)(hn:Small now)(hM:¬max F now<=now+(B-1)*T){Q:Value->Heap->Prop}
  (hQ:∀h',Old h h' ->Q (.bool false) h'):u5 cp 42 [.pointer (some ⟨x,0,none⟩),.agg (ruleX L W B y9).toArray,.int .i64 now] h Q:=by
 rw[b8 cp e3E]
 have xn:x≠h.next:=by omega
 have hb:=bc_le p (yQ 1) p.b1
 have b1:=p.b1
 have bl:=p.bl
 have l2:=p.l2
 unfold Small at hF hn
 simp(disch:=first|omega| (simp only[f6,l5,ne_eq];omega))only[c42,↓R42,↓l8,l9,zA,zB,zC,zD,zE,zF,zG,zH,zI,reduceCtorEq,zJ,zK,zL,zM]
 refine unit_ok _ p hT fun h1 o1=>?_
 have g1:=(o1.obj x (by simp only[f6];omega)).trans ((j0 _ _ xn).trans ox)
 have g2:=(o1.obj h.next (Nat.lt_succ_self _)).trans (f9 _ _)
 have o1:=((Old.refl h).more _).trans o1
 have a2:decide (max F now>now+(B-1)*T)=true:=decide_eq_true (by omega)
 by_cases c:F<now
 ·have a1:=decide_eq_true c
  rw[show max F now=now by omega]at a2
  simp(disch:=first|omega| (simp only[f6,l5,ne_eq];omega))only[c42,↓R42,g1,g2,a1,a2,D3,↓l8,l9,zA,zB,zC,zD,zE,zF,zG,zH,zI,reduceCtorEq,zJ,zK,zL,zM]
  exact hQ _ o1
 ·have a1:=decide_eq_false c
  rw[show max F now=F by omega]at a2
  simp(disch:=first|omega| (simp only[f6,l5,ne_eq];omega))only[c42,↓R42,g1,g2,a1,a2,D3,↓l8,l9,zA,zB,zC,zD,zE,zF,zG,zH,zI,reduceCtorEq,zJ,zK,zL,zM]
  exact hQ _ o1
theorem ryoung_ok(h:Heap)(p:PaceOk T W B L)(hS:Neg S)(hn:Small now){Q:Value->Heap->Prop}(hQ:∀h',Old h h' ->Q (.bool (decide (now-S<W))) h'):
  u5 cp 43 [.agg (cellC F S C U).toArray,.agg (ruleX L W B y9).toArray,.int .i64 now] h Q:=by
 rw[b8 cp e8t]
 unfold Small at hn;unfold Neg at hS
 simp(disch:=first|omega| (simp only[f6,l5,ne_eq];omega))only[c43,↓R43,↓l8,l9,zA,zB,zC,zD,zE,zF,zG,zH,zI,reduceCtorEq,zJ,zK,zL,zM]
 exact hQ _ (((Old.refl h).more _).more _)
theorem refroom_ok(h:Heap)(p:PaceOk T W B L)(hT:T=J5 W (L+1-B))(hF:Low F)(hS:Neg S)(hC:Small C)(hU:Small U)(hn:Low now){Q:Value->Heap->Prop}(hQ:∀h',Old h h' ->Q (.int .i64 (room F S C U T W B L now)) h'):
  u5 cp 19 [.agg (cellC F S C U).toArray,.agg (ruleX L W B y9).toArray,.int .i64 now] h Q:=by
 rw[b8 cp e7H]
 have hbr:= @base_range F T B now W L p
 have b1:=p.b1
 have bl:=p.bl
 have l2:=p.l2
 have t1:=p.t1
 have t2:=p.t2
 have hn' :Small now:=⟨hn.1,by have:=hn.2;omega⟩
 have hF' :=hF
 have hn'' :=hn
 unfold Low at hF' hn''
 simp(disch:=first|omega| (simp only[f6,l5,ne_eq];omega))only[c19,↓R19,↓l8,l9,zA,zB,zC,zD,zE,zF,zG,zH,zI,reduceCtorEq,zJ,zK,zL,zM]
 have oX:Old h ((((h.new (.cells (cellC F S C U) 52 .fix)).new (.cells (ruleX L W B y9) 34 .fix)).new (.cells (cellC 0 0 0 0) 52 .fix)).upd (h.next+1+1) (.cells (cellC F S C U) 52 .fix)):=(((Old.refl h).more _).more _).put _ _
 have gX1:((((h.new (.cells (cellC F S C U) 52 .fix)).new (.cells (ruleX L W B y9) 34 .fix)).new (.cells (cellC 0 0 0 0) 52 .fix)).upd (h.next+1+1) (.cells (cellC F S C U) 52 .fix)).obj h.next=.cells (cellC F S C U) 52 .fix:=by
  rw[a6 _ _ (by omega),j0 _ _ (by simp only[f6];omega),j0 _ _ (by simp only[f6];omega)];exact f9 _ _
 have gX2:((((h.new (.cells (cellC F S C U) 52 .fix)).new (.cells (ruleX L W B y9) 34 .fix)).new (.cells (cellC 0 0 0 0) 52 .fix)).upd (h.next+1+1) (.cells (cellC F S C U) 52 .fix)).obj (h.next+1)=.cells (ruleX L W B y9) 34 .fix:=by
  rw[a6 _ _ (by omega),j0 _ _ (by simp only[f6];omega)];exact f9 _ _
 have gX3:((((h.new (.cells (cellC F S C U) 52 .fix)).new (.cells (ruleX L W B y9) 34 .fix)).new (.cells (cellC 0 0 0 0) 52 .fix)).upd (h.next+1+1) (.cells (cellC F S C U) 52 .fix)).obj (h.next+1+1)=.cells (cellC F S C U) 52 .fix:=f7 _ _ _
 have nX:((((h.new (.cells (cellC F S C U) 52 .fix)).new (.cells (ruleX L W B y9) 34 .fix)).new (.cells (cellC 0 0 0 0) 52 .fix)).upd (h.next+1+1) (.cells (cellC F S C U) 52 .fix)).next=h.next+1+1+1:=rfl
 generalize ((((h.new (.cells (cellC F S C U) 52 .fix)).new (.cells (ruleX L W B y9) 34 .fix)).new (.cells (cellC 0 0 0 0) 52 .fix)).upd (h.next+1+1) (.cells (cellC F S C U) 52 .fix))=hX at*
 refine z7 cp b1a _ (fun d e hh=>∃(i:Nat) (D:Int),(i:Int)+d=base F T B now/\OldX (h.next+1+1) hX hh/\hh.obj (h.next+1+1)=.cells (cellC D S C U) 52 .fix/\max D now=max F now+i*T/\Small D/\
   e 2=.int .i64 now/\e 3=.pointer (some ⟨h.next,0,none⟩)/\e 4=.pointer (some ⟨h.next+1,0,none⟩)/\e 7=.int .i64 i/\e 8=.pointer (some ⟨h.next+1+1,0,none⟩)) ?_ (base F T B now).toNat _ _
  ⟨0,F,by omega,OldX.refl _ _,gX3,by omega,⟨hF.1,by omega⟩,rfl,rfl,rfl,rfl,rfl⟩
 rintro d e hh ⟨i,D,hi,o,g8,hD,sD,e2,e3,e4,e7,e8⟩
 have on:=o.next
 have G1:=(o.obj h.next (by omega) (by omega)).trans gX1
 have G2:=(o.obj (h.next+1) (by omega) (by omega)).trans gX2
 have oH:Old h hh:=⟨by omega,fun b hb=>by rw[o.obj b (by omega) (by omega),oX.obj b hb]⟩
 have iT:=iT_le p i (by omega)
 have rest:∀(e:b7) (h9:Heap),Old h h9->h9.obj h.next=.cells (cellC F S C U) 52 .fix->h9.obj (h.next+1)=.cells (ruleX L W B y9) 34 .fix->h.next+1<h9.next->(i:Int)=base F T B now->e 2=.int .i64 now->e 3=.pointer (some ⟨h.next,0,none⟩)->e 4=.pointer (some ⟨h.next+1,0,none⟩)->e 7=.int .i64 i->
   u5 cp 43 [.agg #[.int .i64 F,.int .i64 S,.int .i64 C,.int .i64 U],.agg #[.int .i64 L,.int .i64 W,.int .i64 B,.int .i64 y9.1,.int .i64 y9.2.1,.int .i64 y9.2.2.1,.int .i64 y9.2.2.2.1,.int .i64 y9.2.2.2.2.1,.bool y9.2.2.2.2.2],.int .i64 now] h9
    (a0w cp (fun t25=>Reg.done (e.upd 25 t25)) (a2Y cp (.cond (fun e=>e 25) (.seq (.region b5U) (.seq (.seq (.region b5L) (.cond (fun e=>e 35) (.region b6c) .skip)) (.seq (.region b5H) (.cond (fun e=>e 38) (.region b0Q) .skip)))) .skip) (a2Y cp (.seq (.region b1B) .ret) (a1W [.t 6] Q)))):=by
  intro e h9 o9 g1 g2 n9 hb e2 e3 e4 e7
  refine ryoung_ok h9 p hS hn' fun h10 o10=>?_
  have q1:=(o10.obj h.next (by omega)).trans g1
  have q2:=(o10.obj (h.next+1) n9).trans g2
  have o11:=o9.trans o10
  unfold Small at hC hU;unfold Neg at hS
  by_cases y:now-S<W
  ·have a1:=decide_eq_true y
   have re:room F S C U T W B L now=min (i:Int) (max (L-(C+U)) 0):=by unfold room;rw[if_pos (by omega),hb]
   rw[re]at hQ
   by_cases c1:L-C-U<0
   ·have a2:=decide_eq_true c1
    by_cases c2:(0:Int)<(i:Int)
    ·have a3:=decide_eq_true c2
     rw[show min (i:Int) (max (L-(C+U)) 0)=0 by omega]at hQ
     simp(disch:=first|omega| (simp only[f6,l5,ne_eq];omega))only[c19,↓R19,e2,e3,e4,e7,q1,q2,a1,a2,a3,↓l8,l9,zA,zB,zC,zD,zE,zF,zG,zH,zI,reduceCtorEq,zJ,zK,zL,zM]
     exact hQ _ o11
    ·have a3:=decide_eq_false c2
     rw[show min (i:Int) (max (L-(C+U)) 0)=i by omega]at hQ
     simp(disch:=first|omega| (simp only[f6,l5,ne_eq];omega))only[c19,↓R19,e2,e3,e4,e7,q1,q2,a1,a2,a3,↓l8,l9,zA,zB,zC,zD,zE,zF,zG,zH,zI,reduceCtorEq,zJ,zK,zL,zM]
     exact hQ _ o11
   ·have a2:=decide_eq_false c1
    by_cases c2:L-C-U<(i:Int)
    ·have a3:=decide_eq_true c2
     rw[show min (i:Int) (max (L-(C+U)) 0)=L-C-U by omega]at hQ
     simp(disch:=first|omega| (simp only[f6,l5,ne_eq];omega))only[c19,↓R19,e2,e3,e4,e7,q1,q2,a1,a2,a3,↓l8,l9,zA,zB,zC,zD,zE,zF,zG,zH,zI,reduceCtorEq,zJ,zK,zL,zM]
     exact hQ _ o11
    ·have a3:=decide_eq_false c2
     rw[show min (i:Int) (max (L-(C+U)) 0)=i by omega]at hQ
     simp(disch:=first|omega| (simp only[f6,l5,ne_eq];omega))only[c19,↓R19,e2,e3,e4,e7,q1,q2,a1,a2,a3,↓l8,l9,zA,zB,zC,zD,zE,zF,zG,zH,zI,reduceCtorEq,zJ,zK,zL,zM]
     exact hQ _ o11
  ·have a1:=decide_eq_false y
   have re:room F S C U T W B L now=(i:Int):=by unfold room;rw[if_neg (by omega),hb]
   rw[re]at hQ
   simp(disch:=first|omega| (simp only[f6,l5,ne_eq];omega))only[c19,↓R19,e2,e3,e4,e7,q1,q2,a1,↓l8,l9,zA,zB,zC,zD,zE,zF,zG,zH,zI,reduceCtorEq,zJ,zK,zL,zM]
   exact hQ _ o11
 by_cases cB:(i:Int)<B
 ·have b2:decide ((i:Int)<B)=true:=decide_eq_true cB
  have si:=step_iff p F now D i (by omega) hD
  simp(disch:=first|omega| (simp only[f6,l5,ne_eq];omega))only[b1a,c19,↓R19,e2,e3,e4,e7,e8,G2,b2,↓l8,l9,zA,zB,zC,zD,zE,zF,zG,zH,zI,reduceCtorEq,zJ,zK,zL,zM]
  by_cases cM:max D now<=now+(B-1)*T
  ·have lt:=si.1 cM
   have nx:(i:Int)+1=((i+1:Nat):Int):=by omega
   refine one_yes' hh g8 (by omega) p hT sD hn' cM fun h9 o9 g9=>?_
   simp(disch:=first|omega| (simp only[f6,l5,ne_eq];omega))only[c19,↓R19,e2,e3,e4,e7,e8,nx,↓l8,l9,zA,zB,zC,zD,zE,zF,zG,zH,zI,reduceCtorEq,zJ,zK,zL,zM]
   have eT:((i+1:Nat):Int)*T=i*T+T:=by rw[Int.natCast_add,Int.add_mul];simp
   refine⟨d-1,by omega,i+1,_,by omega,o.trans o9,g9,by rw[eT];omega,⟨by omega,by omega⟩,?_⟩
   repeat' first|assumption|rfl|apply And.intro
  ·have ne:¬(i:Int)+1<=base F T B now:=fun h=>cM (si.2 h)
   refine one_no' hh g8 (by omega) p hT sD hn' cM fun h9 o9=>?_
   have G3:=(o9.obj h.next (by omega)).trans G1
   have G4:=(o9.obj (h.next+1) (by omega)).trans G2
   have n9:=o9.next
   simp(disch:=first|omega| (simp only[f6,l5,ne_eq];omega))only[c19,↓R19,e2,e3,e4,e7,e8,G3,G4,↓l8,l9,zA,zB,zC,zD,zE,zF,zG,zH,zI,reduceCtorEq,zJ,zK,zL,zM]
   exact rest _ h9 (oH.trans o9) G3 G4 (by omega) (by omega) e2 e3 e4 e7
 ·have b2:decide ((i:Int)<B)=false:=decide_eq_false cB
  simp(disch:=first|omega| (simp only[f6,l5,ne_eq];omega))only[b1a,c19,↓R19,e2,e3,e4,e7,e8,G1,G2,b2,↓l8,l9,zA,zB,zC,zD,zE,zF,zG,zH,zI,reduceCtorEq,zJ,zK,zL,zM]
  exact rest _ hh oH G1 G2 (by omega) (by omega) e2 e3 e4 e7
theorem reftake_no(h:Heap){x:Nat}(ox:h.obj x=.cells (cellC F S C U) 52 .fix)(lx:x<h.next)(p:PaceOk T W B L)(hT:T=J5 W (L+1-B))(hF:Low F)(hS:Neg S)(hC:Small C)(hU:Small U)(hn:Low now)(c:Int)(hc:¬(1<=c/\c<=room F S C U T W B L now)){Q:Value->Heap->Prop}(hQ:∀h',Old h h' ->Q (.bool false) h'):
  u5 cp 18 [.pointer (some ⟨x,0,none⟩),.agg (ruleX L W B y9).toArray,.int .i64 now,.int .i64 c] h Q:=by
 rw[b8 cp e6c]
 have xn:x≠h.next:=by omega
 by_cases c1:c<1
 ·have a1:=decide_eq_true c1
  simp(disch:=first|omega| (simp only[f6,l5,ne_eq];omega))only[c18,↓R18,a1,↓l8,l9,zA,zB,zC,zD,zE,zF,zG,zH,zI,reduceCtorEq,zJ,zK,zL,zM]
  exact hQ _ ((Old.refl h).more _)
 have a1:=decide_eq_false c1
 have a2:decide (c>room F S C U T W B L now)=true:=decide_eq_true (by omega)
 simp(disch:=first|omega| (simp only[f6,l5,ne_eq];omega))only[c18,↓R18,a1,ox,↓l8,l9,zA,zB,zC,zD,zE,zF,zG,zH,zI,reduceCtorEq,zJ,zK,zL,zM]
 refine refroom_ok _ p hT hF hS hC hU hn fun h1 o1=>?_
 simp(disch:=first|omega| (simp only[f6,l5,ne_eq];omega))only[c18,↓R18,a1,a2,ox,↓l8,l9,zA,zB,zC,zD,zE,zF,zG,zH,zI,reduceCtorEq,zJ,zK,zL,zM]
 exact hQ _ (((Old.refl h).more _).trans o1)
theorem reftake_yes(h:Heap){x:Nat}(ox:h.obj x=.cells (cellC F S C U) 52 .fix)(lx:x<h.next)(p:PaceOk T W B L)(hT:T=J5 W (L+1-B))(hF:Low F)(hS:Neg S)(hC:Small C)(hU:Small U)(hn:Low now)(c:Int)(hc1:1<=c)(hc:c<=room F S C U T W B L now){Q:Value->Heap->Prop}
  (hQ:∀h',OldX x h h' ->h'.obj x=.cells (cellC (max F now+c*T) S C (U+c)) 52 .fix->Q (.bool true) h'):
  u5 cp 18 [.pointer (some ⟨x,0,none⟩),.agg (ruleX L W B y9).toArray,.int .i64 now,.int .i64 c] h Q:=by
 rw[b8 cp e6c]
 have xn:x≠h.next:=by omega
 have bl:=p.bl
 have l2:=p.l2
 have t1:=p.t1
 have t2:=p.t2
 have hbr:= @base_range F T B now W L p
 have hbase:c<=base F T B now:=by unfold room at hc;split at hc<;>omega
 have hn' :Small now:=⟨hn.1,by have:=hn.2;omega⟩
 have a1:decide (c<1)=false:=decide_eq_false (by omega)
 have a2:decide (c>room F S C U T W B L now)=false:=decide_eq_false (by omega)
 simp(disch:=first|omega| (simp only[f6,l5,ne_eq];omega))only[c18,↓R18,a1,ox,↓l8,l9,zA,zB,zC,zD,zE,zF,zG,zH,zI,reduceCtorEq,zJ,zK,zL,zM]
 refine refroom_ok _ p hT hF hS hC hU hn fun h1 o1=>?_
 have g1:=(o1.obj x (by simp only[f6];omega)).trans ((j0 _ _ xn).trans ox)
 have g2:=(o1.obj h.next (Nat.lt_succ_self _)).trans (f9 _ _)
 have n1:=o1.next
 simp only[f6]at n1
 have o1:=((Old.refl h).more _).trans o1
 have hF' :=hF
 have hn'' :=hn
 have hU' :=hU
 unfold Low at hF' hn''
 unfold Small at hU'
 simp(disch:=first|omega| (simp only[f6,l5,ne_eq];omega))only[c18,↓R18,a1,a2,g1,g2,↓l8,l9,zA,zB,zC,zD,zE,zF,zG,zH,zI,reduceCtorEq,zJ,zK,zL,zM]
 obtain⟨k,hk⟩:∃k:Nat,c=k:=⟨c.toNat,by omega⟩
 refine z7 cp b1A _ (fun d e hh=>∃(i:Nat) (D:Int),i+d=k/\OldX x h hh/\hh.obj x=.cells (cellC D S C U) 52 .fix/\hh.obj h.next=.cells (ruleX L W B y9) 34 .fix/\h.next<hh.next/\max D now=max F now+i*T/\(1<=i->D=max F now+i*T)/\Small D/\
   e 0=.pointer (some ⟨x,0,none⟩)/\e 2=.int .i64 now/\e 3=.int .i64 c/\e 5=.pointer (some ⟨h.next,0,none⟩)/\e 9=.int .i64 i) ?_ k _ _
  ⟨0,F,by omega,Cl.Old.x o1 x,g1,g2,by omega,by omega,by omega,⟨hF.1,by omega⟩,rfl,rfl,rfl,rfl,rfl⟩
 rintro d e hh ⟨i,D,hi,o,g,gr,nr,hD,hD1,sD,e0,e2,e3,e5,e9⟩
 have on:=o.next
 have iT:=iT_le p i (by omega)
 by_cases ci:i<k
 ·have b1:decide ((i:Int)<c)=true:=decide_eq_true (by omega)
  have nx:(i:Int)+1=((i+1:Nat):Int):=by omega
  have eT:((i+1:Nat):Int)*T=i*T+T:=by rw[Int.natCast_add,Int.add_mul];simp
  simp(disch:=first|omega| (simp only[f6,l5,ne_eq];omega))only[b1A,c18,↓R18,e0,e2,e3,e5,e9,gr,b1,↓l8,l9,zA,zB,zC,zD,zE,zF,zG,zH,zI,reduceCtorEq,zJ,zK,zL,zM]
  refine one_yes' hh g (by omega) p hT sD hn' ((step_iff p F now D i (by omega) hD).2 (by omega)) fun h2 o2 g3=>?_
  have gr2:=(o2.obj h.next nr (by omega)).trans gr
  have n2:=o2.next
  simp(disch:=first|omega| (simp only[f6,l5,ne_eq];omega))only[c18,↓R18,e0,e2,e3,e5,e9,nx,↓l8,l9,zA,zB,zC,zD,zE,zF,zG,zH,zI,reduceCtorEq,zJ,zK,zL,zM]
  refine⟨d-1,by omega,i+1,_,by omega,o.trans o2,g3,gr2,by omega,by rw[eT];omega,fun _=>by rw[eT];omega,⟨by omega,by omega⟩,?_⟩
  repeat' first|assumption|rfl|apply And.intro
 ·have b1:decide ((i:Int)<c)=false:=decide_eq_false (by omega)
  obtain rfl:i=k:=by omega
  rw[hD1 (by omega)]at g
  rw[<-hk]at g iT
  simp(disch:=first|omega| (simp only[f6,l5,ne_eq];omega))only[b1A,c18,↓R18,e0,e2,e3,e5,e9,g,b1,D3,↓l8,l9,zA,zB,zC,zD,zE,zF,zG,zH,zI,reduceCtorEq,zJ,zK,zL,zM]
  refine hQ _ (o.trans ⟨yP _,fun b _ hb=>a6 _ _ hb⟩) (f7 _ _ _)
theorem refwait_ok(h:Heap)(p:PaceOk T W B L)(hT:T=J5 W (L+1-B))(hF:Low F)(hS:Neg S)(hC:Low C)(hU:Low U)(hn:Low now)(hCU:C+U<=1000000){c:Int}(hc1:1<=c)(hc2:c<=B){Q:Value->Heap->Prop}(hQ:∀h',Old h h' ->Q (.int .i64 (wait F S C U T W B L now c)) h'):
  u5 cp 17 [.agg (cellC F S C U).toArray,.agg (ruleX L W B y9).toArray,.int .i64 now,.int .i64 c] h Q:=by
 rw[b8 cp f0e]
 have sm:∀z,Low z->Small z:=fun z hz=>⟨hz.1,by have:=hz.2;omega⟩
 obtain⟨w0,w1,w2,w3⟩:=wait_is F S C U now c p hc1 hc2
 have hx:=bc_le p hc1 hc2
 have hw1:=p.w1
 have hw2:=p.w2
 have hbl:=p.bl
 have hl2:=p.l2
 simp(disch:=first|omega| (simp only[f6,l5,ne_eq];omega))only[c17,↓R17,↓l8,l9,zA,zB,zC,zD,zE,zF,zG,zH,zI,reduceCtorEq,zJ,zK,zL,zM]
 refine refroom_ok _ p hT hF hS (sm C hC) (sm U hU) hn fun h1 o1=>?_
 have g1:=(o1.obj h.next (by simp only[f6];omega)).trans ((j0 _ _ (by simp only[f6];omega)).trans (f9 _ _))
 have g2:=(o1.obj (h.next+1) (by simp only[f6];omega)).trans (f9 _ _)
 have n1:=o1.next
 simp only[f6]at n1
 have o1:=(((Old.refl h).more _).more _).trans o1
 by_cases q:c<=room F S C U T W B L now
 ·have a1:=decide_eq_true q
  rw[w1.2 q]at hQ
  simp(disch:=first|omega| (simp only[f6,l5,ne_eq];omega))only[c17,↓R17,a1,↓l8,l9,zA,zB,zC,zD,zE,zF,zG,zH,zI,reduceCtorEq,zJ,zK,zL,zM]
  exact hQ _ o1
 have a1:=decide_eq_false q
 have hq:¬(F-now<=(B-c)*T/\(now<S+W->C+U+c<=L)):=fun z=>q ((room_ge F S C U now c p hc1 hc2).2 z)
 unfold Low at hF hC hU hn;unfold Neg at hS
 have hlag:lag F T B now c=max (F-now-(B-c)*T) 0:=by unfold lag;omega
 simp(disch:=first|omega| (simp only[f6,l5,ne_eq];omega))only[c17,↓R17,a1,g1,g2,↓l8,l9,zA,zB,zC,zD,zE,zF,zG,zH,zI,reduceCtorEq,zJ,zK,zL,zM]
 refine unit_ok _ p hT fun h2 o2=>?_
 have q1:=(o2.obj h.next (by omega)).trans g1
 have q2:=(o2.obj (h.next+1) (by omega)).trans g2
 have o2:=o1.trans o2
 unfold wait at hQ
 rw[hlag]at hQ
 by_cases a:F-(B-c)*T<now
 ·have b1:=decide_eq_true a
  by_cases y:now-S<W
  ·have b2:=decide_eq_true y
   by_cases g:C+U+c>L
   ·have b3:=decide_eq_true g
    rw[if_pos (by omega),show max (max (F-now-(B-c)*T) 0) (S+W-now)=S+W-now by omega]at hQ
    simp(disch:=first|omega| (simp only[f6,l5,ne_eq];omega))only[c17,↓R17,q1,q2,b1,b2,b3,↓l8,l9,zA,zB,zC,zD,zE,zF,zG,zH,zI,reduceCtorEq,zJ,zK,zL,zM]
    exact hQ _ o2
   ·exact absurd ⟨by omega,by omega⟩ hq
  ·exact absurd ⟨by omega,by omega⟩ hq
 ·have b1:=decide_eq_false a
  by_cases y:F-(B-c)*T-S<W
  ·have b2:=decide_eq_true y
   by_cases g:C+U+c>L
   ·have b3:=decide_eq_true g
    rw[if_pos (by omega),show max (max (F-now-(B-c)*T) 0) (S+W-now)=S+W-now by omega]at hQ
    simp(disch:=first|omega| (simp only[f6,l5,ne_eq];omega))only[c17,↓R17,q1,q2,b1,b2,b3,↓l8,l9,zA,zB,zC,zD,zE,zF,zG,zH,zI,reduceCtorEq,zJ,zK,zL,zM]
    exact hQ _ o2
   ·have b3:=decide_eq_false g
    rw[if_neg (by omega),show max (F-now-(B-c)*T) 0=F-(B-c)*T-now by omega]at hQ
    simp(disch:=first|omega| (simp only[f6,l5,ne_eq];omega))only[c17,↓R17,q1,q2,b1,b2,b3,↓l8,l9,zA,zB,zC,zD,zE,zF,zG,zH,zI,reduceCtorEq,zJ,zK,zL,zM]
    exact hQ _ o2
  ·have b2:=decide_eq_false y
   have hQ2:∀h',Old h h' ->Q (.int .i64 (F-(B-c)*T-now)) h' :=fun h' o=>by
    have:=hQ h' o
    by_cases z:now<S+W/\L<C+U+c
    ·rw[if_pos z,show max (max (F-now-(B-c)*T) 0) (S+W-now)=F-(B-c)*T-now by omega]at this;exact this
    ·rw[if_neg z,show max (F-now-(B-c)*T) 0=F-(B-c)*T-now by omega]at this;exact this
   simp(disch:=first|omega| (simp only[f6,l5,ne_eq];omega))only[c17,↓R17,q1,q2,b1,b2,↓l8,l9,zA,zB,zC,zD,zE,zF,zG,zH,zI,reduceCtorEq,zJ,zK,zL,zM]
   exact hQ2 _ o2
end
end Go.Proofs.YtlakhgibjfmjjaaGreat.Can.Cl
namespace Go.Proofs.YtlakhgibjfmjjaaGreat.Can
open Go
structure ExC(T:Int)(c:D7)(F:Int):Prop where
 F:c.1=F
 C:c.2.2.1=0
 use:c.2.1+c.2.2.2*T<=c.1
theorem ExC.fits{T W B L:Int}(p:Cl.PaceOk T W B L){F S U now c:Int}(u:S+U*T<=F)(hc1:1<=c)(hc2:c<=B)(hF:F-now<=(B-c)*T)(hy:now<S+W):U+c<=L:=by
 have t1:=p.t1
 have h1:=p.unit
 have e:(L+1-c)*T=(B-c)*T+T*(L+1-B):=by rw[Int.mul_comm T,<-Int.add_mul];congr 1;omega
 have h2:U*T<(L+1-c)*T:=by omega
 have:=Int.lt_of_mul_lt_mul_right h2 (by omega)
 omega
theorem ExC.room{T W B L:Int}(p:Cl.PaceOk T W B L){F S U now:Int}(u:S+U*T<=F):Cl.room F S 0 U T W B L now=Cl.base F T B now:=by
 have h1:= @Cl.room_range F S 0 U T W B L now p
 have h2:= @Cl.base_range F T B now W L p
 have h3:∀c,1<=c->c<=B->(c<=Cl.room F S 0 U T W B L now↔c<=Cl.base F T B now):=fun c hc1 hc2=>by
  rw[Cl.room_ge F S 0 U now c p hc1 hc2,Cl.base_ge F now c p hc1 hc2]
  refine⟨fun h=>h.1,fun h=>⟨h,fun hy=>?_⟩⟩
  have:=ExC.fits p u hc1 hc2 h hy
  omega
 by_cases a:Cl.room F S 0 U T W B L now<Cl.base F T B now
 ·have:=(h3 (Cl.base F T B now) (by omega) (by omega)).2 (yQ _);omega
 ·by_cases b:Cl.base F T B now<Cl.room F S 0 U T W B L now
  ·have:=(h3 (Cl.room F S 0 U T W B L now) (by omega) (by omega)).1 (yQ _);omega
  ·omega
theorem ExC.wait{T W B L:Int}(p:Cl.PaceOk T W B L){F S U now c:Int}(u:S+U*T<=F)(hc1:1<=c)(hc2:c<=B):Cl.wait F S 0 U T W B L now c=Cl.lag F T B now c:=by
 unfold Cl.wait
 split
 ·rename_i h
  have t1:=p.t1
  have h1:=p.unit
  have e:(L+1-c)*T=(B-c)*T+T*(L+1-B):=by rw[Int.mul_comm T,<-Int.add_mul];congr 1;omega
  have h2:(L+1-c)*T<=U*T:=Int.mul_le_mul_of_nonneg_right (by omega) (by omega)
  unfold Cl.lag
  omega
 ·rfl
structure ExL(R:RuleV)(v:LV)(M:ByteArray->Option Int)(n:Nat):Prop where
 yes:∀key F,M key=some F->∃i c,Z7 R.C v.P.keys key=some i/\v.P.cells[i]? =some c/\ExC R.u c F
 no:∀key,M key=none->Z7 R.C v.P.keys key=none
 cnt:v.P.fl.length+n=R.C
 bd:Bd v.G.cs 0
 pos:Pos v.G.cs
def O4(M:ByteArray->Option Int)(key:ByteArray)(F:Int):ByteArray->Option Int:=fun k=>if k=key then some F else M k
def exF(R:RuleV)(F now cost:Int):Int:=if cost<=Cl.base F R.u R.B now then max F now+cost*R.u else F
def exA(R:RuleV)(F now cost:Int):Int×Int×Int:=
 if cost<=Cl.base F R.u R.B now then(1,Cl.base (max F now+cost*R.u) R.u R.B now,0)else(2,Cl.base F R.u R.B now,Cl.lag F R.u R.B now cost)
theorem e9u{cells:List D7}{i:Nat}{c:D7}(h:cells[i]? =some c)(v:LV)(hv:v.P.cells=cells):y5 v i=c:=by
 unfold y5
 rw[hv,List.getD_eq_getElem?_getD,h];rfl
theorem ExL.step{R:RuleV}(ok:R.OK){w:LV}{M:ByteArray->Option Int}{n:Nat}(E:ExL R w M n)(plen:w.P.cells.length=R.C){key:ByteArray}{F now cost:Int}(hM:M key=some F)(hc:1<=cost/\cost<=R.B){i:Nat}(hi:Z7 R.C w.P.keys key=some i):
  let c:=y5 w i
  (if cost<=X5 R c now then(((1,X5 R (Y5 R c now cost) now,0):Int×Int×Int),(c9R w i (Y5 R c now cost)).cnt 1)else((2,X5 R c now,a3D R c now cost),w.cnt 2)).1=exA R F now cost/\
  ExL R (if cost<=X5 R c now then(((1,X5 R (Y5 R c now cost) now,0):Int×Int×Int),(c9R w i (Y5 R c now cost)).cnt 1)else((2,X5 R c now,a3D R c now cost),w.cnt 2)).2 (O4 M key (exF R F now cost)) n:=by
 obtain⟨j,c,h1,h2,h3⟩:=E.yes key F hM
 rw[hi]at h1
 obtain rfl:=yA h1
 intro c'
 have hc' :c' =c:=e9u h2 w rfl
 rw[hc']
 clear c' hc'
 have p:=RuleV.pace ok
 have t1:=p.t1
 obtain⟨cF,cS,cC,cU⟩:=c
 have e1:cF=F:=h3.F
 have e2:cC=0:=h3.C
 have e3:cS+cU*R.u<=cF:=h3.use
 subst e1 e2
 have r1:X5 R (cF,cS,0,cU) now=Cl.base cF R.u R.B now:=ExC.room p e3
 have e4:cS+(cU+cost)*R.u<=max cF now+cost*R.u:=by rw[Int.add_mul];omega
 have r2:X5 R (Y5 R (cF,cS,0,cU) now cost) now=Cl.base (max cF now+cost*R.u) R.u R.B now:=ExC.room p e4
 have r3:a3D R (cF,cS,0,cU) now cost=Cl.lag cF R.u R.B now cost:=ExC.wait p e3 hc.1 hc.2
 rw[r1,r2,r3]
 have il:=(C4 hi).1
 unfold exA exF
 by_cases q:cost<=Cl.base cF R.u R.B now
 ·simp only[if_pos q]
  refine⟨trivial,⟨fun k F' hk=>?_,fun k hk=>?_,E.cnt,E.bd,E.pos⟩⟩
  ·unfold O4 at hk
   by_cases e:k=key
   ·rw[if_pos e]at hk
    subst e
    refine⟨i,Y5 R (cF,cS,0,cU) now cost,hi,yH (by rw[plen];exact il),yA hk,rfl,e4⟩
   ·rw[if_neg e]at hk
    obtain⟨j,c,k1,k2,k3⟩:=E.yes k F' hk
    have ne:i≠j:=fun h=>by
     have a:=(C4 hi).2
     have b:=(C4 k1).2
     rw[h,b]at a
     exact e (yA a)
    exact⟨j,c,k1,by show(w.P.cells.set i _)[j]? =_;rw[yI ne];exact k2,k3⟩
  ·unfold O4 at hk
   by_cases e:k=key
   ·rw[if_pos e]at hk;cases hk
   ·rw[if_neg e]at hk;exact E.no k hk
 ·simp only[if_neg q]
  refine⟨trivial,⟨fun k F' hk=>?_,fun k hk=>?_,E.cnt,E.bd,E.pos⟩⟩
  ·unfold O4 at hk
   by_cases e:k=key
   ·rw[if_pos e]at hk
    subst e
    rw[<-yA hk]
    exact E.yes k _ hM
   ·rw[if_neg e]at hk;exact E.yes k F' hk
  ·unfold O4 at hk
   by_cases e:k=key
   ·rw[if_pos e]at hk;cases hk
   ·rw[if_neg e]at hk;exact E.no k hk
theorem b0G{M:ByteArray->Option Int}{key:ByteArray}{F:Int}:O4 M key F key=some F:=if_pos rfl
theorem b2D(M:ByteArray->Option Int)(key:ByteArray)(F G:Int):O4 (O4 M key F) key G=O4 M key G:=by
 funext k
 unfold O4
 split<;>rfl
theorem ExL.put{R:RuleV}{w:LV}{M:ByteArray->Option Int}{n:Nat}(E:ExL R w M n)(pok:w.P.OK R.C){key:ByteArray}{now:Int}(hM:M key=none){i:Nat}{fl:List Nat}(hf:w.P.fl=i::fl){e:Int}(he:e=0):
  ExL R { w with P:=⟨Keys.kset w.P.keys i (some key),fl,w.P.cells.set i (now,now,e,0)⟩ } (O4 M key now) (n+1)/\Z7 R.C (Keys.kset w.P.keys i (some key)) key=some i:=by
 have il:i<R.C:=pok.flt i (by rw[hf];exact List.mem_cons_self)
 have ki:w.P.keys i=none:=(pok.free i il).1 (by rw[hf];exact List.mem_cons_self)
 have nk:=a0G (E.no key hM)
 have inj:∀(k l:Nat) (q:ByteArray),k<R.C->l<R.C->Keys.kset w.P.keys i (some key) k=some q->Keys.kset w.P.keys i (some key) l=some q->k=l:=fun k l q hk hl h1 h2=>by
  unfold Keys.kset at h1 h2
  by_cases e1:k=i<;>by_cases e2:l=i
  ·omega
  ·rw[if_pos e1]at h1
   rw[if_neg e2]at h2
   rw[<-yA h1]at h2
   exact absurd h2 (nk l hl)
  ·rw[if_neg e1]at h1
   rw[if_pos e2]at h2
   rw[<-yA h2]at h1
   exact absurd h1 (nk k hk)
  ·rw[if_neg e1]at h1
   rw[if_neg e2]at h2
   exact pok.inj k l q hk hl h1 h2
 have pk:Z7 R.C (Keys.kset w.P.keys i (some key)) key=some i:=a7G il (if_pos rfl) inj
 subst he
 refine⟨⟨fun k F hk=>?_,fun k hk=>?_,?_,E.bd,E.pos⟩,pk⟩
 ·unfold O4 at hk
  by_cases e:k=key
  ·rw[if_pos e]at hk
   subst e
   exact⟨i,(now,now,0,0),pk,yH (by rw[pok.len];exact il),yA hk,rfl,by show now+0*R.u<=now;omega⟩
  ·rw[if_neg e]at hk
   obtain⟨j,c,k1,k2,k3⟩:=E.yes k F hk
   obtain⟨k4,k5⟩:=C4 k1
   have ne:j≠i:=fun h=>by rw[h,ki]at k5;cases k5
   exact⟨j,c,a7G k4 (show(if j=i then some key else w.P.keys j)=some k by rw[if_neg ne];exact k5) inj,by show(w.P.cells.set i _)[j]? =_;rw[yI (fun h=>ne h.symm)];exact k2,k3⟩
 ·unfold O4 at hk
  by_cases e:k=key
  ·rw[if_pos e]at hk;cases hk
  ·rw[if_neg e]at hk
   cases q:Z7 R.C (Keys.kset w.P.keys i (some key)) k with
   |none=>rfl
   |some j=>
    obtain⟨k4,k5⟩:=C4 q
    unfold Keys.kset at k5
    by_cases e2:j=i
    ·rw[if_pos e2]at k5;exact absurd (yA k5).symm e
    ·rw[if_neg e2]at k5
     exact absurd k5 (a0G (E.no k hk) j k4)
 ·have:=E.cnt
  rw[hf,yM]at this
  show fl.length+(n+1)=R.C
  omega
theorem ExL.check{R:RuleV}(ok:R.OK){rp:RP}(hW:1<=rp.W)(hN:rp.N<=65){v:LV}{M:ByteArray->Option Int}{n:Nat}(E:ExL R v M n)(pok:v.P.OK R.C){key:ByteArray}{now cost:Int}(h0:0<=now/\now<=1000000000)(hc:1<=cost/\cost<=R.B)(hn:M key=none->n<R.C):
  (D0 R rp v now 0 key cost).1=exA R ((M key).getD now) now cost/\ExL R (D0 R rp v now 0 key cost).2.2 (O4 M key (exF R ((M key).getD now) now cost)) (if M key=none then n+1 else n):=by
 have hr:H8 R.B now 0 cost=none:=by
  unfold H8
  rw[if_neg (by omega),if_neg (by omega),if_neg (by omega)]
 obtain⟨u,hu⟩:∃u,u=Can.pre R v now key cost:=⟨_,rfl⟩
 have Eu:ExL R u M n:=by rw[hu];exact⟨E.yes,E.no,E.cnt,E.bd,E.pos⟩
 have pu:u.P.OK R.C:=by rw[hu];exact pok
 have est:=a4M (g:=u.G) hW hN Eu.pos (M:=0) (by omega) Eu.bd key
 have est0:a0l rp u.G key=0:=by omega
 unfold D0
 rw[hr]
 simp only
 rw[<-hu]
 cases hM:M key with
 |some F=>
  obtain⟨i,c,h1,h2,h3⟩:=Eu.yes key F hM
  have hres:H1 R rp u now key=(some i,[],u):=by unfold H1;rw[h1]
  rw[hres]
  have st:=Eu.step ok pu.len (now:=now) hM hc h1
  simp only[Option.getD_some,reduceCtorEq,if_false]
  simp only at st
  by_cases q:cost<=X5 R (y5 u i) now
  ·simp only[if_pos q]at st ⊢
   exact st
  ·simp only[if_neg q]at st ⊢
   exact st
 |none=>
  have h1:=Eu.no key hM
  have hcnt:=Eu.cnt
  have:=hn hM
  cases hf:u.P.fl with
  |nil=>rw[hf]at hcnt;simp at hcnt;omega
  |cons i fl=>
   have hres:H1 R rp u now key=(some i,[(0,key,true,now)],{ u with P:=⟨Keys.kset u.P.keys i (some key),fl,u.P.cells.set i (now,now,a0l rp u.G key,0)⟩ }):=by unfold H1;rw[h1];simp only[hf]
   rw[hres]
   obtain⟨Ew,hi⟩:=Eu.put pu hM hf est0 (now:=now)
   obtain⟨w,hw⟩:∃w:LV,w={ u with P:=⟨Keys.kset u.P.keys i (some key),fl,u.P.cells.set i (now,now,a0l rp u.G key,0)⟩ }:=⟨_,rfl⟩
   rw[<-hw]at Ew ⊢
   have hi:Z7 R.C w.P.keys key=some i:=by rw[hw];exact hi
   have il:=(C4 hi).1
   have pw:w.P.cells.length=R.C:=by rw[hw];show(u.P.cells.set i _).length=_;rw[List.length_set];exact pu.len
   have st:=Ew.step ok pw (now:=now) b0G hc hi
   rw[b2D]at st
   simp only[Option.getD_none,if_true]
   simp only at st
   by_cases q:cost<=X5 R (y5 w i) now
   ·simp only[if_pos q]at st ⊢
    exact st
   ·simp only[if_neg q]at st ⊢
    exact st
abbrev MP:=List (ByteArray×Nat×Nat)
def pE(x:ByteArray×Nat×Nat):MapEntry:={ key:=.string x.1,val:=.pointer (some ⟨x.2.1,0,none⟩),born:=x.2.2 }
def W9(k:ByteArray):MP->Option Nat
 | []=>none
 |x::t=>if k=x.1 then some x.2.1 else W9 k t
def a8f(k:ByteArray):MP->Nat->Option Nat
 | [],_=>none
 |x::t,i=>if k=x.1 then some i else a8f k t (i+1)
theorem d7k(k:ByteArray):∀(L:MP) (i:Nat),F2 (.one .str) (.string k) (L.map pE) i=some (a8f k L i)
 | [],i=>rfl
 |x::t,i=>by
  simp only[List.map_cons,F2,pE,N5,D3,if_true,Option.bind_some,a8f]
  by_cases h:k=x.1
  ·rw[if_pos (by rw[h];exact c8e _),if_pos h]
  ·rw[if_neg (by rw[d1K h];exact Bool.false_ne_true),if_neg h]
   exact d7k k t (i+1)
theorem a2D{k:ByteArray}:∀{L:MP} {i j:Nat},a8f k L i=some j->∃q x,j=i+q/\L[q]? =some x/\W9 k L=some x.2.1
 | [],i,j,h=>by simp[a8f]at h
 |x::t,i,j,h=>by
  simp only[a8f]at h
  by_cases e:k=x.1
  ·rw[if_pos e]at h
   obtain rfl:=yA h
   exact⟨0,x,rfl,rfl,by simp only[W9];rw[if_pos e]⟩
  ·rw[if_neg e]at h
   obtain⟨q,y,h1,h2,h3⟩:=a2D h
   exact⟨q+1,y,by omega,by simpa using h2,by simp only[W9];rw[if_neg e];exact h3⟩
theorem a9a{k:ByteArray}:∀{L:MP} {i:Nat},a8f k L i=none->W9 k L=none
 | [],i,h=>rfl
 |x::t,i,h=>by
  simp only[a8f]at h
  by_cases e:k=x.1
  ·rw[if_pos e]at h;simp at h
  ·rw[if_neg e]at h
   simp only[W9];rw[if_neg e];exact a9a h
theorem a0I{k q:ByteArray}{p c:Nat}:∀{L:MP},W9 k L=none->W9 q (L++[(k,p,c)])=if q=k then some p else W9 q L
 | [],_=>by simp only[List.nil_append,W9]
 |x::t,h=>by
  simp only[W9]at h
  by_cases e:k=x.1
  ·rw[if_pos e]at h;cases h
  ·rw[if_neg e]at h
   simp only[List.cons_append,W9]
   rw[a0I h]
   by_cases e2:q=x.1
   ·rw[if_pos e2,if_neg (fun h=>e (by rw[<-h];exact e2)),if_pos e2]
   ·rw[if_neg e2,if_neg e2]
def e0f(p:Option Nat):Value:=.pointer (p.map fun p=>⟨p,0,none⟩)
theorem e0s{h:Heap}{b:Nat}{L:MP}{c:Nat}(ho:h.obj b=.map (L.map pE) c)(k:ByteArray):A5 (.lookup (.one .str) (.pointer none) false (.map (some b)) (.string k)) h=some (e0f (W9 k L),h):=by
 have e:N5 (.one .str) (.string k) (.string k)=some true:=by simp[N5,D3]
 simp only[A5,ho,e,Option.bind_some,d7k,Option.map_some]
 cases hi:a8f k L 0 with
 |none=>rw[a9a hi];rfl
 |some j=>
  obtain⟨q,x,h1,h2,h3⟩:=a2D hi
  obtain rfl:j=q:=by omega
  simp only[yJ,h2,Option.map_some,Option.getD_some,h3,pE]
  rfl
theorem d9N{h:Heap}{b:Nat}{L:MP}{c:Nat}(ho:h.obj b=.map (L.map pE) c){k:ByteArray}(hk:W9 k L=none)(p:Nat):A5 (.mapUpdate (.one .str) (.map (some b)) (.string k) (.pointer (some ⟨p,0,none⟩))) h=some (.tuple #[],h.upd b (.map ((L++[(k,p,c)]).map pE) (c+1))):=by
 have e:N5 (.one .str) (.string k) (.string k)=some true:=by simp[N5,D3]
 simp only[A5,ho,e,Option.bind_some,d7k,Option.map_some]
 cases hi:a8f k L 0 with
 |none=>simp[pE]
 |some j=>
  obtain⟨q,x,h1,h2,h3⟩:=a2D hi
  rw[hk]at h3;cases h3
theorem e0m{h:Heap}{b:Nat}{L:MP}{c:Nat}(ho:h.obj b=.map (L.map pE) c):A5 (.lenMap (.map (some b))) h=some (.int .i64 L.length,h):=by
 simp only[A5,ho,yL];rfl
structure CM(h:Heap)(lo b:Nat)(L:MP)(c:Nat)(M:ByteArray->Option Int):Prop where
 ob:h.obj b=.map (L.map pE) c
 lb:lo<=b/\b<h.next
 no:∀key,W9 key L=none↔M key=none
 yes:∀key p,W9 key L=some p->lo<=p/\p<h.next/\p≠b/\∃F s u,M key=some F/\h.obj p=.cells (Cl.cellC F s 0 u) 52 .fix
 inj:∀k k' p,W9 k L=some p->W9 k' L=some p->k=k'
section
variable {h h' :Heap} {lo b c:Nat} {L:MP} {M:ByteArray->Option Int}
theorem CM.keep(C:CM h lo b L c M)(hn:h.next<=h'.next)(ho:∀z,lo<=z->z<h.next->h'.obj z=h.obj z):CM h' lo b L c M:=
 ⟨(ho b C.lb.1 C.lb.2).trans C.ob,⟨C.lb.1,by have:=C.lb.2;omega⟩,C.no,fun key p hp=>by
  obtain⟨h1,h2,h3,F,s,u,h4,h5⟩:=C.yes key p hp
  exact⟨h1,by omega,h3,F,s,u,h4,(ho p h1 h2).trans h5⟩,C.inj⟩
theorem CM.old(C:CM h lo b L c M)(o:Old h h'):CM h' lo b L c M:=C.keep o.next fun z _ hz=>o.obj z hz
theorem CM.oldF{F:Nat->Prop}(C:CM h lo b L c M)(o:OldF F h h')(hF:∀z,F z->z<lo):CM h' lo b L c M:=C.keep o.next fun z h1 hz=>o.obj z hz fun hf=>by have:=hF z hf;omega
theorem CM.set(C:CM h lo b L c M){key:ByteArray}{p:Nat}(hp:W9 key L=some p)(hn:h.next<=h'.next)(o:∀z,lo<=z->z<h.next->z≠p->h'.obj z=h.obj z){F s u:Int}(ho:h'.obj p=.cells (Cl.cellC F s 0 u) 52 .fix):CM h' lo b L c (O4 M key F):=by
 obtain⟨p1,p2,p3,F0,_,_,p4,_⟩:=C.yes key p hp
 refine⟨(o b C.lb.1 C.lb.2 (fun h=>p3 h.symm)).trans C.ob,⟨C.lb.1,by have:=C.lb.2;omega⟩,fun k=>?_,fun k q hq=>?_,C.inj⟩
 ·unfold O4
  by_cases e:k=key
  ·subst e;rw[if_pos rfl,hp];simp
  ·rw[if_neg e];exact C.no k
 ·obtain⟨h1,h2,h3,F1,s1,u1,h4,h5⟩:=C.yes k q hq
  unfold O4
  by_cases e:k=key
  ·subst e
   rw[hp]at hq
   obtain rfl:=yA hq
   exact⟨h1,by omega,h3,F,s,u,if_pos rfl,ho⟩
  ·exact⟨h1,by omega,h3,F1,s1,u1,by rw[if_neg e];exact h4,(o q h1 h2 (fun h=>e (C.inj k key p (by rw[<-h];exact hq) hp))).trans h5⟩
theorem CM.put(C:CM h lo b L c M){key:ByteArray}(hk:W9 key L=none)(hlo:lo<=h.next){F s u:Int}:CM ((h.new (.cells (Cl.cellC F s 0 u) 52 .fix)).upd b (.map ((L++[(key,h.next,c)]).map pE) (c+1))) lo b (L++[(key,h.next,c)]) (c+1) (O4 M key F):=by
 have lb:=C.lb
 refine⟨f7 _ _ _,⟨lb.1,by rw[l5,f6];omega⟩,fun k=>?_,fun k q hq=>?_,fun k k' q h1 h2=>?_⟩
 ·rw[a0I hk]
  unfold O4
  by_cases e:k=key
  ·rw[if_pos e,if_pos e];simp
  ·rw[if_neg e,if_neg e];exact C.no k
 ·rw[a0I hk]at hq
  unfold O4
  by_cases e:k=key
  ·rw[if_pos e]at hq
   obtain rfl:=yA hq
   exact⟨hlo,by rw[l5,f6];omega,by omega,F,s,u,if_pos e,by rw[a6 _ _ (by omega)];exact f9 _ _⟩
  ·rw[if_neg e]at hq
   obtain⟨h1,h2,h3,F1,s1,u1,h4,h5⟩:=C.yes k q hq
   exact⟨h1,by rw[l5,f6];omega,h3,F1,s1,u1,by rw[if_neg e];exact h4,by rw[a6 _ _ h3,j0 _ _ (by omega)];exact h5⟩
 ·rw[a0I hk]at h1 h2
  by_cases e1:k=key<;>by_cases e2:k' =key
  ·rw[e1,e2]
  ·rw[if_pos e1]at h1;rw[if_neg e2]at h2
   have:=(C.yes k' q h2).2.1
   have:=yA h1
   omega
  ·rw[if_neg e1]at h1;rw[if_pos e2]at h2
   have:=(C.yes k q h1).2.1
   have:=yA h2
   omega
  ·rw[if_neg e1]at h1;rw[if_neg e2]at h2
   exact C.inj k k' q h1 h2
end
def c4g:Option Addr->Option Addr->Bool
 |none,none=>true
 |some a,some b=>Nat.beq a.block b.block && Nat.beq a.off b.off && a.spot.isNone && b.spot.isNone
 |_,_=>false
def b0P:Value->Value->Bool
 | .bool a,.bool b=>a==b
 | .int k n,.int k' n' =>decide (k=k') && decide (n=n')
 | .string s,.string t=>decide (s.data.toList=t.data.toList)
 | .pointer a,.pointer b=>c4g a b
 | .slice a n c,.slice b m d=>c4g a b && Nat.beq n m && Nat.beq c d
 | .map none,.map none=>true
 | .map (some a),.map (some b)=>Nat.beq a b
 | .nilFunc,.nilFunc=>true
 | .nilIface,.nilIface=>true
 |_,_=>false
def a1E:List Value->List Value->Bool
 | [],[]=>true
 |a::x,b::y=>b0P a b && a1E x y
 |_,_=>false
def b6C:Value->Value->Bool
 | .agg a,.agg b=>a1E a.toList b.toList
 | .tuple a,.tuple b=>a1E a.toList b.toList
 |a,b=>b0P a b
theorem b2Y{a b:Option Addr}(h:c4g a b=true):a=b:=by
 unfold c4g at h
 split at h
 ·rfl
 ·rename_i x y
  obtain⟨b1,o1,s1⟩:=x
  obtain⟨b2,o2,s2⟩:=y
  simp only[Bool.and_eq_true,Option.isNone_iff_eq_none]at h
  obtain⟨⟨⟨h1,h2⟩,rfl⟩,rfl⟩:=h
  rw[Nat.eq_of_beq_eq_true h1,Nat.eq_of_beq_eq_true h2]
 ·simp at h
theorem a8W{a b:Value}(h:b0P a b=true):a=b:=by
 unfold b0P at h
 split at h
 ·simpa using h
 ·simp only[Bool.and_eq_true,decide_eq_true_eq]at h;rw[h.1,h.2]
 ·rename_i s t
  simp only[decide_eq_true_eq]at h
  have:s.data=t.data:=Array.toList_inj.1 h
  obtain⟨s⟩:=s
  obtain⟨t⟩:=t
  rw[show s=t from this]
 ·rw[b2Y h]
 ·simp only[Bool.and_eq_true]at h
  rw[b2Y h.1.1,Nat.eq_of_beq_eq_true h.1.2,Nat.eq_of_beq_eq_true h.2]
 ·rfl
 ·rw[Nat.eq_of_beq_eq_true h]
 ·rfl
 ·rfl
 ·simp at h
theorem a3d:∀{a b:List Value},a1E a b=true->a=b
 | [],[],_=>rfl
 |a::x,b::y,h=>by
  simp only[a1E,Bool.and_eq_true]at h
  rw[a8W h.1,a3d h.2]
 | [],_::_,h=>by simp[a1E]at h
 |_::_,[],h=>by simp[a1E]at h
theorem c6q{a b:Value}(h:b6C a b=true):a=b:=by
 unfold b6C at h
 split at h
 ·rename_i x y;rw[Array.toList_inj.1 (a3d h)]
 ·rename_i x y;rw[Array.toList_inj.1 (a3d h)]
 ·exact a8W h
def e0X(o:COp):Bool:=match C6 o with
 | .read| .pure=>true
 |_=>false
def b1D(h:Heap)(o:COp)(v:Value):Bool:=e0X o && match A5 o h with
 |some (u,_)=>b6C u v
 |none=>false
def b6j(g:Option (Value×Bool))(h:Heap)(o:COp)(v:Value):Bool:=
 match g with
 |none=>b1D h o v
 |some (x,w)=>(match T2 x w with|some false=>true|_=>false) ||b1D h o v
theorem d2t{h:Heap}{o:COp}{v:Value}(hb:b1D h o v=true):A5 o h=some (v,h):=by
 unfold b1D at hb
 simp only[Bool.and_eq_true]at hb
 obtain⟨h1,h2⟩:=hb
 split at h2
 ·rename_i u h' hc
  rw[c6q h2]at hc
  have:h' =h:=by
   unfold e0X at h1
   split at h1
   ·rename_i hk;exact a2K hk hc
   ·rename_i hk;exact(a3g hk hc).1
   ·simp at h1
  rw[hc,this]
 ·simp at h2
theorem e2c{g:Option (Value×Bool)}{h:Heap}{o:COp}{v:Value}(hb:b6j g h o v=true):U1 g h o v:=by
 unfold b6j at hb
 unfold U1
 split at hb
 ·exact d2t hb
 ·rename_i x w
  simp only[Bool.or_eq_true]at hb
  rcases hb with hb|hb
  ·left
   split at hb
   ·assumption
   ·simp at hb
  ·right;exact d2t hb
def a7T(call:v9):Reg->Heap->Option (b7×Heap)
 | .done e,h=>some (e,h)
 | .op o k,h=>match G8 call o h with
  |some (v,h')=>a7T call (k v) h'
  |none=>none
 | .opg g w o k,h=>match T2 g w with
  |some true=>match G8 call o h with
   |some (v,h')=>a7T call (k v) h'
   |none=>none
  |some false=>a7T call (k (.tuple #[])) h
  |none=>none
 | .snap k,h=>a7T call (k h) h
 | .chk g hj o v k,h=>match b6j g (hj.getD h) o v with
  |true=>a7T call k h
  |false=>none
theorem d9y(call:v9)(l:Reg):∀h,LeO (a7T call l h) (K3 call l h):=by
 induction l with
 |done e=>intro h r hr;exact hr
 |op o k ih=>
  intro h r hr
  simp only[a7T,K3]at hr ⊢
  split at hr
  ·rename_i v h' he;rw[he];exact ih v h' r hr
  ·simp at hr
 |opg g w o k ih=>
  intro h r hr
  simp only[a7T,K3]at hr ⊢
  split at hr
  ·rename_i hw
   rw[hw]
   simp only
   split at hr
   ·rename_i v h' he;rw[he];exact ih v h' r hr
   ·simp at hr
  ·rename_i hw;rw[hw];exact ih _ h r hr
  ·simp at hr
 |snap k ih=>intro h r hr;exact ih h h r hr
 |chk g hj o v k ih=>
  intro h r hr
  simp only[a7T,K3]at hr ⊢
  split at hr
  ·rename_i hb
   rw[if_pos (e2c hb)]
   exact ih h r hr
  ·simp at hr
def Z5(call:v9)(N:Nat):CC->b7->Heap->Option (X×b7×Heap)
 | .skip,e,h=>some (.normal,e,h)
 | .region r,e,h=>(a7T call (r e) h).map fun r=>(.normal,r.1,r.2)
 | .seq a b,e,h=>match Z5 call N a e h with
  |some (.normal,e',h')=>Z5 call N b e' h'
  |r=>r
 | .cond c t f,e,h=>match c e with
  | .bool true=>Z5 call N t e h
  | .bool false=>Z5 call N f e h
  |_=>none
 | .block id b,e,h=>match Z5 call N b e h with
  |some (.exit i,e',h')=>if i=id then some (.normal,e',h')else some (.exit i,e',h')
  |r=>r
 | .loop b,e,h=>W8 (Z5 call N b) N e h
 | .exit id,e,h=>some (.exit id,e,h)
 | .ret,e,h=>some (.ret,e,h)
 | .bad,_,_=>none
 | .dfr pre g caps post,e,h=>match Z5 call N pre e h with
  |some (.normal,e1,h1)=>match Z5 call N post e1 h1 with
   |some (.normal,e2,h2)|some (.ret,e2,h2)=>(call (.fn g) (caps e1) h2).map fun r=>(.ret,e2,r.2)
   |_=>none
  |some (.ret,e1,h1)=>some (.ret,e1,h1)
  |_=>none
 | .rng _ _ _ _ _ _ _,_,_=>none
theorem e0F(call:v9)(cy:Nat->YF->v9)(N:Nat)(x:CC):∀e h,LeO (Z5 call N x e h) (C2 call cy N x e h):=by
 induction x with
 |skip=>intro e h r hr;exact hr
 |region ops=>
  intro e h r hr
  simp only[Z5,C2,yD]at hr ⊢
  obtain⟨a,ha,rfl⟩:=hr
  exact⟨a,d9y _ _ _ _ ha,rfl⟩
 |seq a b iha ihb=>
  intro e h r hr
  simp only[Z5,C2]at hr ⊢
  cases hx:Z5 call N a e h with
  |none=>rw[hx]at hr;exact absurd hr (by simp)
  |some y=>
   rw[hx]at hr;rw[iha _ _ _ hx]
   obtain⟨x,e',h'⟩:=y
   cases x with
   |normal=>exact ihb _ _ _ hr
   |exit i=>exact hr
   |ret=>exact hr
 |cond t a b iha ihb=>
  intro e h r hr
  simp only[Z5,C2]at hr ⊢
  split at hr
  ·rename_i hc;rw[hc];exact iha _ _ _ hr
  ·rename_i hc;rw[hc];exact ihb _ _ _ hr
  ·exact absurd hr (by simp)
 |block id b ih=>
  intro e h r hr
  simp only[Z5,C2]at hr ⊢
  cases hx:Z5 call N b e h with
  |none=>rw[hx]at hr;exact absurd hr (by simp)
  |some y=>rw[hx]at hr;rw[ih _ _ _ hx];exact hr
 |loop b ih=>intro e h r hr;exact Z9 (fun e h=>ih e h) N N (yP _) e h r hr
 |exit id=>intro e h r hr;exact hr
 |ret=>intro e h r hr;exact hr
 |bad=>intro e h r hr;exact hr
 |dfr pre g caps post iha ihb=>
  intro e h r hr
  simp only[Z5,C2]at hr ⊢
  cases hx:Z5 call N pre e h with
  |none=>rw[hx]at hr;exact absurd hr (by simp)
  |some y=>
   rw[hx]at hr;rw[iha _ _ _ hx]
   obtain⟨x,e',h'⟩:=y
   cases x with
   |normal=>
    simp only at hr ⊢
    cases hy:Z5 call N post e' h' with
    |none=>rw[hy]at hr;exact absurd hr (by simp)
    |some z=>rw[hy]at hr;rw[ihb _ _ _ hy];exact hr
   |exit i=>exact hr
   |ret=>exact hr
 |rng=>intro e h r hr;exact absurd hr (by simp[Z5])
def b2c(CP:CProg):Nat->v9
 |0,_,_,_=>none
 |n+1,.yl _,_,_=>none
 |n+1,.fn f,args,h=>match CP f with
  |none=>none
  |some fn=>match Z5 (b2c CP n) n fn.body (U0 args) h with
   |some (.normal,e,h')=>(E7 e h' fn.results).map fun v=>(v,h')
   |some (.ret,e,h')=>(E7 e h' fn.results).map fun v=>(v,h')
   |_=>none
theorem c4G(CP:CProg):∀n,LeC (b2c CP n) (O9 CP n)
 |0=>fun f a h r hr=>absurd hr (by simp[b2c])
 |n+1=>fun f a h r hr=>by
  cases f with
  |yl b=>rw[b2c]at hr;exact absurd hr (by simp)
  |fn f=>
   rw[b2c]at hr
   rw[a0k]
   cases hf:CP f with
   |none=>rw[hf]at hr;exact absurd hr (by simp)
   |some fn=>
    rw[hf]at hr
    simp only at hr ⊢
    cases hx:Z5 (b2c CP n) n fn.body (U0 a) h with
    |none=>rw[hx]at hr;exact absurd hr (by simp)
    |some y=>
     rw[hx]at hr
     rw[a2d (c4G CP n) (a4T (yP n) (LeP.refl CP)) (yP n) _ _ _ _ (e0F _ (cyF CP n) _ _ _ _ _ hx)]
     exact hr
theorem d3s{CP:CProg}{n:Nat}{f:FuncId}{args:List Value}{h:Heap}{v:Value}(hr:(b2c CP n (.fn f) args h).map (fun r=>r.1)=some v):u5 CP f args h fun u _=>u=v:=by
 simp only[yD]at hr
 obtain⟨⟨u,h'⟩,hr,rfl⟩:=hr
 exact⟨n,u,h',c4G CP n _ _ _ _ hr,rfl⟩
inductive RD where
 |op (c:COp) (k:Value->RD)
 |dcall (f:FuncId) (args:List Value) (k:Value->RD)
 |done (e:b7)
abbrev a2l:=FuncId->List Value->Heap->(Value->Heap->Prop)->Prop
def P0(CP:CProg)(DS:a2l):RD->Heap->z8->Prop
 | .op c k,h,Q=>∃n v h1,G8 (O9 CP n) c h=some (v,h1)/\P0 CP DS (k v) h1 Q
 | .dcall f args k,h,Q=>DS f args h fun v h1=>P0 CP DS (k v) h1 Q
 | .done e,h,Q=>Q .normal e h
inductive CD where
 |lift (c:CC)
 |seq (a b:CD)
 |cond (c:b7->Value) (t e:CD)
 |block (id:Nat) (b:CD)
 |loop (b:CD)
 |draw (x:b7->Value) (k:b7->Value->Reg)
 |ent (x:b7->Value) (k:b7->Value->Reg)
 |rd (r:b7->RD)
structure DFn where
 body:CD
 results:List RV
def a2g(es:List MapEntry)(seen:List Nat):List MapEntry:=es.filter fun e=> !seen.contains e.born
def a6I(x:Value)(h:Heap):Option (List (Value×Heap)):=
 match x with
 | .pointer (some ⟨r,0,_⟩)=>match h.obj r with
  | .miter none _ _ _=>some [(.tuple #[.bool false],h)]
  | .miter (some m) since seen last=>match h.obj m with
   | .map es clock=>
    if(es.all fun e=>decide (e.born<since))=true/\since<=last then
     if(a2g es seen).isEmpty then some [(.tuple #[.bool false],h)]
     else some ((a2g es seen).map fun e=>(.tuple #[.bool true,e.key,e.val],h.upd r (.miter (some m) since (seen++[e.born]) clock)))
    else none
   |_=>none
  |_=>none
 |_=>none
def e2y(x:Value)(h:Heap):Option Value:=
 match x with
 | .pointer (some ⟨r,0,_⟩)=>match h.obj r with
  | .miter (some m) _ seen stepped=>match h.obj m with
   | .map es clock=>if clock=stepped then match seen.getLast? with
    |some b=>(es.find? fun e=>e.born==b).map fun e=> .tuple #[e.key,e.val]
    |none=>none
    else none
   |_=>none
  |_=>none
 |_=>none
def evD(CP:CProg)(DS:a2l):CD->b7->Heap->z8->Prop
 | .lift c,e,h,Q=>H9 CP c e h Q
 | .seq a b,e,h,Q=>evD CP DS a e h fun x e1 h1=>match x with
  | .normal=>evD CP DS b e1 h1 Q
  |x=>Q x e1 h1
 | .cond c t f,e,h,Q=>match c e with
  | .bool true=>evD CP DS t e h Q
  | .bool false=>evD CP DS f e h Q
  |_=>False
 | .block id b,e,h,Q=>evD CP DS b e h (Z4 id Q)
 | .loop b,e,h,Q=>∃(I:Nat->b7->Heap->Prop) (d:Nat),I d e h/\∀d e h,I d e h->evD CP DS b e h (a6H (fun e h=>∃d',d' <d/\I d' e h) Q)
 | .draw x k,e,h,Q=>∃l,a6I (x e) h=some l/\∀r∈l,F5 CP (k e r.1) r.2 Q
 | .ent x k,e,h,Q=>∃v,e2y (x e) h=some v/\F5 CP (k e v) h Q
 | .rd r,e,h,Q=>P0 CP DS (r e) h Q
section
variable {P:Program} {S:Stay} {m:Map} {h:Heap} {w:World}
theorem Emb.drew(e:Emb P S m h w):Emb P S m h w.drew:=⟨e.lt,e.inj,fun b L hb=>by
 have:=e.obj b L hb
 revert this
 cases h.obj b with
 |gone=>exact fun h=>h
 |loop s p=>exact fun h=>h
 |cells c t g=>exact fun h=>h
 |map es c=>exact fun h=>h
 |siter s p=>exact fun h=>h
 |miter m s se st=>cases m<;>exact fun h=>h,e.prot,e.far,e.sLt,e.wf,e.lp⟩
theorem Out.ofDrew{m1:Map}{h1:Heap}{w1:World}(o:Out P S m h w.drew m1 h1 w1):Out P S m h w m1 h1 w1:=
 ⟨o.emb,o.ext,o.dom,o.next,⟨o.wd.os,o.wd.tape,o.wd.output,o.wd.size,o.wd.block⟩,o.same⟩
theorem X2.left{a b:List MapEntry}(e:X2 m a b){y:MapEntry}(hy:y∈b):∃x,x∈a/\b1s m x y:=by
 obtain⟨i,hi⟩:=List.getElem?_of_mem hy
 have hl:=(List.getElem?_eq_some_iff.1 hi).1
 have hl2:i<a.length:=by rw[e.1];exact hl
 have ha:a[i]? =some a[i]:=yF hl2
 exact⟨_,yK ha,e.2 i _ _ ha hi⟩
theorem X2.right{a b:List MapEntry}(e:X2 m a b){x:MapEntry}(hx:x∈a):∃y,y∈b/\b1s m x y:=by
 obtain⟨i,hi⟩:=List.getElem?_of_mem hx
 have hl:=(List.getElem?_eq_some_iff.1 hi).1
 have hl2:i<b.length:=by rw[<-e.1];exact hl
 have hb:b[i]? =some b[i]:=yF hl2
 exact⟨_,yK hb,e.2 i _ _ hi hb⟩
theorem X2.find{q:Nat->Bool}:∀{a b:List MapEntry},X2 m a b->∀{x:MapEntry},a.find? (fun e=>q e.born)=some x->∃y,b.find? (fun e=>q e.born)=some y/\b1s m x y
 | [],b,e,x,h=>by simp at h
 |u::a,[],e,x,h=>by have:=e.1;simp at this
 |u::a,v::b,e,x,h=>by
  have h0:b1s m u v:=e.2 0 u v rfl rfl
  have hr:X2 m a b:=⟨by have:=e.1;simpa using this,fun i x y hx hy=>e.2 (i+1) x y (by simpa using hx) (by simpa using hy)⟩
  by_cases c:q u.born=true
  ·rw[List.find?_cons_of_pos (p:=fun e:MapEntry=>q e.born) c]at h
   obtain rfl:=yA h
   exact⟨v,List.find?_cons_of_pos (p:=fun e:MapEntry=>q e.born) (by rw[<-h0.1];exact c),h0⟩
  ·rw[List.find?_cons_of_neg (p:=fun e:MapEntry=>q e.born) c]at h
   obtain⟨y,h1,h2⟩:=X2.find hr h
   exact⟨y,by rw[List.find?_cons_of_neg (p:=fun e:MapEntry=>q e.born) (by rw[<-h0.1];exact c)];exact h1,h2⟩
theorem d5o(e:Emb P S m h w)(ty:TypeId){x x' :Value}(hx:VR m x x'){l:List (Value×Heap)}(hl:a6I x h=some l):
  ∃r v' w1,r∈l/\(Instr.next x' false ty).run P w=.ok v' w1/\VR m r.1 v' /\Out P S m h w m r.2 w1:=by
 unfold a6I at hl
 split at hl
 case h_2=>simp at hl
 rename_i r sp
 obtain⟨b,o,L,heq,hb,rfl⟩:=hx.ptr_inv
 obtain⟨rfl,rfl,rfl⟩:=Addr.mk.inj heq
 split at hl
 case h_3=>simp at hl
 case h_1=>
  rename_i s1 s2 s3 ho
  have hob:=e.obj _ L hb
  rw[ho]at hob
  obtain⟨hblk,hsh⟩:=hob
  obtain rfl:=yA hl
  have hgo:=run_getObj' (P:=P) hblk (by simp)
  have hz:L.sh+0=0:=by rw[hsh]
  refine⟨_,.tuple #[.bool false],w,List.mem_singleton_self _,?_,VR.tuple_of (VL.cons (.bool _) (VL.nil m)),Out.refl e⟩
  rw[hz]
  simp only[Instr.next,Sem.run_bind,hgo,Result.andThen_ok,Sem.run_pure]
 case h_2=>
  rename_i mm since seen last ho
  have hob:=e.obj _ L hb
  rw[ho]at hob
  obtain⟨K,hK,hblk,hsh⟩:=hob
  have hz:L.sh+0=0:=by rw[hsh]
  rw[hz]
  split at hl
  case h_2=>simp at hl
  rename_i es clock hom
  obtain⟨es',hmb,hE⟩:=Y8 e hK hom
  split at hl
  case isFalse=>simp at hl
  rename_i hc
  have hold:∀y∈es'.toList,y.born<since:=fun y hy=>by
   obtain⟨z,hz,hr⟩:=hE.left hy
   have:=List.all_eq_true.1 hc.1 z hz
   rw[<-hr.1]
   exact of_decide_eq_true this
  have mem:∀y∈(leftOf es' seen.toArray).toList,∃z,z∈a2g es seen/\b1s m z y:=fun y hy=>by
   unfold leftOf at hy
   rw[Array.toList_filter,List.mem_filter]at hy
   obtain⟨z,hz,hr⟩:=hE.left hy.1
   refine⟨z,List.mem_filter.2 ⟨hz,?_⟩,hr⟩
   rw[hr.1]
   simpa using hy.2
  have mem2:∀z∈a2g es seen,∃y,y∈(leftOf es' seen.toArray).toList:=fun z hz=>by
   unfold a2g at hz
   rw[List.mem_filter]at hz
   obtain⟨y,hy,hr⟩:=hE.right hz.1
   refine⟨y,?_⟩
   unfold leftOf
   rw[Array.toList_filter,List.mem_filter]
   refine⟨hy,?_⟩
   rw[<-hr.1]
   simpa using hz.2
  rcases run_next_at (P:=P) w ty L.blk K.blk since last seen.toArray es' clock hblk hmb hold hc.2 with⟨h0,hrun⟩| ⟨y,hy,w1,hw1,hrun⟩
  ·have he:a2g es seen=[]:=by
    cases hq:a2g es seen with
    |nil=>rfl
    |cons z t=>
     obtain⟨y,hy⟩:=mem2 z (by rw[hq];exact List.mem_cons_self)
     have:(leftOf es' seen.toArray).toList.length=0:=by simpa using h0
     rw[List.length_eq_zero_iff.1 this]at hy
     simp at hy
   rw[he]at hl
   obtain rfl:=yA hl
   exact⟨_,_,w,List.mem_singleton_self _,hrun,VR.tuple_of (VL.cons (.bool _) (VL.nil m)),Out.refl e⟩
  ·obtain⟨z,hz,hr⟩:=mem y hy
   have hne:(a2g es seen).isEmpty=false:=by
    cases hq:a2g es seen with
    |nil=>rw[hq]at hz;simp at hz
    |cons a t=>rfl
   rw[hne]at hl
   obtain rfl:=yA hl
   refine⟨_,_,_,List.mem_map.2 ⟨z,hz,rfl⟩,hrun,VR.tuple_of (VL.cons (.bool _) (VL.cons hr.2.1 (VL.cons hr.2.2 (VL.nil m)))),?_⟩
   have ob:∀w1:World,w1.heap[L.blk]? =some (.mapIter (some K.blk) since (seen.toArray.push y.born) clock)->a3h P m L w1 (.miter (some mm) since (seen++[z.born]) clock):=fun w1 h1=>⟨K,hK,by rw[h1,hr.1];simp,hsh⟩
   have wr:(h.obj r).wr=true:=by rw[ho];rfl
   rcases hw1 with rfl|rfl
   ·exact Z1 e hb wr ob
   ·exact Out.ofDrew (Z1 e.drew hb wr ob)
theorem c6j(e:Emb P S m h w){x x' v:Value}(hx:VR m x x')(hv:e2y x h=some v):∃v',(Instr.entry x').run P w=.ok v' w/\VR m v v' :=by
 unfold e2y at hv
 split at hv
 case h_2=>simp at hv
 rename_i r sp
 obtain⟨b,o,L,heq,hb,rfl⟩:=hx.ptr_inv
 obtain⟨rfl,rfl,rfl⟩:=Addr.mk.inj heq
 split at hv
 case h_2=>simp at hv
 rename_i mm since seen stepped ho
 have hob:=e.obj _ L hb
 rw[ho]at hob
 obtain⟨K,hK,hblk,hsh⟩:=hob
 have hz:L.sh+0=0:=by rw[hsh]
 rw[hz]
 split at hv
 case h_2=>simp at hv
 rename_i es clock hom
 obtain⟨es',hmb,hE⟩:=Y8 e hK hom
 split at hv
 case isFalse=>simp at hv
 rename_i hc
 subst hc
 split at hv
 case h_2=>simp at hv
 rename_i bb hlast
 rw[yD]at hv
 obtain⟨z,hz2,rfl⟩:=hv
 obtain⟨y,hy,hr⟩:=X2.find (q:=fun n=>n==bb) hE hz2
 refine⟨.tuple #[y.key,y.val],?_,VR.tuple_of (VL.cons hr.2.1 (VL.cons hr.2.2 (VL.nil m)))⟩
 have hgo:=run_getObj' (P:=P) hblk (by simp)
 have hgm:=run_getObj' (P:=P) hmb (by simp)
 have hbk:seen.toArray.back? =some bb:=by rw[List.back?_toArray];exact hlast
 have hf:es'.find? (fun e=>e.born==bb)=some y:=by rw[<-Array.find?_toList];exact hy
 simp only[Instr.entry,Sem.run_bind,hgo,Result.andThen_ok,hbk,hgm,bne_self_eq_false,Bool.false_eq_true,if_false,hf,Sem.run_pure]
end
def a4E(P:Program)(D:FuncId->Bool)(o:Oper):Option (FuncId×Array Operand):=
 match o.op,o.guard with
 | .call ⟨.value (.func f),args,_⟩,none=>if D f && !a8I P f then some (f,args)else none
 |_,_=>none
def d3k(P:Program)(D:FuncId->Bool)(p:Pers):List Oper->b7->b7->RD
 | [],e,_=> .done e
 |o::rest,e,l=>
  if a0x p o.dst && o.guard.isNone then
   match a4E P D o with
   |some (f,args)=> .dcall f (args.toList.map (C1 p e l)) fun v=>d3k P D p rest (K7 p e l o.dst v).1 (K7 p e l o.dst v).2
   |none=> .op (D6 P o (C1 p e l)) fun v=>d3k P D p rest (K7 p e l o.dst v).1 (K7 p e l o.dst v).2
  else .op .bad fun _=> .done e
def a2H(P:Program)(D:FuncId->Bool)(p:Pers):Code->CD
 | .region id ops d=>
  if !d && ops.toList.any (fun o=>(a4E P D o).isSome)then .rd fun e=>d3k P D p ops.toList e (fun _=>unk)else
  match ops.toList,d with
  |o::rest,false=>
   match o.op,o.guard,a0x p o.dst with
   | .next x false,none,true=> .draw (fun e=>C1 p e (fun _=>unk) x) fun e v=>a0C P p ops rest (K7 p e (fun _=>unk) o.dst v).1 (K7 p e (fun _=>unk) o.dst v).2
   | .entry x,none,true=> .ent (fun e=>C1 p e (fun _=>unk) x) fun e v=>a0C P p ops rest (K7 p e (fun _=>unk) o.dst v).1 (K7 p e (fun _=>unk) o.dst v).2
   |_,_,_=> .lift (H4 P p (.region id ops d))
  |_,_=> .lift (H4 P p (.region id ops d))
 | .seq a b=> .seq (a2H P D p a) (a2H P D p b)
 | .cond c a b=> .cond (fun e=>C1 p e (fun _=>unk) c) (a2H P D p a) (a2H P D p b)
 | .block id b=> .block id (a2H P D p b)
 | .loop b=> .loop (a2H P D p b)
 |c=> .lift (H4 P p c)
def c0Q(P:Program)(D:FuncId->Bool)(p:Pers)(f:Func):Option DFn:=
 match f.body,f.results.toList.mapM (a7W P)with
 |some c,some rs=>if Nat.ble p.size f.ntmps && (rs.all fun r=>p.has r.slot) && Nat.ble rs.length 3 && !(f.name== "runtime.NumGoroutine") && p.ds.isEmpty then some ⟨a2H P D p c,rs⟩else none
 |_,_=>none
section
variable {P:Program}
theorem Out.free{S:Stay}{m m1:Map}{h h1:Heap}{w w1:World}(o:Out P S m h w m1 h1 w1)(hf:∀b,h.next<=b->m b=none):∀b,h1.next<=b->m1 b=none:=fun b hb=>by
 cases hm:m1 b with
 |none=>rfl
 |some L=>
  rcases o.dom b (by rw[hm];simp)with h2| ⟨h2,h3⟩
  ·exact absurd (hf b (yR o.next hb)) h2
  ·omega
def c6Q(P:Program)(DS:a2l):Prop:=∀f args h R,DS f args h R->(∃F,P.funcs[f]? =some F/\(F.name== "runtime.NumGoroutine")=false/\F.body.isNone=false)/\
 ∀(S:Stay) (m:Map) (w:World) (args' :Array Value),VL m args args'.toList->Emb P S m h w->(∀b,h.next<=b->m b=none)->K2 m->
  Calls P f args' w fun e w1=>∃v v' h1 m1,e=.returned v' /\R v h1/\VR m1 v v' /\Out P S m h w m1 h1 w1
theorem e2J{m:Map}{h:Heap}(hf:∀b,h.next<=b->m b=none)(n:Nat):J8 m h.next n:=fun b hb _=>hf b hb
theorem b1K{D:FuncId->Bool}{o:Oper}{f:FuncId}{args:Array Operand}(h:a4E P D o=some (f,args)):∃ts,o.op=.call ⟨.value (.func f),args,ts⟩/\o.guard=none:=by
 unfold a4E at h
 split at h
 ·rename_i f' args' ts hop hg
  split at h
  ·simp only[yC,yB]at h
   obtain⟨rfl,rfl⟩:=h
   exact⟨ts,hop,hg⟩
  ·simp at h
 ·simp at h
theorem b6B{S:Stay}{CP:CProg}{DS:a2l}(hP:a7J P CP)(hDS:c6Q P DS){D:FuncId->Bool}(p:Pers)(all:Array Oper){Q:Exit->Act->World->Prop}{QD:z8}:∀(ops:List Oper) (m:Map) (e l:b7) (h:Heap) (a:Act) (w:World),
  P0 CP DS (d3k P D p ops e l) h QD->Slots p m e l a->Emb P S m h w->(∀b,h.next<=b->m b=none)->
  (∀e1 h1 a1 w1 m1 l1,QD .normal e1 h1->Slots p m1 e1 l1 a1->Out P S m h w m1 h1 w1->Q .normal a1 w1)->wpListIn (FZ none) 0 P all Q ops a w
 | [],m,e,l,h,a,w,hr,hs,hE,hf,hQ=>by
  unfold wpListIn
  exact hQ e h a w m l hr hs (Out.refl hE)
 |o::rest,m,e,l,h,a,w,hr,hs,hE,hf,hQ=>by
  simp only[d3k]at hr
  split at hr
  case isFalse=>
   obtain⟨n,v,h1,hc,_⟩:=hr
   simp[G8,A5]at hc
  rename_i hok
  simp only[Bool.and_eq_true,Option.isNone_iff_eq_none]at hok
  obtain⟨hd,hg⟩:=hok
  unfold wpListIn
  rw[if_pos (by simp[Region.wanted,hg])]
  split at hr
  ·rename_i f args hdc
   obtain⟨ts,hop,_⟩:=b1K hdc
   obtain⟨⟨F,hF,hname,hbody⟩,hruns⟩:=hDS _ _ _ _ hr
   have hal:VL m (args.toList.map (C1 p e l)) (args.map a.eval).toList:=by simpa using T3 hs.eval args.toList
   have hcf:(callFunc f (args.map a.eval)).run P w=.ok (.enter f (args.map a.eval)) w:=by
    simp only[callFunc,Sem.run_bind,run_program,Result.andThen_ok,hF,hname,hbody,Bool.false_eq_true,if_false,Sem.run_pure]
   have hrun:(execOp a.eval o).run P w=(callFunc f (args.map a.eval)).run P w:=by
    have hfv:a.eval (.func f)=.func (.func f) #[] #[]:=rfl
    unfold execOp
    rw[hop]
    simp only[resolve,hfv,Deferred.ofValue,Sem.run_bind,Sem.run_pure,Result.andThen_ok]
    simp[invoke]
   have nd:∀c,o.op≠.defer c:=by intro c hq;rw[hop]at hq;cases hq
   unfold Oper.wpIn
   rw[Oper.semAt_eq _ _ _ nd,hrun,hcf,Oper.uponIn_enter]
   refine⟨fun _ _=>trivial,a6g none,a4O ((hruns S m w _ hal hE hf hs.glob).mono fun en w1 hp=>?_)⟩
   obtain⟨v,v',h1,m1,rfl,hR,hv,ho⟩:=hp
   exact b6B hP hDS p all rest m1 _ _ h1 _ w1 hR ((hs.ext ho.ext).put hd hv) ho.emb (ho.free hf) fun e2 h2 a2 w2 m2 l2 hq2 hs2 ho2=>hQ e2 h2 a2 w2 m2 l2 hq2 hs2 (ho.trans ho2)
  ·obtain⟨n,v,h1,hc,hR⟩:=hr
   refine b0D (a2w hP n) (by exact trivial) none 0 hE o a hs.eval hc (e2J hf _) hs.glob fun v' w1 m1 hv ho=>?_
   exact b6B hP hDS p all rest m1 _ _ h1 _ w1 hR ((hs.ext ho.ext).put hd hv) ho.emb (ho.free hf) fun e2 h2 a2 w2 m2 l2 hq2 hs2 ho2=>hQ e2 h2 a2 w2 m2 l2 hq2 hs2 (ho.trans ho2)
theorem c6N{S:Stay}{CP:CProg}{DS:a2l}(hP:a7J P CP)(hDS:c6Q P DS){D:FuncId->Bool}(p:Pers)(c:Code):∀{QD:z8} {Q:Exit->Act->World->Prop} {m:Map} {e:b7} {h:Heap} {a:Act} {w:World},
  evD CP DS (a2H P D p c) e h QD->Slots p m e (fun _=>unk) a->Emb P S m h w->(∀b,h.next<=b->m b=none)->
  (∀x e1 h1 a1 w1 m1,QD x e1 h1->Slots p m1 e1 (fun _=>unk) a1->Out P S m h w m1 h1 w1->Q (a1N x) a1 w1)->c.wpIn (FZ none) 0 P Q a w:=by
 have lifted:∀(c:Code) {QD:z8} {Q:Exit->Act->World->Prop} {m:Map} {e:b7} {h:Heap} {a:Act} {w:World},
   evD CP DS (.lift (H4 P p c)) e h QD->Slots p m e (fun _=>unk) a->Emb P S m h w->(∀b,h.next<=b->m b=none)->
   (∀x e1 h1 a1 w1 m1,QD x e1 h1->Slots p m1 e1 (fun _=>unk) a1->Out P S m h w m1 h1 w1->Q (a1N x) a1 w1)->c.wpIn (FZ none) 0 P Q a w:=by
  intro c QD Q m e h a w hr hs hE hf hQ
  obtain⟨N,x,e1,h1,he,hq⟩:=hr
  exact O7 (a2w hP N) (by exact trivial) (d6h CP N) none 0 N p c he hs hE (fun b hb _=>hf b hb) fun a1 w1 m1 hs1 ho=>hQ x e1 h1 a1 w1 m1 hq hs1 ho
 induction c with
 |region id ops d=>
  intro QD Q m e h a w hr hs hE hf hQ
  have first:∀(o:Oper) (rest:List Oper),ops.toList=o::rest->d=false->o.guard=none->a0x p o.dst=true->∀(v v' :Value) (h2:Heap) (w1:World),(∀c,o.op≠.defer c)->(execOp a.eval o).run P w=.ok (.value v') w1->VR m v v' ->Out P S m h w m h2 w1->
    F5 CP (a0C P p ops rest (K7 p e (fun _=>unk) o.dst v).1 (K7 p e (fun _=>unk) o.dst v).2) h2 QD->(Code.region id ops d).wpIn (FZ none) 0 P Q a w:=by
   intro o rest hl hd hg hdst v v' h2 w1 hnd hrun hv ho hrr
   subst hd
   obtain⟨N,e1,h1,he,hq⟩:=hrr
   refine wpIn_region_list ?_
   rw[hl]
   unfold wpListIn
   rw[if_pos (by simp[Region.wanted,hg])]
   unfold Oper.wpIn
   rw[Oper.semAt_eq _ _ _ hnd,hrun]
   refine⟨fun _ _=>trivial,?_⟩
   have hf2:=ho.free hf
   exact a4B (a2w hP N) (by exact trivial) none 0 p ops rest m _ _ h2 _ w1 he (hs.put hdst hv) ho.emb (fun b hb _=>hf2 b hb) fun a1 w2 m1 l1 hs1 ho1=>hQ .normal e1 h1 a1 w2 m1 hq hs1.drop (ho.trans ho1)
  simp only[a2H]at hr
  split at hr
  ·rename_i hany
   simp only[Bool.and_eq_true,Bool.not_eq_true']at hany
   obtain⟨hd,_⟩:=hany
   subst hd
   refine wpIn_region_list ?_
   exact b6B hP hDS p ops ops.toList m e _ h a w hr hs hE hf fun e1 h1 a1 w1 m1 l1 hq hs1 ho=>hQ .normal e1 h1 a1 w1 m1 hq hs1.drop ho
  rename_i hneg
  clear hneg
  split at hr
  ·rename_i o rest hl
   split at hr
   ·rename_i x hop hg hdst
    obtain⟨l,hl2,hall⟩:=hr
    obtain⟨r,v',w1,hmem,hrun,hv,ho⟩:=d5o hE o.type (hs.eval x) hl2
    refine first o rest hl rfl hg hdst r.1 v' r.2 w1 (by intro c hq;rw[hop]at hq;cases hq) ?_ hv ho (hall r hmem)
    unfold execOp
    rw[hop]
    simp only[Sem.run_bind,hrun,Result.andThen_ok,Sem.run_pure]
   ·rename_i x hop hg hdst
    obtain⟨v,hv2,hall⟩:=hr
    obtain⟨v',hrun,hv⟩:=c6j hE (hs.eval x) hv2
    refine first o rest hl rfl hg hdst v v' h w (by intro c hq;rw[hop]at hq;cases hq) ?_ hv (Out.refl hE) hall
    unfold execOp
    rw[hop]
    simp only[Sem.run_bind,hrun,Result.andThen_ok,Sem.run_pure]
   ·exact lifted _ hr hs hE hf hQ
  ·exact lifted _ hr hs hE hf hQ
 |seq a b iha ihb=>
  intro QD Q m e h ac w hr hs hE hf hQ
  simp only[a2H,evD]at hr
  refine wpIn_seq (iha hr hs hE hf fun x e1 h1 a1 w1 m1 hq hs1 ho=>?_)
  cases x with
  |normal=>exact ihb hq hs1 ho.emb (ho.free hf) fun x e2 h2 a2 w2 m2 hq2 hs2 ho2=>hQ x e2 h2 a2 w2 m2 hq2 hs2 (ho.trans ho2)
  |exit i=>exact hQ _ _ _ _ _ _ hq hs1 ho
  |ret=>exact hQ _ _ _ _ _ _ hq hs1 ho
 |cond c a b iha ihb=>
  intro QD Q m e h ac w hr hs hE hf hQ
  simp only[a2H,evD]at hr
  have hv:=hs.eval c
  split at hr
  ·rename_i hc
   rw[hc]at hv
   exact wpIn_cond_true hv.bool_inv (iha hr hs hE hf hQ)
  ·rename_i hc
   rw[hc]at hv
   exact wpIn_cond_false hv.bool_inv (ihb hr hs hE hf hQ)
  ·exact hr.elim
 |block id b ih=>
  intro QD Q m e h a w hr hs hE hf hQ
  simp only[a2H,evD]at hr
  refine wpIn_block (ih hr hs hE hf fun x e1 h1 a1 w1 m1 hq hs1 ho=>?_)
  cases x with
  |normal=>exact hQ _ _ _ _ _ _ hq hs1 ho
  |exit i=>
   show(if i=id then Q .normal a1 w1 else Q (.exit i) a1 w1)
   have hq:if i=id then QD .normal e1 h1 else QD (.exit i) e1 h1:=hq
   by_cases hi:i=id
   ·rw[if_pos hi]at hq ⊢;exact hQ _ _ _ _ _ _ hq hs1 ho
   ·rw[if_neg hi]at hq ⊢;exact hQ _ _ _ _ _ _ hq hs1 ho
  |ret=>exact hQ _ _ _ _ _ _ hq hs1 ho
 |loop b ih=>
  intro QD Q m e h a w hr hs hE hf hQ
  simp only[a2H,evD]at hr
  obtain⟨I,d,hI,hstep⟩:=hr
  refine T5.loop ?_
  have key:∀(n d:Nat),d<n->∀{m:Map} {e:b7} {h:Heap} {a:Act} {w:World},I d e h->Slots p m e (fun _=>unk) a->Emb P S m h w->(∀b,h.next<=b->m b=none)->
    (∀x e1 h1 a1 w1 m1,QD x e1 h1->Slots p m1 e1 (fun _=>unk) a1->Out P S m h w m1 h1 w1->Q (a1N x) a1 w1)->T5 none 0 P b Q a w:=by
   intro n
   induction n with
   |zero=>intro d hd;omega
   |succ n ihn=>
    intro d hd m e h a w hI hs hE hf hQ
    refine T5.round (ih (hstep d e h hI) hs hE hf fun x e1 h1 a1 w1 m1 hq hs1 ho=>?_)
    cases x with
    |normal=>
     obtain⟨d',hd',hI'⟩:=hq
     exact ihn d' (by omega) hI' hs1 ho.emb (ho.free hf) fun x e2 h2 a2 w2 m2 hq2 hs2 ho2=>hQ x e2 h2 a2 w2 m2 hq2 hs2 (ho.trans ho2)
    |exit i=>exact hQ _ _ _ _ _ _ hq hs1 ho
    |ret=>exact hQ _ _ _ _ _ _ hq hs1 ho
  exact key (d+1) d (Nat.lt_succ_self _) hI hs hE hf hQ
 |_=>intro QD Q m e h a w hr hs hE hf hQ;exact lifted _ hr hs hE hf hQ
end
def b4S(CP:CProg)(DS:a2l)(fn:DFn)(args:List Value)(h:Heap)(Q:Value->Heap->Prop):Prop:=evD CP DS fn.body (U0 args) h (a1W fn.results Q)
theorem b4t{P:Program}{CP:CProg}{DS:a2l}(hP:a7J P CP)(hDS:c6Q P DS){D:FuncId->Bool}{f:FuncId}{F:Func}(hF:P.funcs[f]? =some F){p:Pers}{fn:DFn}(hfn:c0Q P D p F=some fn){args:List Value}{h:Heap}{R:Value->Heap->Prop}(hc:b4S CP DS fn args h R){S:Stay}{m:Map}{w:World}{args' :Array Value}(hargs:VL m args args'.toList)(hE:Emb P S m h w)(hf:∀b,h.next<=b->m b=none)(hgl:K2 m:=by intro g hg;exact absurd hg (by simp[GLN])):
  Calls P f args' w fun e w1=>∃v v' h1 m1,e=.returned v' /\R v h1/\VR m1 v v' /\Out P S m h w m1 h1 w1:=by
 unfold c0Q at hfn
 split at hfn
 case h_2=>simp at hfn
 rename_i c rs hb hrs
 split at hfn
 case isFalse=>simp at hfn
 rename_i hok
 simp only[Bool.and_eq_true,Bool.not_eq_true',Nat.ble_eq]at hok
 obtain⟨⟨⟨⟨hsz,hhas⟩,h3⟩,hname⟩,hds⟩:=hok
 have hpds:p.ds=[]:=by simpa using hds
 obtain rfl:=yA hfn
 refine calls_of_wp hF hb ((wpIn_wide (n:=0)).1 (c6N hP hDS p c hc ⟨fun t=>?_,?_,hpds.symm,hgl⟩ hE hf fun x e1 h1 a1 w1 m1 hq hs1 ho=>?_))
 ·unfold X4
  split
  ·simp only[U0,List.getD_eq_getElem?_getD,Array.getD_eq_getD_getElem?]
   by_cases ht:t<args'.size
   ·have ht2:t<args.length:=by have:=hargs.1;simp only[Array.length_toList]at this;omega
    rw[Array.getElem?_append_left ht,Array.getElem?_eq_getElem ht,yF ht2]
    simp only[Option.getD_some]
    exact hargs.2 t _ _ (yF ht2) (by simp[ht])
   ·have ht2:args.length<=t:=by have:=hargs.1;simp only[Array.length_toList]at this;omega
    have hu:((args' ++Array.replicate (F.ntmps-args'.size) undef)[t]?).getD undef=undef:=by
     rw[Array.getElem?_append_right (Nat.le_of_not_lt ht),Array.getElem?_replicate]
     split<;>rfl
    rw[hu,List.getElem?_eq_none ht2]
    exact .tuple _ _ rfl (fun i x y hx=>by simp at hx)
  ·exact .unk _
 ·simp only[Array.size_append,Array.size_replicate];omega
 ·have hd:a1.defers=[]:=by rw[hs1.defers,hpds]
  have fin:a4m (E7 e1 h1 rs) h1 R->∃v',(results F a1.tmps).run P w1=.ok v' w1/\∃v'' v h1' m1',Ending.returned v' =.returned v'' /\R v h1' /\VR m1' v v'' /\Out P S m h w m1' h1' w1:=by
   intro hq
   unfold a4m at hq
   split at hq
   ·rename_i v hres
    obtain⟨v',hrun,hv⟩:=Y6 ho.emb hrs h3 hhas hs1 hres
    exact⟨v',hrun,v',v,h1,m1,rfl,hq,hv,ho⟩
   ·exact hq.elim
  cases x with
  |normal=>
   obtain⟨v',hrun,v'',v,h1',m1',he,hR,hv,ho'⟩:=fin hq
   exact⟨hd,v',hrun,v,v'',h1',m1',he,hR,hv,ho'⟩
  |ret=>
   obtain⟨v',hrun,v'',v,h1',m1',he,hR,hv,ho'⟩:=fin hq
   exact⟨hd,v',hrun,v,v'',h1',m1',he,hR,hv,ho'⟩
  |exit i=>exact hq.elim
section
variable (CP:CProg) (DS:a2l)
def b3t(b:CD)(Q:z8):z8
 | .normal,e,h=>evD CP DS b e h Q
 |x,e,h=>Q x e h
def a9r(v:Value)(a b:CD)(e:b7)(h:Heap)(Q:z8):Prop:=
 match v with
 | .bool true=>evD CP DS a e h Q
 | .bool false=>evD CP DS b e h Q
 |_=>False
variable {CP:CProg} {DS:a2l}
theorem B6(c:CC)(e:b7)(h:Heap)(Q:z8):evD CP DS (.lift c) e h Q↔H9 CP c e h Q:=Iff.rfl
theorem D1(a b:CD)(e:b7)(h:Heap)(Q:z8):evD CP DS (.seq a b) e h Q↔evD CP DS a e h (b3t CP DS b Q):=by
 have:(fun(x:X) (e1:b7) (h1:Heap)=>match x with
  | .normal=>evD CP DS b e1 h1 Q
  |x=>Q x e1 h1)=b3t CP DS b Q:=by
  funext x e1 h1
  cases x<;>rfl
 simp only[evD,this]
theorem B2(c:b7->Value)(a b:CD)(e:b7)(h:Heap)(Q:z8):evD CP DS (.cond c a b) e h Q↔a9r CP DS (c e) a b e h Q:=by
 unfold a9r
 simp only[evD]
theorem A7(id:Nat)(b:CD)(e:b7)(h:Heap)(Q:z8):evD CP DS (.block id b) e h Q↔evD CP DS b e h (Z4 id Q):=Iff.rfl
theorem y6(b:CD)(Q:z8)(e:b7)(h:Heap):b3t CP DS b Q .normal e h↔evD CP DS b e h Q:=Iff.rfl
theorem B3(b:CD)(Q:z8)(e:b7)(h:Heap):b3t CP DS b Q .ret e h↔Q .ret e h:=Iff.rfl
theorem A8(b:CD)(Q:z8)(i:Nat)(e:b7)(h:Heap):b3t CP DS b Q (.exit i) e h↔Q (.exit i) e h:=Iff.rfl
theorem A3(a b:CD)(e:b7)(h:Heap)(Q:z8):a9r CP DS (.bool true) a b e h Q↔evD CP DS a e h Q:=Iff.rfl
theorem y7(a b:CD)(e:b7)(h:Heap)(Q:z8):a9r CP DS (.bool false) a b e h Q↔evD CP DS b e h Q:=Iff.rfl
theorem d2h(b:CD)(Q:z8)(I:Nat->b7->Heap->Prop)(step:∀d e h,I d e h->evD CP DS b e h (a6H (fun e h=>∃d',d' <d/\I d' e h) Q))(d:Nat)(e:b7)(h:Heap)(h0:I d e h):evD CP DS (.loop b) e h Q:=
 ⟨I,d,h0,step⟩
theorem F4(r:b7->RD)(e:b7)(h:Heap)(Q:z8):evD CP DS (.rd r) e h Q↔P0 CP DS (r e) h Q:=Iff.rfl
theorem rod{f g:b7->RD}(q:∀e,f e=g e)(CP:CProg)(DS:a2l)(e:b7)(h:Heap)(Q:z8):P0 CP DS (f e) h Q↔P0 CP DS (g e) h Q:=by rw[q]
theorem B5(v:Value)(k:Value->RD)(h:Heap)(Q:z8):P0 CP DS (.op (.mv v) k) h Q↔P0 CP DS (k v) h Q:=by
 constructor
 ·rintro⟨n,v1,h1,hc,hr⟩
  simp only[G8,A5,yC,yB]at hc
  obtain⟨rfl,rfl⟩:=hc
  exact hr
 ·intro hr
  exact⟨0,v,h,rfl,hr⟩
def b1T(CP:CProg)(DS:a2l)(x:Option (Value×Heap))(k:Value->RD)(Q:z8):Prop:=match x with
 |some (v,h)=>P0 CP DS (k v) h Q
 |none=>False
theorem w9(v:Value)(h:Heap)(k:Value->RD)(Q:z8):b1T CP DS (some (v,h)) k Q↔P0 CP DS (k v) h Q:=Iff.rfl
theorem B7(op:UnOp)(x:Value)(k:Value->RD)(h:Heap)(Q:z8):P0 CP DS (.op (.un op x) k) h Q↔b1T CP DS (A5 (.un op x) h) k Q:=by
 show(∃n v h1,G8 (O9 CP n) (.un op x) h=some (v,h1)/\P0 CP DS (k v) h1 Q)↔_
 have e:∀n,G8 (O9 CP n) (.un op x) h=A5 (.un op x) h:=fun n=>rfl
 simp only[e]
 unfold b1T
 cases hc:A5 (.un op x) h with
 |none=>simp
 |some r=>
  obtain⟨v,h1⟩:=r
  simp only[yC,yB]
  exact⟨fun⟨_,v',h',⟨a,b⟩,q⟩=>by subst a b;exact q,fun q=>⟨0,v,h1,⟨rfl,rfl⟩,q⟩⟩
theorem A4(e:b7)(h:Heap)(Q:z8):P0 CP DS (.done e) h Q↔Q .normal e h:=Iff.rfl
theorem y8(f:FuncId)(args:List Value)(k:Value->RD)(h:Heap)(Q:z8):P0 CP DS (.dcall f args k) h Q↔DS f args h fun v h1=>P0 CP DS (k v) h1 Q:=Iff.rfl
theorem b0q{c c' :CD}(e:b7)(h:Heap)(Q:z8)(q:c=c'):evD CP DS c e h Q=evD CP DS c' e h Q:=by rw[q]
theorem a3Q{v v' :Value}(a b:CD)(e:b7)(h:Heap)(Q:z8)(q:v=v'):a9r CP DS v a b e h Q=a9r CP DS v' a b e h Q:=by rw[q]
theorem a3P{r r' :RD}(h:Heap)(Q:z8)(q:r=r'):P0 CP DS r h Q=P0 CP DS r' h Q:=by rw[q]
end
open Reg renaming op->xA,opg->xB,done->xC,snap->xD,chk->xE
open COp renaming load->wA,mv->wB,fieldAddr->wC,call->wD,bin->wE,store->wF,extract->wG,alloc->wH,indexSl->wI,nilCheck->wJ,pick->wK,lenSl->wL,build->wM,box->wN,conv->wO,un->wP
def e8k:FuncId->Bool:=fun f=>Nat.beq f 11
def e0N(e:b7):Reg:=xA (wN 23 (e 0)) fun a=>xA (wB (.bool false)) fun b=>xC ((e.upd 3 a).upd 6 b)
def e0R(e:b7):RD:=
 .dcall 11 [] fun t22=>
 .op (.un .not t22) fun t23=>
 .done (e.upd 23 t23)
def e0O(e:b7):Reg:=xA (wB (.bool false)) fun a=>xC (e.upd 6 a)
def e0Z(e:b7):Reg:=xA (wB (e 1)) fun a=>xA (wL a) fun b=>xA (wE .gtr b (.int .i64 50)) fun c=>xA (wB c) fun d=>xB d false (wB (e 2)) fun f=>xB d false (wD 12 [f]) fun g=>xB d false (wP .not g) fun i=>xA (wK d (.bool true) i) fun j=>xC (e.upd 31 j)
def e0P(e:b7):Reg:=xA (wB (.bool true)) fun a=>xC (e.upd 6 a)
def e0U(e:b7):Reg:=xA (wA (some 9) (e 3)) fun a=>xA (.buildSlice 23 1 [(.int .i64 0),(.int .i64 0),(.int .i64 0),(.int .i64 0),(.int .i64 0),(.int .i64 0),(.int .i64 0),(.int .i64 0),(.bool false)] [(0,9,a)]) fun b=>xA (wD 13 [b,(.int .i64 0)]) fun c=>xA (wH 30 [(.int .i64 0),(.int .i64 0),(.int .i64 0),(.slice none 0 0)]) fun d=>xA (wF 4 d c) fun _=>xC (e.upd 7 d)
def e1b(e:b7):Reg:=xA (wC 3 (e 7)) fun a=>xA (wA none a) fun b=>xA (wI 9 b (.int .i64 0)) fun c=>xA (wA (some 9) c) fun d=>xA (wH 34 [(.int .i64 0),(.int .i64 0),(.int .i64 0),(.int .i64 0),(.int .i64 0),(.int .i64 0),(.int .i64 0),(.int .i64 0),(.bool false)]) fun f=>xA (wF 9 f d) fun _=>xC (e.upd 8 f)
def e0M(e:b7):Reg:=xA (wA (some 4) (e 7)) fun a=>xA (wB (e 1)) fun b=>xA (wD 14 [a,b]) fun c=>xA (wB c) fun d=>xA (wG d 0) fun f=>xA (wG d 1) fun g=>xA (wB f) fun i=>xA (wB g) fun j=>xC ((e.upd 9 i).upd 10 j)
def e0Y(e:b7):Reg:=xA (wB (e 9)) fun a=>xA (wM [(.int .i64 0),(.int .i64 0),(.int .i64 0),(.slice none 0 0),(.int .i64 0),(.slice none 0 0)] [(0,1,(.int .i64 0))]) fun b=>xA (wD 15 [a,b]) fun c=>xC e
def e0S(e:b7):Reg:=xA (.makeMap) fun a=>xA (wB a) fun b=>xC (e.upd 11 b)
def d6d(e:b7):Reg:=xA (wB (.int .i64 0)) fun a=>xC (e.upd 12 a)
def d0Q(e:b7):Reg:=xA (wB (e 2)) fun a=>xA (wL a) fun b=>xA (wB (.int .i64 0)) fun c=>xC (((e.upd 49 a).upd 50 b).upd 51 c)
def d1I(e:b7):Reg:=xA (wE .lss (e 51) (e 50)) fun a=>xC (e.upd 52 a)
def d2e(e:b7):Reg:=xA (wI 4 (e 49) (e 51)) fun a=>xA (wA (some 4) a) fun b=>xA (wH 48 [(.int .i64 0),(.int .i64 0),(.string ⟨#[]⟩),(.bool false)]) fun c=>xA (wF 4 c b) fun _=>xC (e.upd 14 c)
def d2B(e:b7):Reg:=xA (wB (e 12)) fun a=>xA (wC 0 (e 14)) fun b=>xA (wA none b) fun c=>xA (wD 16 [c]) fun d=>xA (wE .add a d) fun f=>xA (wB f) fun g=>xC (e.upd 12 g)
def d8T(e:b7):Reg:=xA (wC 1 (e 14)) fun a=>xA (wA none a) fun b=>xA (wE .and b (.int .i64 31)) fun c=>xA (wC 2 (e 8)) fun d=>xA (wA none d) fun f=>xA (wE .rem c f) fun g=>xA (wE .add g (.int .i64 1)) fun i=>xA (wB i) fun j=>xC (e.upd 15 j)
def c8Y(e:b7):Reg:=xA (wB (e 11)) fun a=>xA (wC 2 (e 14)) fun b=>xA (wA none b) fun c=>xA (.lookup (.one .str) (.pointer none) false a c) fun d=>xA (wB d) fun f=>xC (e.upd 16 f)
def a7Q(e:b7):Reg:=xA (wB (e 16)) fun a=>xA (.eqK .ptr false a (.pointer none)) fun b=>xC (e.upd 72 b)
def a7p(e:b7):Reg:=xA (wB (e 11)) fun a=>xA (.lenMap a) fun b=>xA (wC 4 (e 8)) fun c=>xA (wA none c) fun d=>xA (wE .eql b d) fun f=>xC (e.upd 77 f)
def a6q(e:b7):Reg:=xA (wB (.bool true)) fun a=>xC (e.upd 6 a)
def a7x(e:b7):Reg:=xA (wB (e 12)) fun a=>xA (wM [(.int .i64 0),(.int .i64 0),(.int .i64 0),(.int .i64 0)] [(0,1,a)]) fun b=>xA (wN 52 b) fun c=>xA (wB c) fun d=>xC (e.upd 16 d)
def a5K(e:b7):Reg:=xA (wB (e 11)) fun a=>xA (wC 2 (e 14)) fun b=>xA (wA none b) fun c=>xA (wB (e 16)) fun d=>xA (.mapUpdate (.one .str) a c d) fun _=>xC e
def a9o(e:b7)(a b c:Value):Reg:=xA (wF 1 c b) fun _=>xA (wJ a) fun d=>xA (wC 3 d) fun f=>xA (wF 1 f (.int .i64 0)) fun _=>xC e
def b0S(e:b7):Reg:=xA (wB (e 16)) fun a=>xA (wB (e 16)) fun b=>xA (wB (e 12)) fun c=>xA (wC 1 (e 8)) fun d=>xA (wA none d) fun f=>xA (wE .sub c f) fun g=>xA (wJ a) fun i=>xA (wC 1 i) fun j=>a9o e b g j
def a8m(e:b7)(a:Value):Reg:=xA (wM [(.int .i64 0),(.int .i64 0),(.int .i64 0)] [(0,1,(.int .i64 1)),(2,1,a)]) fun b=>xA (wH 55 [(.int .i64 0),(.int .i64 0),(.int .i64 0)]) fun c=>xD fun h9=>xA (wF 3 c b) fun _=>xC (e.upd 17 c)
def b0M(e:b7):Reg:=xA (wB (e 16)) fun a=>xA (wJ a) fun b=>xA (wA (some 4) b) fun c=>xA (wA (some 9) (e 8)) fun d=>xA (wB (e 12)) fun f=>xA (wB (e 15)) fun g=>xD fun h6=>xA (wD 17 [c,d,f,g]) fun i=>a8m e i
def a2U(e:b7):Reg:=xA (wB (e 16)) fun a=>xA (wA (some 9) (e 8)) fun b=>xA (wB (e 12)) fun c=>xA (wB (e 15)) fun d=>xA (wD 18 [a,b,c,d]) fun f=>xA (wP .not f) fun g=>xC (e.upd 108 g)
def a2L(e:b7):Reg:=xA (wC 0 (e 17)) fun a=>xA (wF 1 a (.int .i64 2)) fun _=>xC e
def a7d(e:b7):Reg:=xA (wB (e 16)) fun a=>xA (wJ a) fun b=>xA (wA (some 4) b) fun c=>xA (wA (some 9) (e 8)) fun d=>xA (wB (e 12)) fun f=>xD fun h5=>xA (wD 19 [c,d,f]) fun g=>xA (wC 1 (e 17)) fun i=>xD fun h7=>xA (wF 1 i g) fun _=>xC e
def a7D(e:b7):Reg:=xA (wB (e 9)) fun a=>xA (wB (e 12)) fun b=>xA (wC 2 (e 14)) fun c=>xA (wA none c) fun d=>xA (wB (e 15)) fun f=>xA (wO .u32 f) fun g=>xA (wM [(.int .i64 0),(.int .i64 0),(.int .u32 0),(.string ⟨#[]⟩),(.int .i64 0)] [(0,1,(.int .i64 1)),(3,1,d),(2,1,g)]) fun i=>xA (wD 20 [i]) fun j=>xA (wM [(.int .i64 0),(.int .i64 0),(.int .i64 0),(.slice none 0 0),(.int .i64 0),(.slice none 0 0)] [(0,1,(.int .i64 2)),(1,1,b),(3,1,j)]) fun k=>xA (wD 15 [a,k]) fun m=>xC e
def a6z(e:b7):Reg:=xA (wB (e 9)) fun a=>xA (wB (e 12)) fun b=>xA (wM [(.int .i64 0),(.int .i64 0),(.int .i64 0),(.slice none 0 0),(.int .i64 0),(.slice none 0 0)] [(0,1,(.int .i64 3)),(1,1,b),(4,1,(.int .i64 99))]) fun c=>xA (wD 15 [a,c]) fun d=>xA (wH 42 [(.int .i64 0),(.int .i64 0),(.slice none 0 0),(.slice none 0 0)]) fun f=>xA (wF 4 f d) fun _=>xC (e.upd 18 f)
def b0B(e:b7)(a b c d:Value):Reg:=xA (wF 12 d a) fun _=>xA (wB b) fun f=>xA (wB c) fun g=>xC (((e.upd 19 d).upd 20 f).upd 21 g)
def a7c(e:b7):Reg:=xA (wC 2 (e 18)) fun a=>xA (wA none a) fun b=>xA (wD 21 [b]) fun c=>xA (wB c) fun d=>xA (wG d 0) fun f=>xA (wG d 1) fun g=>xA (wG d 2) fun i=>xA (wH 66 [(.int .i64 0),(.int .i64 0),(.int .i64 0),(.int .i64 0),(.int .i64 0),(.int .i64 0),(.int .i64 0),(.int .i64 0),(.int .i64 0),(.int .i64 0),(.slice none 0 0),(.int .i64 0)]) fun j=>b0B e f g i j
def a9u(e:b7)(a b:Value):Reg:=xB a false (wA (some 3) b) fun c=>xB a false (wA (some 3) (e 17)) fun d=>xB a false (.eqAgg true [.int,.int,.int] c d) fun f=>xA (wK a (.bool true) f) fun g=>xC (e.upd 157 g)
def b0k(e:b7)(a b:Value):Reg:=xA (wK a (.bool true) b) fun c=>xA (wB c) fun d=>xB d false (wC 0 (e 19)) fun f=>xB d false (wA none f) fun g=>xB d false (wE .neq g (.int .i64 1)) fun i=>xA (wK d (.bool true) i) fun j=>xA (wB j) fun k=>xB k false (wC 2 (e 19)) fun m=>a9u e k m
def a7N(e:b7):Reg:=xA (wB (e 21)) fun a=>xA (wP .not a) fun b=>xA (wB b) fun c=>xB c false (wB (e 20)) fun d=>xB c false (wC 2 (e 18)) fun f=>xB c false (wA none f) fun g=>xB c false (wL g) fun i=>xB c false (wE .neq d i) fun j=>b0k e c j
def a4W(e:b7):Reg:=xA (wB (.bool false)) fun a=>xC (e.upd 6 a)
def b1I(e:b7):Reg:=xA (wE .add (e 51) (.int .i64 1)) fun a=>xA (wB a) fun b=>xC (e.upd 51 b)
def b8H:CD:=(.seq (.lift (.region d1I)) (.seq (.cond (fun e=>e 52) (.lift .skip) (.lift (.exit 0))) (.seq (.block 1 (.seq (.lift (.region d2e)) (.seq (.lift (.region d2B)) (.seq (.lift (.region d8T)) (.seq (.lift (.region c8Y)) (.seq (.seq (.lift (.region a7Q)) (.cond (fun e=>e 72) (.seq (.seq (.lift (.region a7p)) (.cond (fun e=>e 77) (.seq (.lift (.region a6q)) (.lift .ret)) (.lift .skip))) (.seq (.lift (.region a7x)) (.lift (.region a5K)))) (.lift .skip))) (.seq (.lift (.region b0S)) (.seq (.lift (.region b0M)) (.seq (.seq (.lift (.region a2U)) (.cond (fun e=>e 108) (.lift (.region a2L)) (.lift .skip))) (.seq (.lift (.region a7d)) (.seq (.lift (.region a7D)) (.seq (.lift (.region a6z)) (.seq (.lift (.region a7c)) (.seq (.lift (.region a7N)) (.cond (fun e=>e 157) (.seq (.lift (.region a4W)) (.lift .ret)) (.lift .skip)))))))))))))))) (.lift (.region b1I)))))
def d0G(e:b7):Reg:=xA (wB (.bool true)) fun a=>xC (e.upd 6 a)
def RD3:=an (ro e0N.eq_1)<|an (rod e0R.eq_1)<|an (ro e0O.eq_1)<|an (ro e0Z.eq_1)<|an (ro e0P.eq_1)<|an (ro e0U.eq_1)<|an (ro e1b.eq_1)<|an (ro e0M.eq_1)<|an (ro e0Y.eq_1)<|an (ro e0S.eq_1)<|an (ro d6d.eq_1)<|an (ro d0Q.eq_1)<|an (ro d1I.eq_1)<|an (ro d2e.eq_1)<|an (ro d2B.eq_1)<|an (ro d8T.eq_1)<|an (ro c8Y.eq_1)<|an (ro a7Q.eq_1)<|an (ro a7p.eq_1)<|an (ro a6q.eq_1)<|an (ro a7x.eq_1)<|an (ro a5K.eq_1)<|an (W3 a9o.eq_1)<|an (ro b0S.eq_1)<|an (ro1 a8m.eq_1)<|an (ro b0M.eq_1)<|an (ro a2U.eq_1)<|an (ro a2L.eq_1)<|an (ro a7d.eq_1)<|an (ro a7D.eq_1)<|an (ro a6z.eq_1)<|an (ro4 b0B.eq_1)<|an (ro a7c.eq_1)<|an (O5 a9u.eq_1)<|an (O5 b0k.eq_1)<|an (ro a7N.eq_1)<|an (ro a4W.eq_1)<|an (ro b1I.eq_1)<|ro d0G.eq_1
def d3:DFn:=⟨(.seq (.lift (.region e0N)) (.seq (.seq (.rd e0R) (.cond (fun e=>e 23) (.seq (.lift (.region e0O)) (.lift .ret)) (.lift .skip))) (.seq (.seq (.lift (.region e0Z)) (.cond (fun e=>e 31) (.seq (.lift (.region e0P)) (.lift .ret)) (.lift .skip))) (.seq (.lift (.region e0U)) (.seq (.lift (.region e1b)) (.seq (.lift (.region e0M)) (.seq (.lift (.region e0Y)) (.seq (.lift (.region e0S)) (.seq (.lift (.region d6d)) (.seq (.seq (.lift (.region d0Q)) (.block 0 (.loop b8H))) (.seq (.lift (.region d0G)) (.lift .ret)))))))))))),[.t 6]⟩
def b6J:Heap:=⟨fun _=> .gone,0⟩
set_option maxRecDepth 1000000 in
theorem c6M:(b2c cp 100 (.fn 11) [] b6J).map (fun r=>r.1)=some (.bool true):=by kernel_rfl
section
variable {P:Program} {S:Stay} {m:Map} {h:Heap} {w w1:World}
theorem Out.grown(e:Emb P S m h w)(hk:∀k,k<w.heap.size->w1.heap[k]? =w.heap[k]?)(hs:w.heap.size<=w1.heap.size)(hos:w1.os=w.os)(ht:w1.tape=w.tape)(ho:w1.output=w.output):Out P S m h w m h w1:=
 ⟨⟨fun b L hb hl=>yN (e.lt b L hb hl) hs,e.inj,fun b L hb=>by
  by_cases hl:(h.obj b).live=true
  ·exact(e.obj b L hb).of_block (hk _ (e.lt b L hb hl))
  ·cases hx:h.obj b with
   |gone=>trivial
   |_=>rw[hx]at hl;exact absurd rfl hl,e.prot,e.far,fun k hk=>yN (e.sLt k hk) hs,e.wf,fun b I hI=>by
  obtain⟨q1,q2,q3⟩:=e.lp b I hI
  refine⟨q1,q2,fun st pd ho r hr=>q3 st pd ho r ?_⟩
  rw[hk _ (e.lt b I.L q1 (by rw[ho];rfl))]at hr
  exact hr⟩,Ext.refl m,fun _ hb=> .inl hb,yP _,⟨hos,ht,ho,hs,fun k hk' =>hk k (e.sLt k hk')⟩,fun _ _ _=>rfl⟩
end
theorem Emb.none(P:Program)(w:World):Emb P ⟨fun k=>k<w.heap.size,fun _=>False,fun _=> .none⟩ (fun _=>Option.none) b6J w:=
 ⟨fun b L hb=>by simp at hb,fun b c L K hb=>by simp at hb,fun b L hb=>by simp at hb,fun b L hb=>by simp at hb,fun b L hb=>by simp at hb,fun k hk=>hk.elim (fun q=>q) False.elim,fun b hb=>rfl,fun b I hI=>by cases hI⟩
def b9o(f0:FuncId)(v0:Value):a2l:=fun f args h R=>f=f0/\args=[]/\R v0 h
theorem b5v{f0:FuncId}{b:Bool}{n:Nat}(hr:(b2c cp n (.fn f0) [] b6J).map (fun r=>r.1)=some (.bool b)):c6Q Tryz.prog (b9o f0 (.bool b)):=by
 rintro f args h R ⟨rfl,rfl,hR⟩
 have hc:=d3s hr
 refine⟨?_,fun S m w args' ha e hf hg=>?_⟩
 ·obtain⟨n,v,h1,he,_⟩:=hc
  exact((a2w c8n n).fn f [] b6J v h1 he).has
 ·have ea:args' = #[]:=Array.toList_eq_nil_iff.1 ha.of_nil
  subst ea
  refine(b5y c8n hc (VL.nil (fun _=>Option.none)) (Emb.none Tryz.prog w) (fun _ _=>rfl)).mono fun en w1 hp=>?_
  obtain⟨v,v',h1,m1,rfl,rfl,hv,ho⟩:=hp
  exact⟨_,v',h,m,rfl,hR,by rw[hv.bool_inv];exact .bool b,Out.grown e (fun k hk=>ho.wd.block k (.inl hk)) ho.wd.size ho.wd.os ho.wd.tape ho.wd.output⟩
def a3n:a2l:=b9o 11 (.bool true)
theorem c7f:c6Q Tryz.prog a3n:=b5v c6M
open Go.ChangeShapes Go.WideShapes Go.Deep Go.RowKit in
theorem b5M{P:Program}{CP:CProg}{DS:a2l}(hP:a7J P CP)(hDS:c6Q P DS){D:FuncId->Bool}{f:FuncId}{F:Func}(hF:P.funcs[f]? =some F){p:Pers}{fn:DFn}(hfn:c0Q P D p F=some fn){args:List Value}{h:Heap}(hc:b4S CP DS fn args h fun v _=>v=.bool true){m:Map}{W:World}{args' :Array Value}(ha:VL m args args'.toList)(hE:Emb P ⟨fun k=>k<W.heap.size,fun _=>False,fun _=>none⟩ m h W)(hf:∀b,h.next<=b->m b=none)(hgl:K2 m:=by intro g hg;exact absurd hg (by simp[GLN])):
  Calls P f args' W fun e W' =>e=.returned (.bool true)/\Below W.heap.size W W' :=by
 refine(b4t hP hDS hF hfn hc ha hE hf hgl).mono fun e W' hp=>?_
 obtain⟨v,v',h1,m1,rfl,rfl,hv,ho⟩:=hp
 refine⟨by rw[hv.bool_inv],ho.wd.os,ho.wd.tape,ho.wd.output,ho.wd.size,fun k hk=>ho.wd.block k (.inl hk)⟩
end Go.Proofs.YtlakhgibjfmjjaaGreat.Can
namespace Go.Proofs.YtlakhgibjfmjjaaGreat.Can
open Go
attribute [local congr] s9 u4 l7 l6 m9 s7 r8 u9 u6 b0q a3Q a3P
abbrev ruleC'(R:RuleV):List Value:=[.int .i64 R.L,.int .i64 R.Wd,.int .i64 R.B,.int .i64 R.S,.int .i64 R.C,.int .i64 R.R,.int .i64 R.W,.int .i64 R.T,.bool R.sm]
abbrev r9(R:RuleV):Nat×Nat×Nat×Nat×Nat×Bool:=(R.S,R.C,R.R,R.W,R.T,R.sm)
theorem SI.lb{h:Heap}{a:SrvA}{w:SW}{q:Qs}(S:SI h a w q){x:LV}(hx:x∈w.ls):LB w.k 1000000000 x:=by
 obtain⟨cs,⟨v,S,r,sb⟩,_⟩:=S
 exact sb.lb x hx
theorem d2j(h:Heap){R:RuleV}(ok:R.OK){F U now:Int}(hF:0<=F/\F<=2000000000)(hU:0<=U/\U<=1000)(hn:0<=now/\now<=1000000000){Q:Value->Heap->Prop}(hQ:∀h',Old h h' ->Q (.int .i64 (Cl.base F R.u R.B now)) h'):
  u5 cp 19 [.agg #[.int .i64 F,.int .i64 (now-R.Wd),.int .i64 0,.int .i64 U],.agg #[.int .i64 R.L,.int .i64 R.Wd,.int .i64 R.B,.int .i64 R.S,.int .i64 R.C,.int .i64 R.R,.int .i64 R.W,.int .i64 R.T,.bool R.sm],.int .i64 now] h Q:=by
 have p:=RuleV.pace ok
 have hw:=ok.Wd
 have e:Cl.room F (now-R.Wd) 0 U R.u R.Wd R.B R.L now=Cl.base F R.u R.B now:=by unfold Cl.room;rw[if_neg (by omega)]
 exact Cl.refroom_ok (y9:=r9 R) h p rfl ⟨hF.1,by omega⟩ ⟨by omega,by omega⟩ ⟨yQ 0,by decide⟩ ⟨hU.1,by omega⟩ ⟨hn.1,by omega⟩ fun h' o=>by rw[e];exact hQ h' o
theorem a4e{a:SrvA}{L:LA}(hLi:a.las[0]? =some L)(hal:(a.las.length:Int)=1)(hou:a.ou=660){R:RuleV}(hLR:L.R=R)(ok:R.OK){w:SW}{x:LV}{hX:Heap}(S:SI hX a w (Qs.set (fun _=>none) 0 []))(wls:w.ls=[x])(wag:w.again=false)
  {now cost:Int} (hnow:w.now<=now/\now<=1000000) (wk:w.k<=1000) (hc:1<=cost/\cost<=R.B) {M:ByteArray->Option Int} {n:Nat} (E:ExL R x M n) {kl:List Int} (hkl:I1 kl) (hsz:kl.length<=64) (hM:M (bs kl)=none->n<R.C)
  {lo p rp kp wp:Nat} {F U:Int} (hF:0<=F/\F<=2000000000) (hU:0<=U/\U<=1000) (hlo:∀z,a.own none z->z<lo) (hp:lo<=p/\p<hX.next) (hk:lo<=kp/\kp<hX.next) (hw:lo<=wp/\wp<hX.next) (hr:rp<hX.next/\¬a.own none rp) (nwk:wp≠kp) (nwp:wp≠p) (nwr:wp≠rp)
  (gp:hX.obj p=.cells (Cl.cellC F (now-R.Wd) 0 U) 52 .fix) {g co:Int} {pk:Bool} (gk:hX.obj kp=.cells [.int .i64 g,.int .i64 co,.string (bs kl),.bool pk] 48 .fix) (gr:hX.obj rp=.cells (ruleC' R) 34 .fix)
  {ver rem ret:Int} (gw:hX.obj wp=.cells [.int .i64 ver,.int .i64 0,.int .i64 ret] 55 .fix) (hF0:0<=(M (bs kl)).getD now/\(M (bs kl)).getD now<=2000000000) (hA:exA R ((M (bs kl)).getD now) now cost=(ver,rem,ret)) (hrem:rem=Cl.base F R.u R.B now)
  {e:b7} (e8:e 8=.pointer (some ⟨rp,0,none⟩)) (e9:e 9=.pointer (some ⟨a.s,0,none⟩)) (e12:e 12=.int .i64 now) (e14:e 14=.pointer (some ⟨kp,0,none⟩)) (e15:e 15=.int .i64 cost) (e16:e 16=.pointer (some ⟨p,0,none⟩)) (e17:e 17=.pointer (some ⟨wp,0,none⟩))
  {K:z8} (hK:∀e2 h2 w2 x2,OldF (fun z=>a.own none z\/z=wp) hX h2->SI h2 a w2 (Qs.set (fun _=>none) 0 [])->w2.ls=[x2]->w2.again=false->w2.k=w.k+1->w2.now=now->ExL R x2 (O4 M (bs kl) (exF R ((M (bs kl)).getD now) now cost)) (if M (bs kl)=none then n+1 else n)->
   (∀i,i=8\/i=9\/i=11\/i=12\/i=49\/i=50\/i=51->e2 i=e i)->K .normal e2 h2):
  F5 cp (a7d e) hX (b3t cp a3n ((CD.lift (CC.region a7D)).seq ((CD.lift (CC.region a6z)).seq ((CD.lift (CC.region a7c)).seq ((CD.lift (CC.region a7N)).seq (CD.cond (fun e=>e 157) ((CD.lift (CC.region a4W)).seq (CD.lift CC.ret)) (CD.lift CC.skip)))))) K):=by
 have hwn:=S.now
 have hwk:=S.k
 simp(disch:=omega)only[d3,↓RD3,e8,e9,e12,e14,e15,e16,e17,gp,gk,gr,gw,D3,v8,↓l8,l9,zA,zB,zC,zD,zE,zF,zG,zH,zI,reduceCtorEq,zJ,zK,zL,zM,↓B6,↓D1,↓B2,↓A7,↓y6,↓B3,↓A8,A3,y7,↓F4,↓B5,↓B7,w9,↓A4,↓y8]
 refine d2j hX ok hF hU ⟨by omega,by omega⟩ fun h1 o1=>?_
 have n1:=o1.next
 have gw1:=(o1.obj wp hw.2).trans gw
 have gk1:=(o1.obj kp hk.2).trans gk
 obtain⟨h2,h2d⟩:∃h2,h2=h1.upd wp (.cells [.int .i64 ver,.int .i64 rem,.int .i64 ret] 55 .fix):=⟨_,rfl⟩
 have o2:OldF (fun z=>z=wp) h1 h2:=by rw[h2d];exact⟨yP _,fun z _ hz=>a6 _ _ hz⟩
 have n2:h2.next=h1.next:=by rw[h2d];rfl
 have gw2:h2.obj wp=.cells [.int .i64 ver,.int .i64 rem,.int .i64 ret] 55 .fix:=by rw[h2d];exact f7 _ _ _
 have gk2:=(o2.obj kp (by omega) (fun h=>nwk h.symm)).trans gk1
 have cu:IntKind.u32.wrap cost=cost:=b4B (by omega) (by have:=ok.B;have:=ok.L;omega)
 have S2:=(S.old o1).oldF o2 fun z hz e=>by have:=hlo z hz;omega
 rw[<-hrem]
 simp(disch:=omega)only[d3,↓RD3,e8,e9,e12,e14,e15,e16,e17,gw1,<-h2d,gk2,cu,v8,↓l8,l9,zA,zB,zC,zD,zE,zF,zG,zH,zI,reduceCtorEq,zJ,zK,zL,zM,↓B6,↓D1,↓B2,↓A7,↓y6,↓B3,↓A8,A3,y7,↓F4,↓B5,↓B7,w9,↓A4,↓y8]
 have okB:=ok.B
 have okL:=ok.L
 refine c6k h2 1 0 cost kl 0 (.inl rfl) (by omega) hkl hsz fun h3 v3 b3 V3 o3 hb3=>?_
 have n3:=o3.next
 obtain⟨q,hq⟩:∃q:ReqV,q=⟨1,0,cost,kl,0⟩:=⟨_,rfl⟩
 have hqc:ReqC a.las.length q:=by
  rw[hq]
  exact⟨⟨.inl rfl,by rw[hal];show(0:Int)<=0/\(0:Int)<1/\(0:Int)<256;decide,by show(0:Int)<=cost/\cost<4294967296;omega,hsz,hkl,by show(0:Int)<=0/\(0:Int)<256;decide⟩,fun _=>rfl,fun h=>by simp at h,fun _=>rfl⟩
 have hfb:H7 q=O6 167 (a5z 1 0 cost kl 0):=by rw[hq];rfl
 rw[<-hfb]at V3
 obtain⟨fa,fcap,hv3,_⟩:=V3.val
 subst hv3
 have x0:w.ls[0]? =some x:=by rw[wls];rfl
 obtain⟨pok,_,gW,gN⟩:=S.geo hLi x0
 rw[hLR]at pok
 obtain⟨r,hr'⟩:∃r,r=D0 R L.rp x now 0 (bs kl) cost:=⟨_,rfl⟩
 obtain⟨k1,k2⟩:=E.check ok gW gN pok (key:=bs kl) (now:=now) (cost:=cost) (by omega) hc hM
 rw[<-hr',hA]at k1
 rw[<-hr']at k2
 have hans:a1p a.las (w.rd now,[]) q=(({ w.rd now with ls:=[r.2.2],k:=w.k+1 },evO 0 r.2.1),Y1 1 ver rem ret):=by
  have e1:a.las[q.rule.toNat]? =some L:=by rw[hq];exact hLi
  have e2:(w.rd now).ls[q.rule.toNat]? =some x:=by rw[hq];exact x0
  have e3:(w.rd now).now=now:=by show max (max w.now now) 0=now;omega
  have e4:a1B (w.rd now).now (w.rd now).first (w.rd now).again L.R.Wd=0:=by
   show a1B _ _ w.again _=0
   rw[wag];rfl
  unfold a1p
  rw[e1,e2]
  simp only
  unfold b1S
  rw[e4,e3,hLR,hq]
  simp only
  rw[<-hr']
  have e5:(w.rd now).ls.set (Int.toNat 0) r.2.2=[r.2.2]:=by show w.ls.set 0 r.2.2=_;rw[wls];rfl
  rw[e5,k1,List.nil_append]
  rfl
 simp(disch:=omega)only[d3,↓RD3,e8,e9,e12,e14,e15,e16,e17,v8,↓l8,l9,zA,zB,zC,zD,zE,zF,zG,zH,zI,reduceCtorEq,zJ,zK,zL,zM,↓B6,↓D1,↓B2,↓A7,↓y6,↓B3,↓A8,A3,y7,↓F4,↓B5,↓B7,w9,↓A4,↓y8]
 refine e2n (k:=0) (S2.old o3) rfl hqc hq (by omega) (by rw[hou];decide) now 0 (by omega) V3 (fun hz=>by have:=hlo _ hz;omega) hans.symm fun h4 evv eb o4 S4 V4=>?_
 have n4:=o4.next
 obtain⟨w2,hw2⟩:∃w2:SW,w2={ w.rd now with ls:=[r.2.2],k:=w.k+1 }:=⟨_,rfl⟩
 rw[<-hw2]at S4
 simp(disch:=omega)only[d3,↓RD3,e8,e9,e12,e14,e15,e16,e17,v8,↓l8,l9,zA,zB,zC,zD,zE,zF,zG,zH,zI,reduceCtorEq,zJ,zK,zL,zM,↓B6,↓D1,↓B2,↓A7,↓y6,↓B3,↓A8,A3,y7,↓F4,↓B5,↓B7,w9,↓A4,↓y8]
 refine c9E (k:=0) S4 (Qs.set_self _ _ _) now 99 (by omega) fun h5 u b5 o5 S5 V5 hb5=>?_
 have n5:=o5.next
 rw[List.nil_append]at S5 V5
 have e22:(Y1 1 ver rem ret).take (99:Int).toNat=Y1 1 ver rem ret:=List.take_of_length_le (by rw[a0F];decide)
 have d22:(Y1 1 ver rem ret).drop (99:Int).toNat=[]:=List.drop_eq_nil_of_le (by rw[a0F];decide)
 rw[e22]at V5
 rw[d22]at S5
 obtain⟨ua,ucap,hu,_⟩:=V5.val
 rw[a0F]at hu
 subst hu
 obtain⟨h6,h6d,o6,n6,g6⟩:=Y0 h5 (.cells [.int .i64 0,.int .i64 0,.slice none 0 0,.slice none 0 0] 42 .fix) (.cells [.int .i64 0,.int .i64 0,.slice ua 22 ucap,.slice none 0 0] 42 .fix)
 simp(disch:=omega)only[d3,↓RD3,e8,e9,e12,e14,e15,e16,e17,K8,v8,<-h6d,g6,↓l8,l9,zA,zB,zC,zD,zE,zF,zG,zH,zI,reduceCtorEq,zJ,zK,zL,zM,↓B6,↓D1,↓B2,↓A7,↓y6,↓B3,↓A8,A3,y7,↓F4,↓B5,↓B7,w9,↓A4,↓y8]
 have pc:=RuleV.pace ok
 have rng:(1<=ver/\ver<=3)/\C0 rem/\C0 ret:=by
  have b1:= @Cl.base_range F R.u R.B now R.Wd R.L pc
  have b2:=Cl.bc_le pc hc.1 hc.2
  rw[hrem]
  have b3:C0 (Cl.base F R.u R.B now):=by unfold C0;omega
  unfold exA at hA
  split at hA
  ·simp only[yB]at hA
   obtain⟨e1,_,e3⟩:=hA
   rw[<-e1,<-e3]
   exact⟨by decide,b3,by decide⟩
  ·simp only[yB]at hA
   obtain⟨e1,_,e3⟩:=hA
   rw[<-e1,<-e3]
   refine⟨by decide,b3,?_⟩
   unfold Cl.lag C0
   omega
 obtain⟨hver,hrem',hret⟩:=rng
 refine b5V h6 1 (.inl rfl) _ ver rem ret hver hrem' hret (V5.old o6).bys fun h7 o7=>?_
 have n7:=o7.next
 have g7:=(o7.obj h5.next (by omega)).trans g6
 obtain⟨h8,h8d,o8,n8,q8⟩:=Y0 h7 (.cells (a3E 0 0 0 0) 66 .fix) (.cells (a3E 1 ver rem ret) 66 .fix)
 have g8:=(o8.obj h5.next (by omega)).trans g7
 have oX:OldF (fun z=>a.own none z\/z=wp) hX h8:=(((o1.f _).trans (o2.mono fun z hz=> .inr hz)).trans (o3.f _)).trans (((o4.mono fun z hz=> .inl hz).trans (o5.mono fun z hz=> .inl hz)).trans (((o6.trans o7).trans o8).f _))
 have gw8:h8.obj wp=.cells [.int .i64 ver,.int .i64 rem,.int .i64 ret] 55 .fix:=by
  have no:¬a.own none wp:=fun hz=>by have:=hlo _ hz;omega
  rw[o8.obj wp (by omega),o7.obj wp (by omega),o6.obj wp (by omega),o5.obj wp (by omega) no,o4.obj wp (by omega) no,o3.obj wp (by omega)]
  exact gw2
 have b22:((22:Int) !=((22:Nat):Int))=false:=rfl
 have S8:=((S5.old o6).old o7).old o8
 simp(disch:=omega)only[d3,↓RD3,e8,e9,e12,e14,e15,e16,e17,K8,v8,<-h8d,q8,g8,gw8,b22,eqL,D3,zN,beq_self_eq_true,Bool.and_self,↓l8,l9,zA,zB,zC,zD,zE,zF,zG,zH,zI,reduceCtorEq,zJ,zK,zL,zM,↓B6,↓D1,↓B2,↓A7,↓y6,↓B3,↓A8,A3,y7,↓F4,↓B5,↓B7,w9,↓A4,↓y8]
 have eq:(((Qs.set (fun _=>none) 0 []).set 0 ([]++Y1 1 ver rem ret)).set 0 [])=Qs.set (fun _=>none) 0 []:=by
  funext i
  unfold Qs.set
  split<;>rfl
 rw[List.nil_append]at eq
 rw[eq]at S8
 refine hK _ h8 (w2.rd now) r.2.2 oX S8 (by rw[hw2];rfl) (by rw[hw2];exact wag) (by rw[hw2];rfl) ?_ k2 fun i hi=>?_
 ·rw[hw2]
  show max (max (max (max w.now now) 0) now) 0=now
  omega
 ·rcases hi with rfl|rfl|rfl|rfl|rfl|rfl|rfl<;>rfl
theorem e1n{R:RuleV}(F now c:Int):Cl.wait F (now-R.Wd) 0 0 R.u R.Wd R.B R.L now c=Cl.lag F R.u R.B now c:=by
 unfold Cl.wait
 rw[if_neg (by omega)]
theorem b2u{a:SrvA}{L:LA}(hLi:a.las[0]? =some L)(hal:(a.las.length:Int)=1)(hou:a.ou=660){R:RuleV}(hLR:L.R=R)(ok:R.OK){w:SW}{x:LV}{hX:Heap}(S:SI hX a w (Qs.set (fun _=>none) 0 []))(wls:w.ls=[x])(wag:w.again=false)
  {now cost:Int} (hnow:w.now<=now/\now<=1000000) (wk:w.k<=1000) (hc:1<=cost/\cost<=R.B) {M:ByteArray->Option Int} {n:Nat} (E:ExL R x M n) {kl:List Int} (hkl:I1 kl) (hsz:kl.length<=64) (hM:M (bs kl)=none->n<R.C)
  {lo p rp kp b c:Nat} {mp:MP} {F:Int} (hF:0<=F/\F<=1500000000) (hF0:F=(M (bs kl)).getD now) (C:CM hX lo b mp c (O4 M (bs kl) F)) (hpp:W9 (bs kl) mp=some p) (hlo:∀z,a.own none z->z<lo) (hk:lo<=kp/\kp<hX.next) (hr:rp<hX.next/\¬a.own none rp)
  {g co:Int} {pk:Bool} (gk:hX.obj kp=.cells [.int .i64 g,.int .i64 co,.string (bs kl),.bool pk] 48 .fix) (gr:hX.obj rp=.cells (ruleC' R) 34 .fix)
  {e:b7} (e8:e 8=.pointer (some ⟨rp,0,none⟩)) (e9:e 9=.pointer (some ⟨a.s,0,none⟩)) (e12:e 12=.int .i64 now) (e14:e 14=.pointer (some ⟨kp,0,none⟩)) (e15:e 15=.int .i64 cost) (e16:e 16=.pointer (some ⟨p,0,none⟩))
  {K:z8} (hK:∀e2 h2 w2 x2,OldF (fun z=>a.own none z\/z=p) hX h2->SI h2 a w2 (Qs.set (fun _=>none) 0 [])->w2.ls=[x2]->w2.again=false->w2.k=w.k+1->w2.now=now->ExL R x2 (O4 M (bs kl) (exF R F now cost)) (if M (bs kl)=none then n+1 else n)->
   CM h2 lo b mp c (O4 M (bs kl) (exF R F now cost))->(∀i,i=8\/i=9\/i=11\/i=12\/i=49\/i=50\/i=51->e2 i=e i)->K .normal e2 h2):
  F5 cp (b0S e) hX (b3t cp a3n ((CD.lift (CC.region b0M)).seq (((CD.lift (CC.region a2U)).seq (CD.cond (fun e=>e 108) (CD.lift (CC.region a2L)) (CD.lift CC.skip))).seq ((CD.lift (CC.region a7d)).seq ((CD.lift (CC.region a7D)).seq ((CD.lift (CC.region a6z)).seq ((CD.lift (CC.region a7c)).seq ((CD.lift (CC.region a7N)).seq (CD.cond (fun e=>e 157) ((CD.lift (CC.region a4W)).seq (CD.lift CC.ret)) (CD.lift CC.skip))))))))) K):=by
 have hwn:=S.now
 have hwk:=S.k
 obtain⟨p1,p2,p3,F1,s,u,p4,p5⟩:=C.yes (bs kl) p hpp
 rw[b0G]at p4
 obtain rfl:=yA p4
 have okW:=ok.Wd
 have pc:=RuleV.pace ok
 have nkp:kp≠p:=fun h=>by rw[h,p5]at gk;cases gk
 have nrp:rp≠p:=fun h=>by rw[h,p5]at gr;exact absurd gr (by simp)
 obtain⟨h1,h1d⟩:∃h1,h1=(hX.upd p (.cells [.int .i64 F,.int .i64 (now-R.Wd),.int .i64 0,.int .i64 u] 52 .fix)).upd p (.cells [.int .i64 F,.int .i64 (now-R.Wd),.int .i64 0,.int .i64 0] 52 .fix):=⟨_,rfl⟩
 have o1:OldF (fun z=>z=p) hX h1:=by rw[h1d];exact⟨yP _,fun z _ hz=>by rw[a6 _ _ hz,a6 _ _ hz]⟩
 have n1:h1.next=hX.next:=by rw[h1d];rfl
 have g1:h1.obj p=.cells [.int .i64 F,.int .i64 (now-R.Wd),.int .i64 0,.int .i64 0] 52 .fix:=by rw[h1d];exact f7 _ _ _
 have gr1:=(o1.obj rp hr.1 nrp).trans gr
 have wW:IntKind.i64.wrap (now-R.Wd)=now-R.Wd:=by rw[Q4];omega
 simp(disch:=omega)only[d3,↓RD3,e8,e9,e12,e14,e15,e16,p5,gr,wW,D3,v8,<-h1d,g1,gr1,↓l8,l9,zA,zB,zC,zD,zE,zF,zG,zH,zI,reduceCtorEq,zJ,zK,zL,zM,↓B6,↓D1,↓B2,↓A7,↓y6,↓B3,↓A8,A3,y7,↓F4,↓B5,↓B7,w9,↓A4,↓y8]
 refine Cl.refwait_ok (y9:=r9 R) h1 pc rfl ⟨hF.1,by omega⟩ ⟨by omega,by omega⟩ ⟨yQ 0,by decide⟩ ⟨yQ 0,by decide⟩ ⟨by omega,by omega⟩ (by decide) hc.1 hc.2 fun h2 o2=>?_
 rw[e1n]
 have n2:=o2.next
 have g2:=(o2.obj p (by omega)).trans g1
 have gr2:=(o2.obj rp (by omega)).trans gr1
 have gk2:=(o2.obj kp (by omega)).trans ((o1.obj kp hk.2 nkp).trans gk)
 obtain⟨lag,hlag⟩:∃lag,lag=Cl.lag F R.u R.B now cost:=⟨_,rfl⟩
 rw[<-hlag]
 obtain⟨h3,h3d,o3,n3,gw3⟩:=Y0 h2 (.cells [.int .i64 0,.int .i64 0,.int .i64 0] 55 .fix) (.cells [.int .i64 1,.int .i64 0,.int .i64 lag] 55 .fix)
 have g3:=(o3.obj p (by omega)).trans g2
 have gr3:=(o3.obj rp (by omega)).trans gr2
 have gk3:=(o3.obj kp (by omega)).trans gk2
 have no:∀z,lo<=z->¬a.own none z:=fun z h1 hz=>by have:=hlo _ hz;omega
 have S3:=((S.oldF o1 fun z hz e=>no z (e▸p1) hz).old o2).old o3
 have oX3:OldF (fun z=>z=p) hX h3:=(o1.trans (o2.f _)).trans (o3.f _)
 simp(disch:=omega)only[d3,↓RD3,e8,e9,e12,e14,e15,e16,D3,v8,<-h3d,g3,gr3,↓l8,l9,zA,zB,zC,zD,zE,zF,zG,zH,zI,reduceCtorEq,zJ,zK,zL,zM,↓B6,↓D1,↓B2,↓A7,↓y6,↓B3,↓A8,A3,y7,↓F4,↓B5,↓B7,w9,↓A4,↓y8]
 have rn:∀(F' s u:Int) (hY:Heap) (hR:∀z,lo<=z->z<h3.next->z≠p->z≠h2.next->hY.obj z=h3.obj z),h3.next<=hY.next->hY.obj p=.cells (Cl.cellC F' s 0 u) 52 .fix->CM hY lo b mp c (O4 M (bs kl) F'):=fun F' s u hY hR hn hp=>by
  have C' :=C.set (h' :=hY) hpp (by omega) (fun z hl hz hne=>by rw[hR z hl (by omega) hne (by omega),oX3.obj z hz hne]) hp
  rwa [b2D]at C'
 have kk:∀hY h2',OldF (fun z=>z=p\/z=h2.next) h3 hY->OldF (fun z=>a.own none z\/z=h2.next) hY h2' ->OldF (fun z=>a.own none z\/z=p) hX h2' :=fun hY h2' q1 q2=>⟨by have:=q1.next;have:=q2.next;omega,fun z hz hn=>by
  have z1:z≠p:=fun h=>hn (.inr h)
  rw[q2.obj z (by have:=q1.next;omega) (fun h=>by rcases h with h|h;exact hn (.inl h);omega),q1.obj z (by omega) (fun h=>by rcases h with h|h;exact z1 h;omega),oX3.obj z hz z1]⟩
 have rB:Cl.room F (now-R.Wd) 0 0 R.u R.Wd R.B R.L now=Cl.base F R.u R.B now:=by unfold Cl.room;rw[if_neg (by omega)]
 have lF:Cl.Low F:=⟨hF.1,by omega⟩
 have lS:Cl.Neg (now-R.Wd):=⟨by omega,by omega⟩
 have l0:Cl.Small 0:=⟨yQ 0,by decide⟩
 have lN:Cl.Low now:=⟨by omega,by omega⟩
 have bc:=Cl.bc_le pc hc.1 hc.2
 have okL:=ok.L
 have okB:=ok.B
 by_cases q:cost<=Cl.base F R.u R.B now
 ·have l1:lag=0:=by
   have:=(Cl.base_ge F now cost pc hc.1 hc.2).1 q
   rw[hlag];unfold Cl.lag;omega
  have bt:=(Cl.base_take (F:=F) (now:=now) pc hc.1 q).2
  have btB:=(Cl.bt_le pc).2
  have ct:0<=cost*R.u:=yO (by omega) (by have:=pc.t1;omega)
  refine Cl.reftake_yes (y9:=r9 R) h3 g3 (by omega) pc rfl lF lS l0 l0 lN cost hc.1 (by rw[rB];exact q) fun h4 o4 g4=>?_
  have n4:=o4.next
  have gw4:=(o4.obj h2.next (by omega) (by omega)).trans gw3
  have gk4:=(o4.obj kp (by omega) nkp).trans gk3
  have gr4:=(o4.obj rp (by omega) nrp).trans gr3
  have oF4:OldF (fun z=>z=p) h3 h4:=⟨o4.next,fun z hz hn=>o4.obj z hz hn⟩
  have eF:exF R F now cost=max F now+cost*R.u:=if_pos q
  have eA:exA R ((M (bs kl)).getD now) now cost=(1,Cl.base (max F now+cost*R.u) R.u R.B now,lag):=by rw[<-hF0,l1];exact if_pos q
  simp(disch:=omega)only[a2U,a2L,Bool.not_true,↓l8,l9,zA,zB,zC,zD,zE,zF,zG,zH,zI,reduceCtorEq,zJ,zK,zL,zM,↓B6,↓D1,↓B2,↓A7,↓y6,↓B3,↓A8,A3,y7,↓F4,↓B5,↓B7,w9,↓A4,↓y8]
  refine a4e hLi hal hou hLR ok (S3.oldF oF4 fun z hz e=>no z (e▸p1) hz) wls wag hnow wk hc E hkl hsz hM (lo:=lo) (p:=p) (rp:=rp) (kp:=kp) (wp:=h2.next) (F:=max F now+cost*R.u) (U:=0+cost) ⟨by omega,by omega⟩ ⟨by omega,by omega⟩ hlo ⟨p1,by omega⟩ ⟨hk.1,by omega⟩ ⟨by omega,by omega⟩ ⟨by omega,hr.2⟩ (by omega) (by omega) (by omega) g4 gk4 gr4 gw4 (by rw[<-hF0];omega) eA rfl
   (by assumption) (by assumption) (by assumption) (by assumption) (by assumption) (by assumption) rfl fun e2 h5 w2 x2 o5 S5 q1 q2 q3 q4 E5 ee=>?_
  have n5:=o5.next
  rw[<-hF0]at E5
  refine hK e2 h5 w2 x2 (kk h4 h5 (oF4.mono fun z hz=> .inl hz) o5) S5 q1 q2 q3 q4 E5 ?_ fun i hi=>?_
  ·rw[eF]
   exact rn _ (now-R.Wd) (0+cost) h5 (fun z z0 z1 z2 z3=>by rw[o5.obj z (by omega) (fun h=>by rcases h with h|h;exact no z z0 h;exact z3 h),o4.obj z z1 z2]) (by omega) ((o5.obj p (by omega) (fun h=>by rcases h with h|h;exact no p p1 h;omega)).trans g4)
  ·rw[ee i hi]
   rcases hi with rfl|rfl|rfl|rfl|rfl|rfl|rfl<;>rfl
 ·refine Cl.reftake_no (y9:=r9 R) h3 g3 (by omega) pc rfl lF lS l0 l0 lN cost (by rw[rB];omega) fun h4 o4=>?_
  have n4:=o4.next
  have g4:=(o4.obj p (by omega)).trans g3
  have gw4:=(o4.obj h2.next (by omega)).trans gw3
  have gk4:=(o4.obj kp (by omega)).trans gk3
  have gr4:=(o4.obj rp (by omega)).trans gr3
  obtain⟨h5,h5d⟩:∃h5,h5=h4.upd h2.next (.cells [.int .i64 2,.int .i64 0,.int .i64 lag] 55 .fix):=⟨_,rfl⟩
  have o5:OldF (fun z=>z=h2.next) h4 h5:=by rw[h5d];exact⟨yP _,fun z _ hz=>a6 _ _ hz⟩
  have n5:h5.next=h4.next:=by rw[h5d];rfl
  have gw5:h5.obj h2.next=.cells [.int .i64 2,.int .i64 0,.int .i64 lag] 55 .fix:=by rw[h5d];exact f7 _ _ _
  have g5:=(o5.obj p (by omega) (by omega)).trans g4
  have gk5:=(o5.obj kp (by omega) (by omega)).trans gk4
  have gr5:=(o5.obj rp (by omega) (by omega)).trans gr4
  have eF:exF R F now cost=F:=if_neg q
  have eA:exA R ((M (bs kl)).getD now) now cost=(2,Cl.base F R.u R.B now,lag):=by rw[<-hF0,hlag];exact if_neg q
  simp(disch:=omega)only[a2U,a2L,Bool.not_false,gw4,D3,<-h5d,↓l8,l9,zA,zB,zC,zD,zE,zF,zG,zH,zI,reduceCtorEq,zJ,zK,zL,zM,↓B6,↓D1,↓B2,↓A7,↓y6,↓B3,↓A8,A3,y7,↓F4,↓B5,↓B7,w9,↓A4,↓y8]
  refine a4e hLi hal hou hLR ok ((S3.old o4).oldF o5 fun z hz e=>no z (by omega) hz) wls wag hnow wk hc E hkl hsz hM (lo:=lo) (p:=p) (rp:=rp) (kp:=kp) (wp:=h2.next) (F:=F) (U:=0) ⟨by omega,by omega⟩ ⟨by omega,by omega⟩ hlo ⟨p1,by omega⟩ ⟨hk.1,by omega⟩ ⟨by omega,by omega⟩ ⟨by omega,hr.2⟩ (by omega) (by omega) (by omega) g5 gk5 gr5 gw5 (by rw[<-hF0];omega) eA rfl
   (by assumption) (by assumption) (by assumption) (by assumption) (by assumption) (by assumption) rfl fun e2 h6 w2 x2 o6 S6 q1 q2 q3 q4 E6 ee=>?_
  have n6:=o6.next
  rw[<-hF0]at E6
  refine hK e2 h6 w2 x2 (kk h5 h6 ((o4.f _).trans (o5.mono fun z hz=> .inr hz)) o6) S6 q1 q2 q3 q4 E6 ?_ fun i hi=>?_
  ·rw[eF]
   exact rn _ (now-R.Wd) 0 h6 (fun z z0 z1 z2 z3=>by rw[o6.obj z (by omega) (fun h=>by rcases h with h|h;exact no z z0 h;exact z3 h),o5.obj z (by omega) z3,o4.obj z z1]) (by omega) ((o6.obj p (by omega) (fun h=>by rcases h with h|h;exact no p p1 h;omega)).trans g5)
  ·rw[ee i hi]
   rcases hi with rfl|rfl|rfl|rfl|rfl|rfl|rfl<;>rfl
theorem wholeExact_law(h:Heap)(p:E3)(_:((Lit.int .i64 p.1).wf=true/\(Lit.int .i64 p.2.1).wf=true/\(Lit.int .i64 p.2.2.1).wf=true/\(Lit.int .i64 p.2.2.2.1).wf=true/\(Lit.int .i64 p.2.2.2.2.1).wf=true/\(Lit.int .i64 p.2.2.2.2.2.1).wf=true/\(Lit.int .i64 p.2.2.2.2.2.2.1).wf=true/\(Lit.int .i64 p.2.2.2.2.2.2.2.1).wf=true/\True))
  (sv:Value) (sl:List Int) (hss:a0g h (Enc.int .u64) sv sl) (_:sl.length<=maxLen) (_:∀x∈sl,(Lit.int .u64 x).wf=true) (v:Value) (l:List a6k) (hs:a0g h b7K v l) (_:l.length<=maxLen) (hg:∀x∈l,((Lit.int .i64 x.1).wf=true/\(Lit.int .i64 x.2.1).wf=true/\x.2.2.1.size<=maxLen/\True)):
  b4S cp a3n d3 [.agg (RE.enc p).toArray,sv,v] h fun v _=>v=.bool true:=by
 obtain⟨pl,pw,pb,ps,pc,pr,pd,pt,pm⟩:=p
 obtain⟨P,hP⟩:∃P:E3,P=(pl,pw,pb,ps,pc,pr,pd,pt,pm):=⟨_,rfl⟩
 show b4S cp a3n d3 [.agg #[.int .i64 pl,.int .i64 pw,.int .i64 pb,.int .i64 ps,.int .i64 pc,.int .i64 pr,.int .i64 pd,.int .i64 pt,.bool pm],sv,v] h fun v _=>v=.bool true
 unfold b4S
 obtain⟨h1,h1d,o1,n1,g1⟩:=M5 h (.cells [.int .i64 pl,.int .i64 pw,.int .i64 pb,.int .i64 ps,.int .i64 pc,.int .i64 pr,.int .i64 pd,.int .i64 pt,.bool pm] 23 .fix)
 have s1:=hs.sl.old o1
 obtain⟨sa0,sc0,hsv,_⟩:=hss.val
 subst hsv
 simp(disch:=omega)only[d3,↓RD3,<-h1d,↓l8,l9,zA,zB,zC,zD,zE,zF,zG,zH,zI,reduceCtorEq,zJ,zK,zL,zM,↓B6,↓D1,↓B2,↓A7,↓y6,↓B3,↓A8,A3,y7,↓F4,↓B5,↓B7,w9,↓A4,↓y8]
 refine⟨rfl,rfl,?_⟩
 by_cases c50:(sl.length:Int)>50
 ·have b0:=decide_eq_true c50
  simp(disch:=omega)only[d3,↓RD3,b0,↓l8,l9,zA,zB,zC,zD,zE,zF,zG,zH,zI,reduceCtorEq,zJ,zK,zL,zM,↓B6,↓D1,↓B2,↓A7,↓y6,↓B3,↓A8,A3,y7,↓F4,↓B5,↓B7,w9,↓A4,↓y8]
 have b0:=decide_eq_false c50
 simp(disch:=omega)only[d3,↓RD3,b0,↓l8,l9,zA,zB,zC,zD,zE,zF,zG,zH,zI,reduceCtorEq,zJ,zK,zL,zM,↓B6,↓D1,↓B2,↓A7,↓y6,↓B3,↓A8,A3,y7,↓F4,↓B5,↓B7,w9,↓A4,↓y8]
 refine d7Z h1 v l s1 (fun c hc=>(hg c hc).2.2.1) fun h2 o2=>?_
 have n2:=o2.next
 by_cases hL:a6F l
 rotate_left
 ·have b1:=decide_eq_false hL
  simp(disch:=omega)only[d3,↓RD3,b1,↓l8,l9,zA,zB,zC,zD,zE,zF,zG,zH,zI,reduceCtorEq,zJ,zK,zL,zM,↓B6,↓D1,↓B2,↓A7,↓y6,↓B3,↓A8,A3,y7,↓F4,↓B5,↓B7,w9,↓A4,↓y8]
 have b1:=decide_eq_true hL
 have g2:=(o2.obj h.next (by omega)).trans g1
 obtain⟨h3,h3d,o3,n3,_⟩:=M5 h2 (.cells [.int .i64 pl,.int .i64 pw,.int .i64 pb,.int .i64 ps,.int .i64 pc,.int .i64 pr,.int .i64 pd,.int .i64 pt,.bool pm] 23 .grow)
 have L3:Lst h3 RE (.slice (some ⟨h2.next,0,none⟩) 1 1) [P]:=d9d P (by omega) (by rw[h3d,hP];exact f9 _ _) (by rw[hP];rfl)
 simp(disch:=omega)only[d3,↓RD3,b1,g2,v8,G9,List.append_nil,<-h3d,↓l8,l9,zA,zB,zC,zD,zE,zF,zG,zH,zI,reduceCtorEq,zJ,zK,zL,zM,↓B6,↓D1,↓B2,↓A7,↓y6,↓B3,↓A8,A3,y7,↓F4,↓B5,↓B7,w9,↓A4,↓y8]
 refine c6L h3 _ [P] L3 (by simp) 0 fun h4 v4 b4 o4 V4 hb4=>?_
 have n4:=o4.next
 have hRs:b1r [P]=[R7 P]:=rfl
 rw[hRs]at V4
 have cfg:=d3B [R7 P] (fun r hr=>by rw[List.mem_singleton.1 hr];exact b3X P) (by simp) 0 (by decide)
 obtain⟨va,vc,rfl,_⟩:=V4.val
 obtain⟨h5,h5d,o5,n5,_⟩:=Y0 h4 (.cells [.int .i64 0,.int .i64 0,.int .i64 0,.slice none 0 0] 30 .fix) (.cells [.int .i64 4294967296,.int .i64 3,.int .i64 (660+0 % 256),.slice va 1 vc] 30 .fix)
 have g5:h5.obj h4.next=.cells [.int .i64 4294967296,.int .i64 3,.int .i64 660,.slice va 1 vc] 30 .fix:=by rw[h5d];exact f7 _ _ _
 have V5:=V4.old o5
 obtain⟨R,hRd⟩:∃R,R=R7 P:=⟨_,rfl⟩
 have okR:R.OK:=by rw[hRd];exact b3X P
 rw[<-hRd]at V5 cfg
 obtain⟨cap5,hv5,hrd5⟩:=V5.read (i:=0) (x:=R.t) rfl
 simp only[List.map_cons,List.map_nil,yM,List.length_nil,Value.slice.injEq]at hv5
 obtain⟨rfl,_,rfl⟩:=hv5
 have hrd5:(h5.obj b4).read (0*9) 9=some [.int .i64 R.L,.int .i64 R.Wd,.int .i64 R.B,.int .i64 R.S,.int .i64 R.C,.int .i64 R.R,.int .i64 R.W,.int .i64 R.T,.bool R.sm]:=hrd5
 obtain⟨h6,h6d,o6,n6,g6⟩:=Y0 h5 (.cells [.int .i64 0,.int .i64 0,.int .i64 0,.int .i64 0,.int .i64 0,.int .i64 0,.int .i64 0,.int .i64 0,.bool false] 34 .fix) (.cells [.int .i64 R.L,.int .i64 R.Wd,.int .i64 R.B,.int .i64 R.S,.int .i64 R.C,.int .i64 R.R,.int .i64 R.W,.int .i64 R.T,.bool R.sm] 34 .fix)
 have g6' :=(o6.obj h4.next (by omega)).trans g5
 simp(disch:=omega)only[d3,↓RD3,List.map_cons,List.map_nil,yM,List.length_nil,<-h5d,g5,hrd5,v8,<-h6d,g6,g6',↓l8,l9,zA,zB,zC,zD,zE,zF,zG,zH,zI,reduceCtorEq,zJ,zK,zL,zM,↓B6,↓D1,↓B2,↓A7,↓y6,↓B3,↓A8,A3,y7,↓F4,↓B5,↓B7,w9,↓A4,↓y8]
 have oh6:Old h h6:=((((o1.trans o2).trans o3).trans o4).trans o5).trans o6
 refine c5Z h6 4294967296 3 660 (.slice (some ⟨b4,0,none⟩) 1 vc) [R] b4 (V5.old o6) cfg (fun r hr=>by rw[List.mem_singleton.1 hr];exact okR) (.slice sa0 sl.length sc0) sl (by omega) (hss.sl.old oh6) fun h7 a o7 S7 hlas hcas hou hrows hown=>?_
 have n7:=o7.next
 obtain⟨L,hLs,hLR⟩:∃L,a.las=[L]/\L.R=R:=by
  cases e:a.las with
  |nil=>rw[e]at hlas;simp at hlas
  |cons x t=>cases t with
   |nil=>rw[e]at hlas;exact⟨x,rfl,by simpa using hlas⟩
   |cons y z=>rw[e]at hlas;simp at hlas
 obtain⟨A,hA⟩:∃A,a.cas[0]? =some A:=⟨a.cas[0]'(by omega),yF _⟩
 simp(disch:=omega)only[d3,↓RD3,v8,↓l8,l9,zA,zB,zC,zD,zE,zF,zG,zH,zI,reduceCtorEq,zJ,zK,zL,zM,↓B6,↓D1,↓B2,↓A7,↓y6,↓B3,↓A8,A3,y7,↓F4,↓B5,↓B7,w9,↓A4,↓y8]
 refine e0q (k:=0) S7 hA rfl 0 0 (by decide) fun h8 o8 S8=>?_
 have n8:=o8.next
 have hlt:∀z,a.own none z->z<h8.next:=fun z hz=>by
  obtain⟨cs,S,_⟩:=S8
  exact S.lt hz
 have S8:=S8.si fun k l hk=>by
  unfold Qs.set at hk
  split at hk
  ·omega
  ·cases hk
 obtain⟨h9,h9d,o9,n9,_⟩:=M5 h8 (.map [] 0)
 have g9:h9.obj h8.next=.map (([]:MP).map pE) 0:=by rw[h9d];exact f9 _ _
 obtain⟨sa,scap,rfl,hrd⟩:=hs.sl
 have oh7:Old h h7:=oh6.trans o7
 have og7:Old h6 h8:=SI.old' o7 o8 hown
 have oh8:Old h h8:=oh6.trans og7
 have k8:=(og7.obj h5.next (by omega)).trans g6
 simp(disch:=omega)only[d3,↓RD3,<-h9d,↓l8,l9,zA,zB,zC,zD,zE,zF,zG,zH,zI,reduceCtorEq,zJ,zK,zL,zM,↓B6,↓D1,↓B2,↓A7,↓y6,↓B3,↓A8,A3,y7,↓F4,↓B5,↓B7,w9,↓A4,↓y8]
 have hLi:a.las[0]? =some L:=by rw[hLs];rfl
 have hal:(a.las.length:Int)=1:=by rw[hLs];rfl
 have hlo:∀z,a.own none z->h6.next<=z/\z<h8.next:=fun z hz=>⟨hown z hz,hlt z hz⟩
 have E0:ExL R (lv0 R) (fun _=>none) 0:=by
  refine⟨fun key F hk=>(by cases hk),fun key _=>?_,?_,Bd.zero _ (by decide),Pos.zero _⟩
  ·cases hq:Z7 R.C (lv0 R).P.keys key with
   |none=>rfl
   |some i=>exact absurd (C4 hq).2 (by show ¬(none:Option ByteArray)=some key;simp)
  ·show(List.range R.C).length+0=R.C
   rw[List.length_range];rfl
 refine d2h b8H _ (fun d e hh=>∃(j:Nat) (w:SW) (x:LV) (M:ByteArray->Option Int) (mp:MP) (c:Nat),j+d=l.length/\Old h hh/\h9.next<=hh.next/\hh.obj h5.next=.cells [.int .i64 R.L,.int .i64 R.Wd,.int .i64 R.B,.int .i64 R.S,.int .i64 R.C,.int .i64 R.R,.int .i64 R.W,.int .i64 R.T,.bool R.sm] 34 .fix/\
   SI hh a w (Qs.set (fun _=>none) 0 [])/\w.ls=[x]/\w.again=false/\w.k<=j/\w.now<=1023*j/\ExL R x M mp.length/\CM hh h8.next h8.next mp c M/\
   e 8=.pointer (some ⟨h5.next,0,none⟩)/\e 9=.pointer (some ⟨a.s,0,none⟩)/\e 11=.map (some h8.next)/\e 12=.int .i64 w.now/\e 49=.slice sa l.length scap/\e 50=.int .i64 l.length/\e 51=.int .i64 j) ?_ l.length _ _
  ⟨0,_,lv0 R,fun _=>none,[],0,by omega,oh8.trans o9,yP _,(o9.obj h5.next (by omega)).trans k8,S8.old o9,rfl,rfl,yQ _,by show max (max (0:Int) 0) 0<=_;omega,E0,⟨g9,⟨yP _,by omega⟩,fun key=>⟨fun _=>rfl,fun _=>rfl⟩,fun key p hp=>(by cases hp),fun k k' p hp=>(by cases hp)⟩,rfl,rfl,rfl,rfl,rfl,rfl,rfl⟩
 rintro d e hh ⟨j,w,x,M,mp,c,hj,oh,hn,k8,S,wls,wag,wk,wnow,E,C9,e8,e9,e11,e12,e49,e50,e51⟩
 have ohn:=oh.next
 by_cases cj:j<l.length
 rotate_left
 ·have b2:decide ((j:Int)<(l.length:Int))=false:=decide_eq_false (by omega)
  simp(disch:=omega)only[b8H,d3,↓RD3,e8,e9,e11,e12,e49,e50,e51,b2,↓l8,l9,zA,zB,zC,zD,zE,zF,zG,zH,zI,reduceCtorEq,zJ,zK,zL,zM,↓B6,↓D1,↓B2,↓A7,↓y6,↓B3,↓A8,A3,y7,↓F4,↓B5,↓B7,w9,↓A4,↓y8]
 have b2:decide ((j:Int)<(l.length:Int))=true:=decide_eq_true (by omega)
 have nx:(j:Int)+1=((j+1:Nat):Int):=by omega
 have hL1:=hL.1
 have wj:IntKind.i64.wrap ((j+1:Nat):Int)=((j+1:Nat):Int):=by rw[Q4];omega
 have hx:l[j]? =some l[j]:=yF cj
 obtain⟨y,hxd⟩:∃y,y=l[j]:=⟨_,rfl⟩
 rw[<-hxd]at hx
 obtain⟨bx,of,rfl,hbx,hr⟩:=hrd j y hx
 rw[<-oh.obj bx hbx]at hr
 have hmem:=yK hx
 have hsz:=hL.2 y hmem
 obtain⟨g,co,key,pk⟩:=y
 have hr:(hh.obj bx).read (of+j*4) 4=some [.int .i64 g,.int .i64 co,.string key,.bool pk]:=hr
 have hgg:=hg _ hmem
 have ig:=e8T hgg.1
 simp only at hsz
 obtain⟨kl,hkl,rfl⟩:=e3x key
 rw[a4t]at hsz
 have hwn:=S.now
 have gW:=d9U g
 have okB:=okR.B
 have okL:=okR.L
 have m5:=U4 5 (by decide) co 31 (by decide)
 have p5:(2:Int) ^ 5=32:=by decide
 rw[p5]at m5
 obtain⟨cost,hcost⟩:∃cost,cost=co % 32 % R.B+1:=⟨_,rfl⟩
 have hc1:1<=cost/\cost<=R.B:=by
  have:=Int.emod_nonneg (co % 32) (show R.B≠0 by omega)
  have:=Int.emod_lt_of_pos (co % 32) (show 0<R.B by omega)
  omega
 have tm:Int.tmod (co % 32) R.B=co % 32 % R.B:=I7 _ _ (by omega)
 have nB:(R.B=0)=False:=by simp;omega
 have fG:=fun hh Q=>d2Q hh g ig Q
 obtain⟨now,hnow⟩:∃now,now=w.now+c6S g:=⟨_,rfl⟩
 obtain⟨h10,h10d,o10,n10,g10⟩:=Y0 hh (.cells [.int .i64 0,.int .i64 0,.string ⟨#[]⟩,.bool false] 48 .fix) (.cells [.int .i64 g,.int .i64 co,.string (bs kl),.bool pk] 48 .fix)
 have k10:=(o10.obj h5.next (by omega)).trans k8
 have C10:=C9.old o10
 have lk:=e0s C10.ob (bs kl)
 have ii:IntKind.i64.wrap cost=cost:=by rw[Q4];omega
 simp(disch:=omega)only[b8H,d3,↓RD3,e8,e9,e11,e12,e49,e50,e51,b2,hr,<-h10d,g10,fG,<-hnow,m5,k10,nB,tm,<-hcost,lk,v8,↓l8,l9,zA,zB,zC,zD,zE,zF,zG,zH,zI,reduceCtorEq,zJ,zK,zL,zM,↓B6,↓D1,↓B2,↓A7,↓y6,↓B3,↓A8,A3,y7,↓F4,↓B5,↓B7,w9,↓A4,↓y8]
 have wlo:∀z,a.own none z->z<h8.next:=fun z hz=>(hlo z hz).2
 have rno:¬a.own none h5.next:=fun hz=>by have:=(hlo _ hz).1;omega
 have fin:∀(hX:Heap) (p c' :Nat) (mp' :MP),OldF (fun z=>a.own none z\/h8.next<=z) hh hX->SI hX a w (Qs.set (fun _=>none) 0 [])->hX.obj hh.next=.cells [.int .i64 g,.int .i64 co,.string (bs kl),.bool pk] 48 .fix->hX.obj h5.next=.cells (ruleC' R) 34 .fix->hh.next<hX.next->
   (M (bs kl)=none->mp.length<R.C)->mp'.length=(if M (bs kl)=none then mp.length+1 else mp.length)->CM hX h8.next h8.next mp' c' (O4 M (bs kl) ((M (bs kl)).getD now))->W9 (bs kl) mp' =some p->(0<=(M (bs kl)).getD now/\(M (bs kl)).getD now<=1500000000)->
   ∀e' :b7,e' 8=e 8->e' 9=e 9->e' 11=e 11->e' 12=.int .i64 now->e' 14=.pointer (some ⟨hh.next,0,none⟩)->e' 15=.int .i64 cost->e' 16=.pointer (some ⟨p,0,none⟩)->e' 49=e 49->e' 50=e 50->e' 51=e 51->∀K:z8,
   (∀e2 h2,(∃(w2:SW) (x2:LV) (M2:ByteArray->Option Int),Old h h2/\h9.next<=h2.next/\h2.obj h5.next=.cells (ruleC' R) 34 .fix/\SI h2 a w2 (Qs.set (fun _=>none) 0 [])/\w2.ls=[x2]/\w2.again=false/\w2.k<=(j+1:Nat)/\w2.now<=1023*(j+1:Nat)/\ExL R x2 M2 mp'.length/\CM h2 h8.next h8.next mp' c' M2/\
    e2 8=e 8/\e2 9=e 9/\e2 11=e 11/\e2 12=.int .i64 w2.now/\e2 49=e 49/\e2 50=e 50/\e2 51=e 51)->K .normal e2 h2)->
   F5 cp (b0S e') hX (b3t cp a3n ((CD.lift (CC.region b0M)).seq (((CD.lift (CC.region a2U)).seq (CD.cond (fun e=>e 108) (CD.lift (CC.region a2L)) (CD.lift CC.skip))).seq ((CD.lift (CC.region a7d)).seq ((CD.lift (CC.region a7D)).seq ((CD.lift (CC.region a6z)).seq ((CD.lift (CC.region a7c)).seq ((CD.lift (CC.region a7N)).seq (CD.cond (fun e=>e 157) ((CD.lift (CC.region a4W)).seq (CD.lift CC.ret)) (CD.lift CC.skip))))))))) K):=by
  intro hX p c' mp' oX SX gk gr hkn hM hml CX hpp hF e' a8 a9 a11 a12 a14 a15 a16 a49 a50 a51 K hK
  have nX:=oX.next
  refine b2u hLi hal hou hLR okR SX wls wag (by omega) (by omega) hc1 E hkl hsz hM hF rfl CX hpp wlo ⟨by omega,hkn⟩ ⟨by omega,rno⟩ gk gr (a8.trans e8) (a9.trans e9) a12 a14 a15 a16 fun e2 h2' w2 x2 o2' S2' q1 q2 q3 q4 E2' C2' ee=>?_
  have hp1:=(CX.yes _ _ hpp).1
  have nn:=o2'.next
  have oA:OldF (fun z=>a.own none z\/h8.next<=z) hh h2' :=oX.trans (o2'.mono fun z hz=>by
   rcases hz with hz|rfl
   ·exact .inl hz
   ·exact .inr hp1)
  rw[<-hml]at E2'
  refine hK e2 h2' ⟨w2,x2,_,SI.old' oh oA fun z hz=>?_,by omega,?_,S2',q1,q2,by rw[q3];omega,by rw[q4];omega,E2',C2',?_,?_,?_,?_,?_,?_,?_⟩
  ·have:=oh6.next
   rcases hz with hz|hz
   ·have:=(hlo z hz).1;omega
   ·omega
  ·exact(o2'.obj h5.next (by omega) (fun hz=>by rcases hz with hz|hz;exact rno hz;omega)).trans gr
  ·rw[ee 8 (by decide)];exact a8
  ·rw[ee 9 (by decide)];exact a9
  ·rw[ee 11 (by decide)];exact a11
  ·rw[ee 12 (by decide),q4];exact a12
  ·rw[ee 49 (by decide)];exact a49
  ·rw[ee 50 (by decide)];exact a50
  ·rw[ee 51 (by decide)];exact a51
 have S10:=S.old o10
 have B:=S.lb (x:=x) (by rw[wls];exact List.mem_singleton_self _)
 cases hp:W9 (bs kl) mp with
 |some pp=>
  simp(disch:=omega)only[a7Q,a7p,a6q,a7x,a5K,e0f,D3,Option.map_some,↓l8,l9,zA,zB,zC,zD,zE,zF,zG,zH,zI,reduceCtorEq,zJ,zK,zL,zM,↓B6,↓D1,↓B2,↓A7,↓y6,↓B3,↓A8,A3,y7,↓F4,↓B5,↓B7,w9,↓A4,↓y8]
  obtain⟨_,_,_,F,_,_,hF,_⟩:=C9.yes _ _ hp
  have gF:(M (bs kl)).getD now=F:=by rw[hF];rfl
  have same:O4 M (bs kl) F=M:=by
   funext k
   unfold O4
   split
   ·rename_i h;rw[h,hF]
   ·rfl
  obtain⟨i,ce,f1,f2,f3⟩:=E.yes _ _ hF
  have f4:=B.cells i ce f2
  have f5:=f3.F
  refine fin h10 pp c mp (o10.f _) S10 g10 k10 (by omega) (fun hz=>by rw[hF]at hz;cases hz) (by rw[hF];rfl) (by rw[gF,same];exact C10) hp (by rw[gF];omega) _ (by rfl) (by rfl) (by rfl) (by rfl) (by rfl) (by rfl) (by rfl) (by rfl) (by rfl) (by rfl) _ fun e2 h2' ⟨w2,x2,M2,i1,i2,i3,i4,i5,i6,i7,i8,i9,i10,i11,i12,i13,i14,i15,i16,i17⟩=>?_
  rw[e8]at i11
  rw[e9]at i12
  rw[e11]at i13
  rw[e49]at i15
  rw[e50]at i16
  rw[e51]at i17
  simp(disch:=omega)only[b1I,i17,nx,wj,↓l8,l9,zA,zB,zC,zD,zE,zF,zG,zH,zI,reduceCtorEq,zJ,zK,zL,zM,↓B6,↓D1,↓B2,↓A7,↓y6,↓B3,↓A8,A3,y7,↓F4,↓B5,↓B7,w9,↓A4,↓y8]
  refine⟨d-1,by omega,j+1,w2,x2,M2,mp,c,by omega,i1,i2,i3,i4,i5,i6,i7,i8,i9,i10,?_⟩
  repeat' first|assumption|rfl|apply And.intro
 |none=>
  have lm:=e0m C10.ob
  have hM0:=(C9.no (bs kl)).1 hp
  by_cases cl:(mp.length:Int)=(R.C:Int)
  ·have bl:((mp.length:Int)==(R.C:Int))=true:=beq_iff_eq.2 cl
   simp(disch:=omega)only[a7Q,a7p,a6q,a7x,a5K,e0f,D3,Option.map_none,Option.isNone_none,e8,e11,lm,k10,bl,↓l8,l9,zA,zB,zC,zD,zE,zF,zG,zH,zI,reduceCtorEq,zJ,zK,zL,zM,↓B6,↓D1,↓B2,↓A7,↓y6,↓B3,↓A8,A3,y7,↓F4,↓B5,↓B7,w9,↓A4,↓y8]
  ·have bl:((mp.length:Int)==(R.C:Int))=false:=beq_eq_false_iff_ne.2 cl
   obtain⟨h11,h11d,o11,n11,_⟩:=M5 h10 (.cells [.int .i64 now,.int .i64 0,.int .i64 0,.int .i64 0] 52 .fix)
   have up:=d9N (C10.old o11).ob hp h10.next
   obtain⟨h12,h12d⟩:∃h12,h12=h11.upd h8.next (.map ((mp++[(bs kl,h10.next,c)]).map pE) (c+1)):=⟨_,rfl⟩
   rw[<-h12d]at up
   have n12:h12.next=h11.next:=by rw[h12d];rfl
   have o12:OldF (fun z=>a.own none z\/h8.next<=z) h11 h12:=by rw[h12d];exact⟨yP _,fun z _ hz=>a6 _ _ (fun e=>hz (.inr (Nat.le_of_eq e.symm)))⟩
   have C12:CM h12 h8.next h8.next (mp++[(bs kl,h10.next,c)]) (c+1) (O4 M (bs kl) now):=by
    have:=C10.put (key:=bs kl) hp (by omega) (F:=now) (s:=0) (u:=0)
    rw[h12d,h11d];exact this
   have S12:=(S10.old o11).oldF (h' :=h12) (F:=fun z=>z=h8.next) (by rw[h12d];exact⟨yP _,fun z _ hz=>a6 _ _ hz⟩) fun z hz e=>by have:=wlo z hz;omega
   have g12:h12.obj hh.next=.cells [.int .i64 g,.int .i64 co,.string (bs kl),.bool pk] 48 .fix:=by rw[h12d,a6 _ _ (by omega),o11.obj _ (by omega)];exact g10
   have k12:h12.obj h5.next=.cells (ruleC' R) 34 .fix:=by rw[h12d,a6 _ _ (by omega),o11.obj _ (by omega)];exact k10
   have g11:=(o11.obj hh.next (by omega)).trans g10
   have gF:(M (bs kl)).getD now=now:=by rw[hM0];rfl
   have hlen:mp.length<R.C:=by
    have:=E.cnt
    omega
   simp(disch:=omega)only[a7Q,a7p,a6q,a7x,a5K,e0f,D3,Option.map_none,Option.isNone_none,e8,e11,lm,k10,bl,g11,<-h11d,up,v8,↓l8,l9,zA,zB,zC,zD,zE,zF,zG,zH,zI,reduceCtorEq,zJ,zK,zL,zM,↓B6,↓D1,↓B2,↓A7,↓y6,↓B3,↓A8,A3,y7,↓F4,↓B5,↓B7,w9,↓A4,↓y8]
   refine fin h12 h10.next (c+1) (mp++[(bs kl,h10.next,c)]) (((o10.trans o11).f _).trans o12) S12 g12 k12 (by omega) (fun _=>hlen) (by rw[hM0,if_pos rfl,yG];rfl) (by rw[gF];exact C12) (by rw[a0I hp,if_pos rfl]) (by rw[gF];omega) _ (by rfl) (by rfl) (by rfl) (by rfl) (by rfl) (by rfl) (by rfl) (by rfl) (by rfl) (by rfl) _ fun e2 h2' ⟨w2,x2,M2,i1,i2,i3,i4,i5,i6,i7,i8,i9,i10,i11,i12,i13,i14,i15,i16,i17⟩=>?_
   rw[e8]at i11
   rw[e9]at i12
   rw[e11]at i13
   rw[e49]at i15
   rw[e50]at i16
   rw[e51]at i17
   simp(disch:=omega)only[b1I,i17,nx,wj,↓l8,l9,zA,zB,zC,zD,zE,zF,zG,zH,zI,reduceCtorEq,zJ,zK,zL,zM,↓B6,↓D1,↓B2,↓A7,↓y6,↓B3,↓A8,A3,y7,↓F4,↓B5,↓B7,w9,↓A4,↓y8]
   refine⟨d-1,by omega,j+1,w2,x2,M2,_,c+1,by omega,i1,i2,i3,i4,i5,i6,i7,i8,i9,i10,?_⟩
   repeat' first|assumption|rfl|apply And.intro
end Go.Proofs.YtlakhgibjfmjjaaGreat.Can
namespace Go.Proofs.YtlakhgibjfmjjaaGreat.Can
open Go
theorem e9l:c0Q Tryz.prog e8k p3 Tryz.f3=some d3:=by kernel_rfl
end Go.Proofs.YtlakhgibjfmjjaaGreat.Can
namespace Go.Proofs.YtlakhgibjfmjjaaGreat.wholeExact
open Go.ChangeShapes Go.WideShapes Go.ChangeAt Go.RowKit Go.Proofs.YtlakhgibjfmjjaaGreat.Can
open Go.ChangeMaps (open_string shut_string)
theorem own:ownKnob Tryz.prog.godebug=none:=by kernel_rfl
theorem laidOut:laidOutB Tryz.prog=true:=by kernel_rfl
theorem op3:Ar Tryz.prog 3 (Enc.int .i64) (fun x=>(Lit.int .i64 x).wf=true):=Ar.int Tryz.underlying3 (by kernel_rfl)
theorem op4:Ar Tryz.prog 4 Enc.bool (fun _=>True):=Ar.bool Tryz.underlying4 (by kernel_rfl)
theorem op23:Ar Tryz.prog 23 (Enc.pair (Enc.int .i64) (Enc.pair (Enc.int .i64) (Enc.pair (Enc.int .i64) (Enc.pair (Enc.int .i64) (Enc.pair (Enc.int .i64) (Enc.pair (Enc.int .i64) (Enc.pair (Enc.int .i64) (Enc.pair (Enc.int .i64) Enc.bool)))))))) (fun x=>((Lit.int .i64 x.1).wf=true/\(Lit.int .i64 x.2.1).wf=true/\(Lit.int .i64 x.2.2.1).wf=true/\(Lit.int .i64 x.2.2.2.1).wf=true/\(Lit.int .i64 x.2.2.2.2.1).wf=true/\(Lit.int .i64 x.2.2.2.2.2.1).wf=true/\(Lit.int .i64 x.2.2.2.2.2.2.1).wf=true/\(Lit.int .i64 x.2.2.2.2.2.2.2.1).wf=true/\True)):=Ar.struct Tryz.underlying23 (by kernel_rfl) (Ar.fsCons op3 (Ar.fsCons op3 (Ar.fsCons op3 (Ar.fsCons op3 (Ar.fsCons op3 (Ar.fsCons op3 (Ar.fsCons op3 (Ar.fsCons op3 (Ar.fsOne op4)))))))))
theorem op78:Ar Tryz.prog 78 (Enc.int .u64) (fun x=>(Lit.int .u64 x).wf=true):=Ar.int Tryz.underlying78 (by kernel_rfl)
theorem op2:Ar Tryz.prog 2 (Enc.int .i64) (fun x=>(Lit.int .i64 x).wf=true):=Ar.int Tryz.underlying2 (by kernel_rfl)
theorem op9:Ar Tryz.prog 9 Enc.str (fun x=>x.size<=maxLen):=Ar.str Tryz.underlying9 (by kernel_rfl)
theorem op48:Ar Tryz.prog 48 (Enc.pair (Enc.int .i64) (Enc.pair (Enc.int .i64) (Enc.pair Enc.str Enc.bool))) (fun x=>((Lit.int .i64 x.1).wf=true/\(Lit.int .i64 x.2.1).wf=true/\x.2.2.1.size<=maxLen/\True)):=Ar.struct Tryz.underlying48 (by kernel_rfl) (Ar.fsCons op2 (Ar.fsCons op2 (Ar.fsCons op9 (Ar.fsOne op4))))
set_option maxRecDepth 100000 in
theorem lifted(os:Os)(started:os.Started)(H:Type)(enc:TypeId×Value->H):
  ReturnsInHanded {} Tryz.checked os 3 .any (Rows.wholeExactSpec.pre6 enc Tryz.prog Tryz.f3 Rows.wholeExactRow.domain false) (Rows.wholeExactSpec.post enc Tryz.prog Tryz.f3 false true false false):=by
 refine returnsInHanded_of_change_sized (C:=Tryz.checked) own started (by kernel_rfl) Tryz.func3
  (ChangeSpec.witness6 (enc:=enc) (C:=Tryz.checked) false ⟨#[],#[.agg #[.int .i64 0,.int .i64 0,.int .i64 0,.int .i64 0,.int .i64 0,.int .i64 0,.int .i64 0,.int .i64 0,.bool false],.slice none 0 0,.slice none 0 0],[]⟩ 8 (by kernel_rfl) (by kernel_rfl) (by kernel_rfl) (by kernel_rfl)) ?_
 intro W base args ds gs before hval0 hW hcnd hsz0 _
 have hsz:(DataW.weightsEach Tryz.prog (Tryz.f3.params.toList++Rows.wholeExactSpec.plain.varTypes Tryz.prog) (ds++gs)).all (· <=reachBytes)=true:=hsz0
 have hval:∀(j:Nat) t v,Tryz.f3.params[j]? =some t->args[j]? =some v->Value.okWide Tryz.prog W .any base t v:=hval0
 have hW' :=hW
 obtain⟨p,q,hA0,hV,rfl,hfz,hnd⟩:=hW
 have hA:DataW.TrodAll enc Tryz.prog W 0 (fun _=>true) true Tryz.f3.params.toList args.toList ds p:=hA0
 rw[Tryz.params3]at hA hval hsz
 obtain⟨v0,vs0,d0,ds0,p0,q0,hargs,rfl,rfl,h0,r0⟩:=trodAll_cons hA
 obtain⟨v1,vs1,d1,ds1,p1,q1,rfl,rfl,rfl,h1,r1⟩:=trodAll_cons r0
 obtain⟨v2,vs2,d2,ds2,p2,q2,rfl,rfl,rfl,h2,r2⟩:=trodAll_cons r1
 obtain⟨rfl,rfl,rfl⟩:=trodAll_nil r2
 obtain rfl:args= #[v0,v1,v2]:=by cases args;simp_all
 obtain⟨rfl,rfl⟩:=trodVars_none hV
 obtain⟨cs0,rfl,hz0⟩:=okWide_struct Tryz.underlying22 (hval 0 23 v0 rfl rfl)
 have k0:=h0
 have lt0:∀x∈p0,x.block<W.heap.size:=by obtain⟨m,hm⟩:=k0;exact DataW.trod_lt m _ _ _ hm
 obtain⟨x0,rfl,g0⟩:=Ar.agg op23 h0
 obtain⟨a1,len1,cap1,rfl⟩:=okWide_slice Tryz.underlying24 (hval 1 24 v1 rfl rfl)
 have hb1:=a0D Tryz.underlying24 (hval 1 24 _ rfl rfl)
 have k1:=h1
 have lt1:∀x∈p1,x.block<W.heap.size:=by obtain⟨m,hm⟩:=k1;exact DataW.trod_lt m _ _ _ hm
 obtain⟨l1,u1,hS1,hR1,hl1,hc1,hm1,hg1⟩:=a5f Tryz.underlying24 op78 (by decide) hb1 h1
 obtain⟨a2,len2,cap2,rfl⟩:=okWide_slice Tryz.underlying25 (hval 2 25 v2 rfl rfl)
 have hb2:=a0D Tryz.underlying25 (hval 2 25 _ rfl rfl)
 have k2:=h2
 have lt2:∀x∈p2,x.block<W.heap.size:=by obtain⟨m,hm⟩:=k2;exact DataW.trod_lt m _ _ _ hm
 obtain⟨l2,u2,hS2,hR2,hl2,hc2,hm2,hg2⟩:=a5f Tryz.underlying25 op48 (by decide) hb2 h2
 clear hA0 hval0 hsz0 hsz
 refine(b5M c8n c7f Tryz.func3 e9l (wholeExact_law (W5 W) x0 g0 u1 l1 hS1 (by omega) hg1 u2 l2 hS2 (by omega) hg2) (VL.cons (VR.enc _ _) (VL.cons hR1 (VL.cons hR2 (VL.nil _)))) (Emb.id Tryz.prog W) (b5A Tryz.prog W)).mono fun e W' ⟨he,bel⟩=>?_
 subst he
 exact⟨_,rfl,_,_,_,[],_,[],hW',trodAll_mk1 (shut_bool Tryz.underlying4 _),(trodAll_cons_mk (Below.trod laidOut (by kernel_rfl) (of_decide_eq_true (by kernel_rfl)) k0 bel lt0) (trodAll_cons_mk (Below.trod laidOut (by kernel_rfl) (of_decide_eq_true (by kernel_rfl)) k1 bel lt1) (trodAll_cons_mk (Below.trod laidOut (by kernel_rfl) (of_decide_eq_true (by kernel_rfl)) k2 bel lt2) trodAll_mk0))),rfl,bel.frame _,fun h=>by cases h⟩
theorem over:Rows.wholeExactRow.holds Tryz.pinned (OpenSpec.ofChange Rows.wholeExactSpec):=
 OpenClaim.holds_of_wide 3 Tryz.f3 rfl rfl rfl rfl rfl rfl rfl ⟨rfl,rfl,rfl,rfl,rfl⟩ rfl rfl rfl rfl rfl (by kernel_rfl) Tryz.func3 (by kernel_rfl)
  (of_decide_eq_true (by kernel_rfl)) (by unfold Func.isWrapper;first| (rw[if_pos (by decide+kernel)];kernel_rfl)| (rw[if_neg (by decide+kernel)];exact⟨rfl,rfl⟩))
  (fun os started H enc _=>lifted os started H enc)
theorem proved:Rows.WholeExactSaid:=over
end Go.Proofs.YtlakhgibjfmjjaaGreat.wholeExact
namespace Go.Proofs.YtlakhgibjfmjjaaGreat
theorem wholeExact_holds:Rows.WholeExactSaid:=wholeExact.proved
end Go.Proofs.YtlakhgibjfmjjaaGreat
