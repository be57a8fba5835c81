/- Part 6 of 6 of the proof of the row RowWholeRules: whatever the input, the law returns true. No condition. -/
import Derived.Test.YtlakhgibjfmjjaaGreatZRul5
import Derived.Below
import Derived.ChangeOld
import Derived.KernelRfl
import Derived.Maps.RangeRun
import Derived.OpenShut
import Derived.ProofKit
import Derived.ShutString
import Derived.SizedLaws
import Derived.Test.YtlakhgibjfmjjaaGreatProg
import Derived.Test.YtlakhgibjfmjjaaGreatRows
import Derived.WalkKit
set_option linter.unusedSimpArgs false
set_option linter.unusedVariables false
set_option linter.defProp false
set_option maxHeartbeats 4000000
open Nat renaming reduceEqDiff → zA, reduceAdd → zB, reduceMul → zC, reduceSub → zD, reduceLT → zE, reduceLeDiff → zF, reduceBEq → zG, lt_of_lt_of_le → yN, le_refl → yP, le_trans → yR, mul_one → yS
open Int renaming reduceLT → zH, reduceLE → zI, reduceToNat → zJ, reduceAdd → zK, reduceSub → zL, reduceMul → zM, reduceBEq → zN, mul_nonneg → yO, le_refl → yQ
open Option renaming some.inj → yA, some.injEq → yC, map_eq_some_iff → yD
open Prod renaming mk.injEq → yB
open List renaming getElem?_eq_some_iff → yE, getElem?_eq_getElem → yF, length_append → yG, getElem?_set_self → yH, getElem?_set_ne → yI, getElem?_map → yJ, mem_of_getElem? → yK, length_map → yL, length_cons → yM
namespace Go.Proofs.YtlakhgibjfmjjaaGreat.Can
open Go
attribute [local congr] m9 l8 f7 f6 i7 l7 l9 s9 s7
structure SW where
 now:Int
 first:Int
 again:Bool
 read:Bool
 cs:List CV
 ls:List LV
 k:Int
structure SRel(a:SrvA)(w:SW)(v:SrvV):Prop where
 now:v.now=w.now
 first:v.first=w.first
 again:v.again=w.again
 read:v.read=w.read
 cs:v.cs=w.cs
 len:w.ls.length=v.ls.length
 rel:∀(i:Nat) (L:LA) (l:LimV) (x:LV),a.las[i]? =some L->v.ls[i]? =some l->w.ls[i]? =some x->d7V L l x
structure SB(w:SW):Prop where
 now:0<=w.now/\w.now<=1000000000
 first:0<=w.first/\w.first<=1000000000
 k:0<=w.k/\w.k<=1000000000
 lb:∀x∈w.ls,LB w.k 1000000000 x
def WV(a:SrvA)(st:SW×List EvT)(s:SrvV×List EvT):Prop:=SRel a st.1 s.1/\SB st.1/\(st.2.length:Int)<=2*st.1.k/\s.2=st.2
def SW.rd(w:SW)(r:Int):SW:={ w with now:=max (max w.now r) 0,first:=if w.read then w.first else max (max w.now r) 0,read:=true }
def b0U(R:RuleV)(rp:RP)(v:LV)(now held:Int)(q:ReqV):(Int×Int×Int)×List EvT' ×LV:=B6 R rp v now held (bs q.key) q.cost
def N9(las:List LA)(st:SW×List EvT)(q:ReqV):(SW×List EvT)×List Int:=
 match las[q.rule.toNat]?,st.1.ls[q.rule.toNat]? with
 |some L,some v=>
  let r:=b0U L.R L.rp v st.1.now (a1P st.1.now st.1.first st.1.again L.R.Wd) q
  (({ st.1 with ls:=st.1.ls.set q.rule.toNat r.2.2,k:=st.1.k+1 },st.2++evO q.rule r.2.1),a3P 1 r.1.1 r.1.2.1 r.1.2.2)
 |_,_=>(st,[])
def a0w(las:List LA)(st:SW×List EvT)(q:ReqV):Int:=match las[q.rule.toNat]? with|some L=>b1Q q.op q.k L.R.T|none=>22
def okW(st:SW×List EvT)(q:ReqV):Prop:=q.op=1/\st.1.k+1<=1000000000
theorem RP.geo{a:LA}{nx:Nat}(g:LGeo a nx):1<=a.rp.W/\a.rp.N<=65:=by
 have ok:=g.ok
 have hS:=ok.S
 have hWd:=ok.Wd
 have e:=Int.mul_ediv_add_emod a.R.Wd (a.R.S:Int)
 rw[ok.Sd,Int.add_zero]at e
 have h0:0<=a.R.Wd / (a.R.S:Int):=Int.ediv_nonneg (by omega) (by omega)
 have h1:=g.gW
 have h2:=g.gN
 refine⟨?_,by omega⟩
 rcases Int.lt_or_eq_of_le h0 with h|h
 ·omega
 ·rw[<-h,Int.mul_zero]at e;omega
theorem b4J{a:SrvA}{k:Nat}{A:CA}(hA:a.cas[k]? =some A)(hAr:A.rr=a.las.length)(hap:∀z,A.own z->z≠a.s/\∀(i:Nat) (L:LA),a.las[i]? =some L->¬L.own z)(N:Nat):
  Host (SW×List EvT) a.s (a.ansF N) A (fun hh st=>∃s,HI a k N hh s/\WV a st s) okW (a0w a.las) (N9 a.las) where
 keep:=fun⟨s,I,W⟩ o=>⟨s,I.keep hA o,W⟩
 most_ok:=fun {h st q Q} I rq hq hQ=>by
  obtain⟨s,⟨nn,ev,eb,S,V,e⟩,W⟩:=I
  rw[hAr]at rq
  have r1:=rq.rule
  have il:q.rule.toNat<a.las.length:=by omega
  have hl:=yF il
  obtain⟨l,hll⟩:∃l,s.1.ls[q.rule.toNat]? =some l:=⟨_,yF (by rw[S.ll];exact il)⟩
  refine d3h S rq hl (S.L _ _ l hl hll).ok fun h' o=>?_
  have e:a0w a.las st q=b1Q q.op q.k (a.las[q.rule.toNat]).R.T:=by unfold a0w;rw[hl]
  rw[<-e]
  exact hQ h' o
 ans_ok:=fun {h st q Q} I rq hq hQ=>by
  obtain⟨⟨sv,evs⟩,⟨nn,ev,eb,S,V,e⟩,W⟩:=I
  obtain⟨Wr,Wb,We,Ws⟩:=W
  simp only at S V e Wr Ws
  subst Ws
  rw[hAr]at rq
  have r1:=rq.rule
  have il:q.rule.toNat<a.las.length:=by omega
  have hl:=yF il
  obtain⟨L,hLd⟩:∃L,L=a.las[q.rule.toNat]:=⟨_,rfl⟩
  rw[<-hLd]at hl
  obtain⟨l,hll⟩:∃l,sv.ls[q.rule.toNat]? =some l:=⟨_,yF (by rw[S.ll];exact il)⟩
  have iw:q.rule.toNat<st.1.ls.length:=by rw[Wr.len,S.ll];exact il
  obtain⟨x,hx⟩:∃x,st.1.ls[q.rule.toNat]? =some x:=⟨_,yF iw⟩
  have n1:=Wr.now
  have n2:=Wr.first
  have n3:=Wr.again
  have b1:=Wb.now
  have b2:=Wb.first
  have b3:=Wb.k
  have rel:=Wr.rel _ L l x hl hll hx
  have M:=rel _ (S.L _ L l hl hll)
  have B:=Wb.lb x (yK hx)
  obtain⟨gW,gN⟩:=RP.geo M.geo
  have e' :a4A a N st.2 ev eb:=by
   rcases e with⟨e1,e2⟩|e
   ·exact .inl ⟨e1,e2⟩
   ·exact .inr e
  obtain⟨r,hr⟩:∃r,r=B6 L.R L.rp x st.1.now (a1P st.1.now st.1.first st.1.again L.R.Wd) (bs q.key) q.cost:=⟨_,rfl⟩
  have an:N9 a.las st q=(({ st.1 with ls:=st.1.ls.set q.rule.toNat r.2.2,k:=st.1.k+1 },st.2++evO q.rule r.2.1),a3P 1 r.1.1 r.1.2.1 r.1.2.2):=by
   unfold N9;rw[hl,hx];simp only;unfold b0U;rw[<-hr]
  rw[an]at hQ
  have B' :LB (st.1.k+1) 1000000000 r.2.2:=by
   rw[hr]
   refine B.check hq.2 M.geo.ok (RuleV.pace M.geo.ok) gW gN b1 _ ?_
   have:=M.P.ok
   rw[M.geo.pn]at this;exact this
  refine c5h S ⟨by rw[n1];unfold C2;omega,by rw[n2];unfold C2;omega⟩ rq hq.1 hl hll rel B hq.2 (by rw[n1];exact b1) V e' (by omega) nn.1 (fun z hz=>yN (nn.2 z hz) nn.1) (r:=r) (by rw[hr,n1,n2,n3]) fun h' ev' eb' l' u b o S' rel' V' e2 V2 hb=>?_
  refine hQ h' u b o ⟨({ sv with ls:=sv.ls.set q.rule.toNat l' },st.2++evO q.rule r.2.1),⟨⟨by have:=o.next;omega,nn.2⟩,ev',eb',S',V',?_⟩,⟨n1,n2,n3,Wr.read,Wr.cs,?_,fun i L' l2 x2 h1 h2 h3=>?_⟩,⟨b1,b2,?_,fun y hy=>?_⟩,?_,rfl⟩ V2 hb
  ·rcases e2 with⟨e1,e2⟩|e2
   ·exact .inl ⟨e1,e2⟩
   ·exact .inr e2
  ·show(st.1.ls.set _ _).length=(sv.ls.set _ _).length
   rw[List.length_set,List.length_set];exact Wr.len
  ·have h2:(sv.ls.set q.rule.toNat l')[i]? =some l2:=h2
   have h3:(st.1.ls.set q.rule.toNat r.2.2)[i]? =some x2:=h3
   by_cases ei:q.rule.toNat=i
   ·subst ei
    rw[yH (List.getElem?_eq_some_iff.1 hll).1]at h2
    rw[yH iw]at h3
    rw[hl]at h1
    rw[<-yA h1,<-yA h2,<-yA h3]
    exact rel'
   ·rw[yI ei]at h2 h3
    exact Wr.rel i L' l2 x2 h1 h2 h3
  ·show 0<=st.1.k+1/\st.1.k+1<=_
   have:=hq.2
   omega
  ·have hy:y∈st.1.ls.set q.rule.toNat r.2.2:=hy
   rcases List.mem_or_eq_of_mem_set hy with hy|rfl
   ·exact(Wb.lb y hy).next hq.2
   ·exact B'
  ·show((st.2++evO q.rule r.2.1).length:Int)<=2*(st.1.k+1)
   have:=a2l L.R L.rp x st.1.now (a1P st.1.now st.1.first st.1.again L.R.Wd) (bs q.key) q.cost
   rw[<-hr]at this
   unfold evO
   rw[yG,yL]
   omega
 len:=fun {h st q} I rq hq=>by
  have m:a0w a.las st q=22:=by
   unfold a0w
   rw[hq.1]
   split<;>rfl
  rw[m]
  unfold N9
  split
  ·rename_i L v _ _
   have:=a4x L.R L.rp v st.1.now (a1P st.1.now st.1.first st.1.again L.R.Wd) (bs q.key) q.cost
   refine⟨?_,c4V _ _ _ _ (by decide) ?_⟩
   ·show((a3P _ _ _ _).length:Int)<=22
    rw[a6i];decide
   ·show 0<=(B6 _ _ _ _ _ _ _).1.1/\_
    unfold b0U
    omega
  ·exact⟨by simp,fun x hx=>by simp at hx⟩
 apart:=fun z hz hF=>by
  obtain⟨h1,h2⟩:=hap z hz
  rcases hF with e| ⟨i,L,hL,hz'⟩| ⟨_,hn⟩
  ·exact h1 e
  ·exact h2 i L hL hz'
  ·exact hn (.inr (.inr (.inr (.inr (.inl ⟨k,A,by simp,hA,hz⟩)))))
def Srv(h:Heap)(a:SrvA)(w:SW):Prop:=∃v,SrvAt h a v J3 none/\SRel a w v/\SB w
section
variable {h h' :Heap} {a:SrvA} {w:SW}
theorem Srv.old(S:Srv h a w)(o:Old h h'):Srv h' a w:=by
 obtain⟨v,S,r⟩:=S
 exact⟨v,S.old o,r⟩
theorem Srv.lt(S:Srv h a w){z:Nat}(hz:a.own none z):z<h.next:=by
 obtain⟨v,S,r⟩:=S
 exact S.lt hz
theorem Srv.oldF{F:Nat->Prop}(S:Srv h a w)(o:OldF F h h')(hF:∀z,a.own none z->¬F z):Srv h' a w:=by
 obtain⟨v,S,r⟩:=S
 exact⟨v,S.oldF o fun z hz _=>hF z hz,r⟩
theorem SRel.rd{v:SrvV}(r:SRel a w v)(t:Int):SRel a (w.rd t) (v.rd t):=by
 refine⟨?_,?_,r.again,rfl,r.cs,r.len,r.rel⟩
 ·show max (max v.now t) 0=max (max w.now t) 0
  rw[r.now]
 ·show(if v.read then v.first else max (max v.now t) 0)=(if w.read then w.first else max (max w.now t) 0)
  rw[r.now,r.first,r.read]
theorem SB.rd(b:SB w){t:Int}(ht:t<=1000000000):SB (w.rd t):=by
 have b1:=b.now
 have b2:=b.first
 refine⟨?_,?_,b.k,b.lb⟩
 ·show 0<=max (max w.now t) 0/\max (max w.now t) 0<=_
  omega
 ·show 0<=(if w.read then w.first else max (max w.now t) 0)/\(if w.read then w.first else max (max w.now t) 0)<=_
  split<;>omega
theorem SRel.conn{v:SrvV}(r:SRel a w v)(cs:List CV):SRel a { w with cs:=cs } { v with cs:=cs }:=⟨r.now,r.first,r.again,r.read,rfl,r.len,r.rel⟩
theorem SB.conn(b:SB w)(cs:List CV):SB { w with cs:=cs }:=⟨b.now,b.first,b.k,b.lb⟩
theorem SrvAt.tags{v:SrvV}{ev:Value}{ex:Option Nat}(S:SrvAt h a v ev ex){k:Nat}{A:CA}(hA:a.cas[k]? =some A):∀z,A.own z->z≠a.s/\∀(i:Nat) (L:LA),a.las[i]? =some L->¬L.own z:=fun z hz=>by
 have t:=S.tC k A z hA hz
 refine⟨fun e=>?_,fun i L hL h2=>?_⟩
 ·rw[e,S.ts]at t;omega
 ·have:=S.tL i L z hL h2;omega
variable {k:Nat} {A:CA} {c:CV}
theorem c5R(S:Srv h a w)(hA:a.cas[k]? =some A)(hc:w.cs[k]? =some c)(hw:c.w=true)(hr:c.r=A.rr)(di:c.e=0->R8 c.bs c.n c.r)
  (r n:Int) (ht:r<=1000000000) (x:Value) (l:List Int) (sl:X7 h x l) (byt:H7 l) (hll:l.length<=100000) (hok:okS (a0w a.las) (N9 a.las) A.S okW l (w.rd r,[]) c) (hg:∀z o cap,x=.slice (some ⟨z,o,none⟩) l.length cap->¬a.own none z)
  {R:(SW×List EvT)×CV×Nat} (hR:R=B1 (a0w a.las) (N9 a.las) A.S l (w.rd r,[]) c) {Q:Value->Heap->Prop}
  (hQ:∀h' evv eb,OldF (a.own none) h h' ->(R.2.1.w=true/\R.2.1.r=A.rr/\(R.2.1.e=0->R8 R.2.1.bs R.2.1.n R.2.1.r))->Srv h' a { R.1.1 with cs:=R.1.1.cs.set k R.2.1 }->
   F1 h' 123 EvE evv R.1.2 eb/\(R.1.2=[]/\evv=.slice none 0 0\/h.next<=eb)->Q (.agg #[.int .i64 0,.int .i64 R.2.2,J3,evv]) h'):
  r8 cp 15 [.pointer (some ⟨a.s,0,none⟩),.agg #[.int .i64 2,.int .i64 r,.int .i64 k,x,.int .i64 n,.slice none 0 0]] h Q:=by
 obtain⟨v,S,rel,sb⟩:=S
 have hcv:v.cs[k]? =some c:=by rw[rel.cs];exact hc
 refine d1Z (V:=WV a) (F:=a.ansF) (fun N=>b4J hA (S.cr k A hA).1 (S.tags hA) N) (fun N z hz=>?_) S hA hcv hw hr di r n ⟨rel.rd r,sb.rd ht,?_,rfl⟩ x l sl byt hll hok hg fun h' evv eb s o cc V S' Vv=>?_
 ·rcases hz with e| ⟨i,L,hL,hz⟩| ⟨hz,_⟩
  ·exact .inl (.inl e)
  ·exact .inl (.inr (.inr (.inr (.inr (.inr ⟨i,L,hL,hz⟩)))))
  ·exact .inr hz
 ·have:=sb.k
  show((0:Nat):Int)<=2*w.k
  omega
 ·rw[<-hR]at cc V S' ⊢
  obtain⟨V1,V2,V3,V4⟩:=V
  rw[V4]at Vv
  refine hQ h' evv eb o cc ⟨_,S',?_,V2.conn _⟩ Vv
  rw[V1.cs]
  exact V1.conn _
theorem c7k(S:Srv h a w)(hA:a.cas[k]? =some A)(hc:w.cs[k]? =some c)(hw:c.w=false)(r n:Int)(ht:r<=1000000000){Q:Value->Heap->Prop}
  (hQ:∀h',OldF (a.own none) h h' ->Srv h' a { w.rd r with cs:=w.cs.set k (a6P A.rr) }->Q (.agg #[.int .i64 0,.int .i64 0,J3,J3]) h'):
  r8 cp 15 [.pointer (some ⟨a.s,0,none⟩),.agg #[.int .i64 0,.int .i64 r,.int .i64 k,.slice none 0 0,.int .i64 n,.slice none 0 0]] h Q:=by
 obtain⟨v,S,rel,sb⟩:=S
 have hcv:v.cs[k]? =some c:=by rw[rel.cs];exact hc
 refine d8r S hA hcv hw r n fun h' o S' =>hQ h' o ⟨_,S',?_,(sb.rd ht).conn _⟩
 rw[rel.cs]
 exact(rel.rd r).conn _
theorem c6O(S:Srv h a w)(hA:a.cas[k]? =some A)(hc:w.cs[k]? =some c)(hw:c.w=true)(r n:Int)(ht:r<=1000000000){Q:Value->Heap->Prop}
  (hQ:∀h' u b,OldF (a.own none) h h' ->Srv h' a { w.rd r with cs:=w.cs.set k { c with qs:=c.qs.drop n.toNat } }->F1 h' 5 B8 u (c.qs.take n.toNat) b->h.next<=b->Q (.agg #[.int .i64 0,.int .i64 0,u,J3]) h'):
  r8 cp 15 [.pointer (some ⟨a.s,0,none⟩),.agg #[.int .i64 3,.int .i64 r,.int .i64 k,.slice none 0 0,.int .i64 n,.slice none 0 0]] h Q:=by
 obtain⟨v,S,rel,sb⟩:=S
 have hcv:v.cs[k]? =some c:=by rw[rel.cs];exact hc
 refine d0E S hA hcv hw r n fun h' u b o S' V hb=>hQ h' u b o ⟨_,S',?_,(sb.rd ht).conn _⟩ V hb
 rw[rel.cs]
 exact(rel.rd r).conn _
end
structure Idl(c:CV)(rr:Int)(qs:List Int):Prop where
 w:c.w=true
 r:c.r=rr
 e:c.e=0
 n:c.n=0
 bs:c.bs.length=75
 qs:c.qs=qs
abbrev Qs:=Nat->Option (List Int)
def Qs.set(q:Qs)(k:Nat)(l:List Int):Qs:=fun j=>if j=k then some l else q j
theorem Qs.set_self(q:Qs)(k:Nat)(l:List Int):q.set k l k=some l:=if_pos rfl
theorem Qs.set_ne(q:Qs){k j:Nat}(l:List Int)(h:j≠k):q.set k l j=q j:=if_neg h
def SI(h:Heap)(a:SrvA)(w:SW)(q:Qs):Prop:=∃cs,Srv h a { w with cs:=cs }/\∀k l,q k=some l->∃A c,a.cas[k]? =some A/\cs[k]? =some c/\Idl c A.rr l
section
variable {h h' :Heap} {a:SrvA} {w:SW} {q:Qs}
theorem SI.old(S:SI h a w q)(o:Old h h'):SI h' a w q:=by
 obtain⟨cs,S,r⟩:=S
 exact⟨cs,S.old o,r⟩
theorem SI.lt(S:SI h a w q){z:Nat}(hz:a.own none z):z<h.next:=by
 obtain⟨cs,S,r⟩:=S
 exact S.lt hz
theorem SI.oldF{F:Nat->Prop}(S:SI h a w q)(o:OldF F h h')(hF:∀z,a.own none z->¬F z):SI h' a w q:=by
 obtain⟨cs,S,r⟩:=S
 exact⟨cs,S.oldF o hF,r⟩
theorem SI.set{cs:List CV}{w' :SW}(S:Srv h' a { w' with cs:=cs }){k:Nat}{A:CA}{c:CV}{l:List Int}(hA:a.cas[k]? =some A)(hc:cs[k]? =some c)(I:Idl c A.rr l)(hq:∀j m,j≠k->q j=some m->∃A c,a.cas[j]? =some A/\cs[j]? =some c/\Idl c A.rr m):SI h' a w' (q.set k l):=
 ⟨cs,S,fun j m hj=>by
  by_cases e:j=k
  ·subst e
   rw[Qs.set_self]at hj
   rw[<-yA hj]
   exact⟨A,c,hA,hc,I⟩
  ·rw[Qs.set_ne _ _ e]at hj
   exact hq j m e hj⟩
theorem d8o(las:List LA)(w:SW)(cs:List CV)(evs:List EvT)(rq:ReqV):N9 las ({ w with cs:=cs },evs) rq=(({ (N9 las (w,evs) rq).1.1 with cs:=cs },(N9 las (w,evs) rq).1.2),(N9 las (w,evs) rq).2):=by
 unfold N9
 cases e1:las[rq.rule.toNat]? <;>cases e2:w.ls[rq.rule.toNat]? <;>simp only[e1,e2]
theorem e0u(S:SI h a w q){k:Nat}{l:List Int}(hq:q k=some l){rq:ReqV}(rc:ReqC a.las.length rq)(ho:rq.op=1)(hk:w.k+1<=1000000000)(hou:l.length+22<=a.ou)(t n:Int)(ht:t<=1000000000)
  (x:Value) (sl:X7 h x (D5 rq)) (byt:H7 (D5 rq)) (hg:∀z o cap,x=.slice (some ⟨z,o,none⟩) (D5 rq).length cap->¬a.own none z) {R:(SW×List EvT)×List Int} (hR:R=N9 a.las (w.rd t,[]) rq) {Q:Value->Heap->Prop}
  (hQ:∀h' evv eb,OldF (a.own none) h h' ->SI h' a R.1.1 (q.set k (l++R.2))->F1 h' 123 EvE evv R.1.2 eb/\(R.1.2=[]/\evv=.slice none 0 0\/h.next<=eb)->Q (.agg #[.int .i64 0,.int .i64 (D5 rq).length,J3,evv]) h'):
  r8 cp 15 [.pointer (some ⟨a.s,0,none⟩),.agg #[.int .i64 2,.int .i64 t,.int .i64 k,x,.int .i64 n,.slice none 0 0]] h Q:=by
 obtain⟨cs,S,hcs⟩:=S
 obtain⟨A,c,hA,hc,I⟩:=hcs k l hq
 obtain⟨v,SA,_⟩:=id S
 obtain⟨hAr,hAS⟩:=SA.cr k A hA
 have hc' :({ w with cs:=cs }:SW).cs[k]? =some c:=hc
 have wrd:(({ w with cs:=cs }:SW).rd t)={ w.rd t with cs:=cs }:=rfl
 have an:=d8o a.las (w.rd t) cs [] rq
 rw[<-hR]at an
 have m:a0w a.las (({ w with cs:=cs }:SW).rd t,[]) rq<=((A.S-c.qs.length:Nat):Int):=by
  rw[I.qs,hAS]
  have:a0w a.las (({ w with cs:=cs }:SW).rd t,[]) rq=22:=by
   unfold a0w
   rw[ho]
   split<;>rfl
  rw[this];omega
 have rc' :ReqC A.rr rq:=by rw[hAr];exact rc
 obtain⟨bs',hb',hacc⟩:=b4U (a0w a.las) (N9 a.las) A.S rc' (({ w with cs:=cs }:SW).rd t,[]) c I.bs I.e I.n I.r m
 rw[wrd,an]at hacc
 have fl:=(a2A rc').2.2
 refine c5R S hA hc' I.w I.r (fun _=>by rw[I.n];exact⟨by decide,.inl rfl⟩) t n ht x (D5 rq) sl byt (by omega) (e0w _ _ _ rc' _ ⟨ho,hk⟩ c I.bs I.n I.r) hg hacc.symm fun h' evv eb o cc S' V=>hQ h' evv eb o ?_ V
 have cl:=(List.getElem?_eq_some_iff.1 hc).1
 have e1:(({ R.1.1 with cs:=cs }:SW).cs.set k { c with bs:=bs',n:=0,qs:=c.qs++R.2 })=cs.set k { c with bs:=bs',n:=0,qs:=c.qs++R.2 }:=rfl
 refine SI.set (cs:=cs.set k { c with bs:=bs',n:=0,qs:=c.qs++R.2 }) S' hA (yH cl) ⟨I.w,I.r,I.e,rfl,hb',by show c.qs++R.2=_;rw[I.qs]⟩ fun j m hj hm=>?_
 obtain⟨A',c',h1,h2,h3⟩:=hcs j m hm
 exact⟨A',c',h1,by rw[yI (fun e=>hj e.symm)];exact h2,h3⟩
theorem a5L(S:SI h a w q){k:Nat}{l:List Int}(hq:q k=some l)(t n:Int)(ht:t<=1000000000){Q:Value->Heap->Prop}
  (hQ:∀h' u b,OldF (a.own none) h h' ->SI h' a (w.rd t) (q.set k (l.drop n.toNat))->F1 h' 5 B8 u (l.take n.toNat) b->h.next<=b->Q (.agg #[.int .i64 0,.int .i64 0,u,J3]) h'):
  r8 cp 15 [.pointer (some ⟨a.s,0,none⟩),.agg #[.int .i64 3,.int .i64 t,.int .i64 k,.slice none 0 0,.int .i64 n,.slice none 0 0]] h Q:=by
 obtain⟨cs,S,hcs⟩:=S
 obtain⟨A,c,hA,hc,I⟩:=hcs k l hq
 have hc' :({ w with cs:=cs }:SW).cs[k]? =some c:=hc
 refine c6O S hA hc' I.w t n ht fun h' u b o S' V hb=>hQ h' u b o ?_ (by rw[<-I.qs];exact V) hb
 have cl:=(List.getElem?_eq_some_iff.1 hc).1
 refine SI.set (cs:=cs.set k { c with qs:=c.qs.drop n.toNat }) S' hA (yH cl) ⟨I.w,I.r,I.e,I.n,I.bs,by show c.qs.drop _=_;rw[I.qs]⟩ fun j m hj hm=>?_
 obtain⟨A',c',h1,h2,h3⟩:=hcs j m hm
 exact⟨A',c',h1,by rw[yI (fun e=>hj e.symm)];exact h2,h3⟩
def SO(h:Heap)(a:SrvA)(w:SW)(q:Qs):Prop:=∃cs,Srv h a { w with cs:=cs }/\∀k A,a.cas[k]? =some A->(∃c,cs[k]? =some c/\(q k=none->c.w=false)/\∀l,q k=some l->Idl c A.rr l)
theorem SO.si(S:SO h a w q)(hn:∀k l,q k=some l->k<a.cas.length):SI h a w q:=by
 obtain⟨cs,S,hcs⟩:=S
 refine⟨cs,S,fun k l hk=>?_⟩
 have hA:=yF (hn k l hk)
 obtain⟨c,h1,_,h2⟩:=hcs k _ hA
 exact⟨_,c,hA,h1,h2 l hk⟩
theorem b9H(S:SO h a w q){k:Nat}{A:CA}(hA:a.cas[k]? =some A)(hq:q k=none)(t n:Int)(ht:t<=1000000000){Q:Value->Heap->Prop}
  (hQ:∀h',OldF (a.own none) h h' ->SO h' a (w.rd t) (q.set k [])->Q (.agg #[.int .i64 0,.int .i64 0,J3,J3]) h'):
  r8 cp 15 [.pointer (some ⟨a.s,0,none⟩),.agg #[.int .i64 0,.int .i64 t,.int .i64 k,.slice none 0 0,.int .i64 n,.slice none 0 0]] h Q:=by
 obtain⟨cs,S,hcs⟩:=S
 obtain⟨c,h1,h2,h3⟩:=hcs k A hA
 have hc' :({ w with cs:=cs }:SW).cs[k]? =some c:=h1
 refine c7k S hA hc' (h2 hq) t n ht fun h' o S' =>hQ h' o ⟨cs.set k (a6P A.rr),S',fun j A' hA' =>?_⟩
 obtain⟨c',k1,k2,k3⟩:=hcs j A' hA'
 by_cases e:j=k
 ·subst e
  refine⟨a6P A.rr,yH (List.getElem?_eq_some_iff.1 h1).1,⟨fun hn=>?_,fun l hl=>?_⟩⟩
  ·rw[Qs.set_self]at hn;cases hn
  rw[Qs.set_self]at hl
  rw[hA]at hA'
  rw[<-yA hA',<-yA hl]
  exact⟨rfl,rfl,rfl,rfl,List.length_replicate,rfl⟩
 ·rw[Qs.set_ne _ _ e]
  exact⟨c',by rw[yI (fun e' =>e e'.symm)];exact k1,k2,k3⟩
end
def sw0(rl:List RuleV):SW:=⟨0,0,false,false,[],rl.map lv0,0⟩
theorem e0Q(r:RuleV):LB 0 1000000000 (lv0 r):=by
 refine⟨⟨by decide,by decide⟩,⟨by decide,by decide⟩,fun i c hc=>?_,?_,?_,⟨yQ 0,by show(0:Int)<=_;decide⟩,by show(0:Int)<=_;decide⟩
 ·have hc:(List.replicate r.C ((0:Int),(0:Int),(0:Int),(0:Int)))[i]? =some c:=hc
  have:=yK hc
  rw[(List.mem_replicate.1 this).2]
  exact⟨⟨by decide,by decide⟩,⟨by decide,by decide⟩,⟨by decide,by decide⟩,by decide,by decide⟩
 ·exact Pos.zero _
 ·exact Bd.zero _ (by decide)
theorem a9k(h:Heap)(bu:Int)(co ou:Nat)(v0:Value)(rl:List RuleV)(b0:Nat)(V0:F1 h 34 RE v0 (rl.map RuleV.t) b0)(cfg:a2e bu co ou (rl.map RuleV.t))(rok:∀r∈rl,r.OK)
  (sv:Value) (sl:List Int) (hsl:sl.length<=1000000) (hsd:Lst h (Enc.int .u64) sv sl) {Q:Value->Heap->Prop}
  (hQ:∀h' a,Old h h' ->SO h' a (sw0 rl) (fun _=>none)->a.las.map LA.R=rl->a.cas.length=co->a.ou=ou->b0X a sl->(∀z,a.own none z->h.next<=z)->Q (.tuple #[.pointer (some ⟨a.s,0,none⟩),.int .i64 0]) h'):
  r8 cp 14 [.agg #[.int .i64 bu,.int .i64 co,.int .i64 ou,v0],sv] h Q:=by
 have z9:(0:Int)<=1000000000:=by decide
 refine c6w h bu co ou v0 rl b0 V0 cfg rok sv sl hsl hsd fun h' a o S hlas hcas hou hrows hown=>hQ h' a o ⟨List.replicate co cv0,⟨_,S,⟨rfl,rfl,rfl,rfl,rfl,?_,fun i L l x hL hl hx=>?_⟩,⟨yQ 0,z9⟩,⟨yQ 0,z9⟩,⟨yQ 0,z9⟩,fun x hx=>?_⟩,fun k A hA=>?_⟩ hlas hcas hou hrows hown
 ·show(rl.map lv0).length=(rl.map a0W).length
  rw[yL,yL]
 ·have hl:(rl.map a0W)[i]? =some l:=hl
  have hx:(rl.map lv0)[i]? =some x:=hx
  have hr:rl[i]? =some L.R:=by rw[<-hlas,yJ,hL];rfl
  rw[yJ,hr]at hl hx
  rw[<-yA hl,<-yA hx]
  obtain⟨_,r2,r3⟩:=hrows i L hL
  exact fun h2 A2=>Lmt.new A2 rfl (by rw[r2];exact b0i _ _) (by rw[r3];exact b0i _ _)
 ·obtain⟨r,_,rfl⟩:=List.mem_map.1 hx
  exact e0Q r
 ·have hk:=(List.getElem?_eq_some_iff.1 hA).1
  refine⟨cv0,by rw[List.getElem?_replicate,if_pos (by omega)],fun _=>rfl,fun l hl=>by cases hl⟩
def H9(p:D2):RuleV:=
 { L:=p.1 % 32+1,Wd:=(p.2.1 % 32+1)*(p.2.2.2.1 % 8+1),B:=(p.2.2.1 % 32) % (p.1 % 32+1)+1,S:=(p.2.2.2.1 % 8+1).toNat,C:=(p.2.2.2.2.1 % 8+1).toNat,R:=(p.2.2.2.2.2.1 % 4+1).toNat,
   W:=(p.2.2.2.2.2.2.1 % 16+1).toNat,T:=(p.2.2.2.2.2.2.2.1 % 8+1).toNat,sm:=p.2.2.2.2.2.2.2.2 && decide (p.2.2.2.1 % 8+1>1) }
theorem b3W(p:D2):(H9 p).OK:=by
 obtain⟨l,w,b,s,c,r,d,t,m⟩:=p
 have hb:0<=(b % 32) % (l % 32+1)/\(b % 32) % (l % 32+1)<l % 32+1:=⟨Int.emod_nonneg _ (by omega),Int.emod_lt_of_pos _ (by omega)⟩
 obtain⟨s',hs⟩:∃s' :Nat,s % 8=s' :=⟨(s % 8).toNat,by omega⟩
 obtain⟨w',hw⟩:∃w' :Nat,w % 32=w' :=⟨(w % 32).toNat,by omega⟩
 have hp:1*1<=(w % 32+1)*(s % 8+1):=Int.mul_le_mul (by omega) (by omega) (by omega) (by omega)
 have hp2:(w % 32+1)*(s % 8+1)<=32*8:=Int.mul_le_mul (by omega) (by omega) (by omega) (by omega)
 refine⟨?_,?_,?_,?_,?_,?_,?_,?_,?_,?_⟩
 ·show 1<=l % 32+1/\l % 32+1<=32;omega
 ·show 1<=(w % 32+1)*(s % 8+1)/\(w % 32+1)*(s % 8+1)<=256;omega
 ·show 1<=(b % 32) % (l % 32+1)+1/\(b % 32) % (l % 32+1)+1<=l % 32+1;omega
 ·show 1<=(s % 8+1).toNat/\(s % 8+1).toNat<=8;omega
 ·show((w % 32+1)*(s % 8+1)) % (((s % 8+1).toNat:Nat):Int)=0
  rw[Int.toNat_of_nonneg (by omega)];exact Int.mul_emod_left _ _
 ·show 1<=(c % 8+1).toNat/\(c % 8+1).toNat<=8;omega
 ·show 1<=(r % 4+1).toNat/\(r % 4+1).toNat<=4;omega
 ·show 1<=(d % 16+1).toNat/\(d % 16+1).toNat<=16;omega
 ·show 1<=(t % 8+1).toNat/\(t % 8+1).toNat<=8;omega
 ·intro h
  have h:(m && decide (s % 8+1>1))=true:=h
  rw[Bool.and_eq_true]at h
  have:=of_decide_eq_true h.2
  show 2<=(s % 8+1).toNat
  omega
theorem a3H(h:Heap)(p:D2){Q:Value->Heap->Prop}(hQ:∀h',Old h h' ->Q (.agg (H9 p).c.toArray) h'):r8 cp 30 [.agg (RE.enc p).toArray] h Q:=by
 obtain⟨l,w,b,s,c,r,d,t,m⟩:=p
 show r8 cp 30 [.agg #[.int .i64 l,.int .i64 w,.int .i64 b,.int .i64 s,.int .i64 c,.int .i64 r,.int .i64 d,.int .i64 t,.bool m]] h Q
 rw[a8 cp e7u]
 have m31:=fun x=>O8 5 (by decide) x 31 (by decide)
 have m15:=fun x=>O8 4 (by decide) x 15 (by decide)
 have m7:=fun x=>O8 3 (by decide) x 7 (by decide)
 have m3:=fun x=>O8 2 (by decide) x 3 (by decide)
 obtain⟨l',hl,l1⟩:∃y,l % 2 ^ 5=y/\0<=y/\y<=31:=⟨_,rfl,by omega,by omega⟩
 obtain⟨w',hw,w1⟩:∃y,w % 2 ^ 5=y/\0<=y/\y<=31:=⟨_,rfl,by omega,by omega⟩
 obtain⟨b',hb,b1⟩:∃y,b % 2 ^ 5=y/\0<=y/\y<=31:=⟨_,rfl,by omega,by omega⟩
 obtain⟨s',hs,s1⟩:∃y,s % 2 ^ 3=y/\0<=y/\y<=7:=⟨_,rfl,by omega,by omega⟩
 obtain⟨c',hc,c1⟩:∃y,c % 2 ^ 3=y/\0<=y/\y<=7:=⟨_,rfl,by omega,by omega⟩
 obtain⟨r',hr,r1⟩:∃y,r % 2 ^ 2=y/\0<=y/\y<=3:=⟨_,rfl,by omega,by omega⟩
 obtain⟨d',hd,d1⟩:∃y,d % 2 ^ 4=y/\0<=y/\y<=15:=⟨_,rfl,by omega,by omega⟩
 obtain⟨t',ht,t1⟩:∃y,t % 2 ^ 3=y/\0<=y/\y<=7:=⟨_,rfl,by omega,by omega⟩
 have n0:(l' +1=0)=False:=eq_false (by omega)
 have tm:Int.tmod b' (l' +1)=b' % (l' +1):=I0 _ _ b1.1
 have hbb:0<=b' % (l' +1)/\b' % (l' +1)<l' +1:=⟨Int.emod_nonneg _ (by omega),Int.emod_lt_of_pos _ (by omega)⟩
 have hp:1*1<=(w' +1)*(s' +1):=Int.mul_le_mul (by omega) (by omega) (by omega) (by omega)
 have hp2:(w' +1)*(s' +1)<=32*8:=Int.mul_le_mul (by omega) (by omega) (by omega) (by omega)
 have e:RuleV.c (H9 (l,w,b,s,c,r,d,t,m))=[.int .i64 (l' +1),.int .i64 ((w' +1)*(s' +1)),.int .i64 (b' % (l' +1)+1),.int .i64 (s' +1),.int .i64 (c' +1),.int .i64 (r' +1),.int .i64 (d' +1),.int .i64 (t' +1),.bool (m && decide (s' +1>1))]:=by
  have q1:l % 32=l' :=hl
  have q2:w % 32=w' :=hw
  have q3:b % 32=b' :=hb
  have q4:s % 8=s' :=hs
  have q5:c % 8=c' :=hc
  have q6:r % 4=r' :=hr
  have q7:d % 16=d' :=hd
  have q8:t % 8=t' :=ht
  simp only[RuleV.c,H9,q1,q2,q3,q4,q5,q6,q7,q8]
  rw[Int.toNat_of_nonneg (by omega),Int.toNat_of_nonneg (by omega),Int.toNat_of_nonneg (by omega),Int.toNat_of_nonneg (by omega),Int.toNat_of_nonneg (by omega)]
 rw[e]at hQ
 have ob:∃h1,h1=(h.new (.cells [.int .i64 l,.int .i64 w,.int .i64 b,.int .i64 s,.int .i64 c,.int .i64 r,.int .i64 d,.int .i64 t,.bool m] 23 .fix)).new (.cells [.int .i64 0,.int .i64 0,.int .i64 0,.int .i64 0,.int .i64 0,.int .i64 0,.int .i64 0,.int .i64 0,.bool false] 34 .fix):=⟨_,rfl⟩
 obtain⟨h1,h1d⟩:=ob
 have o1:Old h h1:=by rw[h1d];exact((Old.refl h).more _).more _
 have n1:h1.next=h.next+1+1:=by rw[h1d];rfl
 have g1:h1.obj h.next=.cells [.int .i64 l,.int .i64 w,.int .i64 b,.int .i64 s,.int .i64 c,.int .i64 r,.int .i64 d,.int .i64 t,.bool m] 23 .fix:=by rw[h1d,b7 _ _ (by simp only[f4];omega)];exact b8 _ _
 have g2:h1.obj (h.next+1)=.cells [.int .i64 0,.int .i64 0,.int .i64 0,.int .i64 0,.int .i64 0,.int .i64 0,.int .i64 0,.int .i64 0,.bool false] 34 .fix:=by rw[h1d];exact b8 (h.new _) _
 cases m with
 |false=>
  simp(maxSteps:=1000000) (disch:=omega)only[c30,↓R30,<-h1d,g1,g2,m31,m15,m7,m3,hl,hw,hb,hs,hc,hr,hd,ht,n0,tm,u5,↓j0,l0,zA,zB,zC,zD,zE,zF,zG,zH,zI,reduceCtorEq,zJ,zK,zL,zM]
  exact hQ _ ⟨by simp only[l6,f4];omega,fun z hz=>by rw[a6 _ _ (by omega),a6 _ _ (by omega),a6 _ _ (by omega),b7 _ _ (by omega),o1.obj z hz]⟩
 |true=>
  simp(maxSteps:=1000000) (disch:=omega)only[c30,↓R30,<-h1d,g1,g2,m31,m15,m7,m3,hl,hw,hb,hs,hc,hr,hd,ht,n0,tm,u5,↓j0,l0,zA,zB,zC,zD,zE,zF,zG,zH,zI,reduceCtorEq,zJ,zK,zL,zM]
  exact hQ _ ⟨by simp only[l6,f4];omega,fun z hz=>by rw[a6 _ _ (by omega),a6 _ _ (by omega),a6 _ _ (by omega),b7 _ _ (by omega),o1.obj z hz]⟩
abbrev a5g:=Int×Int×ByteArray×Bool
abbrev b8i:Enc a5g:=Enc.pair (Enc.int .i64) (Enc.pair (Enc.int .i64) (Enc.pair Enc.str Enc.bool))
def a6z(l:List a5g):Prop:=l.length<=150/\∀c∈l,c.2.2.1.size<=64
instance (l:List a5g):Decidable (a6z l):=by unfold a6z;infer_instance
theorem c9U(h:Heap)(v:Value)(l:List a5g)(hs:Lst h b8i v l)(hz:∀c∈l,c.2.2.1.size<=maxLen){Q:Value->Heap->Prop}
  (hQ:∀h',Old h h' ->Q (.bool (decide (a6z l))) h'):r8 cp 12 [v] h Q:=by
 rw[a8 cp e8w]
 obtain⟨a,cap,rfl,hrd⟩:=hs
 have no:¬a6z l->∀h',Old h h' ->Q (.bool false) h' :=fun hn h' o=>by
  have:=hQ h' o
  rwa [decide_eq_false hn]at this
 by_cases c1:(l.length:Int)>150
 ·have b1:=decide_eq_true c1
  simp(disch:=omega)only[c12,↓R12,b1,↓j0,l0,zA,zB,zC,zD,zE,zF,zG,zH,zI,reduceCtorEq,zJ,zK,zL,zM]
  exact no (fun q=>by have:=q.1;omega) _ (Old.refl h)
 have b1:=decide_eq_false c1
 simp(disch:=omega)only[c12,↓R12,b1,↓j0,l0,zA,zB,zC,zD,zE,zF,zG,zH,zI,reduceCtorEq,zJ,zK,zL,zM]
 refine y6 cp a4C _ (fun d e hh=>∃j:Nat,j+d=l.length/\Old h hh/\(∀c∈l.take j,c.2.2.1.size<=64)/\e 8=.slice a l.length cap/\e 9=.int .i64 l.length/\e 10=.int .i64 j) ?_ l.length _ _
  ⟨0,by omega,Old.refl _,fun c hc=>by simp at hc,rfl,rfl,rfl⟩
 rintro d e hh ⟨j,hj,o,hk,e8,e9,e10⟩
 have on:=o.next
 by_cases cj:j<l.length
 rotate_left
 ·have b2:decide ((j:Int)<(l.length:Int))=false:=decide_eq_false (by omega)
  obtain rfl:j=l.length:=by omega
  rw[List.take_length]at hk
  simp(disch:=omega)only[a4C,c12,↓R12,e8,e9,e10,b2,↓j0,l0,zA,zB,zC,zD,zE,zF,zG,zH,zI,reduceCtorEq,zJ,zK,zL,zM]
  have:=hQ hh o
  rwa [decide_eq_true ⟨by omega,hk⟩]at this
 have b2:decide ((j:Int)<(l.length:Int))=true:=decide_eq_true (by omega)
 have nx:(j:Int)+1=((j+1:Nat):Int):=by omega
 have hx:l[j]? =some l[j]:=yF cj
 obtain⟨x,hxd⟩:∃x,x=l[j]:=⟨_,rfl⟩
 rw[<-hxd]at hx
 have tk:=H6 hx
 obtain⟨b,of,rfl,hb,hr⟩:=hrd j x hx
 rw[<-o.obj b hb]at hr
 have hmem:=yK hx
 have hsz:=hz x hmem
 obtain⟨g,co,key,pk⟩:=x
 have hr:(hh.obj b).read (of+j*4) 4=some [.int .i64 g,.int .i64 co,.string key,.bool pk]:=hr
 simp only at hsz
 have oo:Old h ((hh.new (.cells [.int .i64 0,.int .i64 0,.string ⟨#[]⟩,.bool false] 48 .fix)).upd hh.next (.cells [.int .i64 g,.int .i64 co,.string key,.bool pk] 48 .fix)):=o.put _ _
 by_cases c2:(key.size:Int)>64
 ·have b3:=decide_eq_true c2
  simp(disch:=omega)only[a4C,c12,↓R12,e8,e9,e10,b2,hr,b3,↓j0,l0,zA,zB,zC,zD,zE,zF,zG,zH,zI,reduceCtorEq,zJ,zK,zL,zM]
  exact no (fun q=>by have:=q.2 _ hmem;simp only at this;omega) _ oo
 have b3:=decide_eq_false c2
 simp(disch:=omega)only[a4C,c12,↓R12,e8,e9,e10,b2,hr,b3,nx,↓j0,l0,zA,zB,zC,zD,zE,zF,zG,zH,zI,reduceCtorEq,zJ,zK,zL,zM]
 refine⟨d-1,by omega,j+1,by omega,oo,?_,?_⟩
 ·rw[tk]
  intro c hc
  rcases List.mem_append.1 hc with hc|hc
  ·exact hk c hc
  ·rw[List.mem_singleton.1 hc];show key.size<=64;omega
 ·repeat' first|assumption|rfl|apply And.intro
def a0A(l:List D2):List RuleV:=if l=[]then[H9 (0,0,0,0,0,0,0,0,false)]else(l.take 3).map H9
theorem c5x(l:List D2):(∀r∈a0A l,r.OK)/\1<=(a0A l).length/\(a0A l).length<=3:=by
 unfold a0A
 split
 ·refine⟨fun r hr=>?_,by simp,by simp⟩
  rw[List.mem_singleton.1 hr];exact b3W _
 ·rename_i h
  have:0<l.length:=List.length_pos_iff.2 h
  refine⟨fun r hr=>?_,by simp;omega,by simp;omega⟩
  obtain⟨p,_,rfl⟩:=List.mem_map.1 hr
  exact b3W p
theorem RuleV.OK.t{r:RuleV}(ok:r.OK):D2.OK r.t/\r.t.T<=8/\D2.by_ r.t<=30000/\0<=D2.by_ r.t:=by
 have h1:=ok.L
 have h2:=ok.Wd
 have h3:=ok.B
 have h4:=ok.S
 have h5:=ok.C
 have h6:=ok.R
 have h7:=ok.W
 have h8:=ok.T
 have cr:=a3a r.Wd (r.L+1-r.B) (by omega) (by omega)
 have p0:r.B*Q6 r.Wd (r.L+1-r.B)<=32*256:=Int.mul_le_mul (by omega) (by omega) (by omega) (by omega)
 have q0:(0:Int)<=(r.R:Int)*(r.W:Int):=yO (by omega) (by omega)
 have q1:(r.R:Int)*(r.W:Int)<=4*16:=Int.mul_le_mul (by omega) (by omega) (by omega) (by omega)
 have q2:((r.S:Int)+1)*(16+8*((r.R:Int)*(r.W:Int)))<=9*528:=Int.mul_le_mul (by omega) (by omega) (by omega) (by omega)
 have q3:0<=((r.S:Int)+1)*(16+8*((r.R:Int)*(r.W:Int))):=yO (by omega) (by omega)
 refine⟨⟨by show 1<=r.L/\r.L<=_;omega,by show 1<=r.Wd/\r.Wd<=_;omega,h3,by show 1<=(r.S:Int)/\(r.S:Int)<=64;omega,ok.Sd,by show 1<=(r.C:Int)/\(r.C:Int)<=1024;omega,by show 1<=(r.R:Int)/\(r.R:Int)<=8;omega,by show 1<=(r.W:Int)/\(r.W:Int)<=4096;omega,by show 1<=(r.T:Int)/\(r.T:Int)<=64;omega,fun h=>?_,?_⟩,?_,?_,?_⟩
 ·have:=ok.sm h
  show 2<=(r.S:Int);omega
 ·show r.B*Q6 r.Wd (r.L+1-r.B)<=_
  omega
 ·show(r.T:Int)<=8;omega
 ·show D9 r.S r.C r.R r.W r.T<=_
  unfold D9;omega
 ·show 0<=D9 r.S r.C r.R r.W r.T
  unfold D9;omega
theorem a4X:∀(l:List RuleV),(∀r∈l,r.OK)->0<=Q5 (l.map RuleV.t)/\Q5 (l.map RuleV.t)<=30000*l.length
 | [],_=>by simp[Q5]
 |r::l,h=>by
  have:=(h r List.mem_cons_self).t
  have:=a4X l fun r hr=>h r (List.mem_cons_of_mem _ hr)
  simp only[List.map_cons,Q5,yM]
  omega
theorem d4V(l:List RuleV)(h:∀r∈l,r.OK)(hl:1<=l.length/\l.length<=3)(k:Int)(hk:0<=k/\k<=255):a2e 4294967296 (3:Nat) ((660+k).toNat:Nat) (l.map RuleV.t):=by
 have:=a4X l h
 rw[show(((660+k).toNat:Nat):Int)=660+k by omega]
 refine⟨by decide,by rw[yL];omega,by decide,by omega,fun r hr=>?_,by show(3:Int)*(660+k)+_<=_;omega⟩
 obtain⟨x,hx,rfl⟩:=List.mem_map.1 hr
 have:=(h x hx).t
 exact⟨this.1,by omega⟩
theorem c5v(h:Heap)(v:Value)(l:List D2)(hs:Lst h RE v l)(hl:l.length<=9223372036854775807)(out:Int){Q:Value->Heap->Prop}
  (hQ:∀h' v' b,Old h h' ->F1 h' 34 RE v' ((a0A l).map RuleV.t) b->h.next<=b->Q (.agg #[.int .i64 4294967296,.int .i64 3,.int .i64 (660+out % 256),v']) h'):
  r8 cp 13 [v,.int .i64 out] h Q:=by
 rw[a8 cp e6B]
 obtain⟨a,cap,rfl,hrd⟩:=hs
 have m8:IntKind.i64.wrap ((BitVec.ofInt IntKind.i64.bits out &&& BitVec.ofInt IntKind.i64.bits 255).toNat:Int)=out % 256:=O8 8 (by decide) out 255 (by decide)
 obtain⟨ou,hou⟩:∃ou,ou=660+out % 256:=⟨_,rfl⟩
 have oub:660<=ou/\ou<=915:=by omega
 rw[<-hou]at hQ
 obtain⟨c0,hc0⟩:∃c0:Value->List Value,c0=fun v=>[.int .i64 4294967296,.int .i64 3,.int .i64 ou,v]:=⟨_,rfl⟩
 obtain⟨h1,h1d⟩:∃h1,h1=((h.new (.cells [.int .i64 0,.int .i64 0,.int .i64 0,.slice none 0 0] 30 .fix)).new (.cells [.int .i64 0,.int .i64 0,.int .i64 0,.slice none 0 0] 30 .fix)).upd (h.next+1) (.cells [.int .i64 4294967296,.int .i64 3,.int .i64 (660+out % 256),.slice none 0 0] 30 .fix):=⟨_,rfl⟩
 have o1:Old h h1:=by rw[h1d];exact⟨by simp only[l6,f4];omega,fun z hz=>by rw[a6 _ _ (by omega),b7 _ _ (by simp only[f4];omega),b7 _ _ (by omega)]⟩
 have n1:h1.next=h.next+1+1:=by rw[h1d];rfl
 have g1:h1.obj h.next=.cells [.int .i64 0,.int .i64 0,.int .i64 0,.slice none 0 0] 30 .fix:=by rw[h1d,a6 _ _ (by omega),b7 _ _ (by simp only[f4];omega)];exact b8 _ _
 have g2:h1.obj (h.next+1)=.cells [.int .i64 4294967296,.int .i64 3,.int .i64 ou,.slice none 0 0] 30 .fix:=by rw[h1d,hou];exact a9 _ _ _
 simp(disch:=first|omega| (simp only[f4,l6,ne_eq];omega))only[c13,↓R13,m8,u5,<-h1d,↓j0,l0,zA,zB,zC,zD,zE,zF,zG,zH,zI,reduceCtorEq,zJ,zK,zL,zM]
 have fin:∀(hh:Heap) (v' :Value) (b:Nat) (ll:List RuleV),ll=a0A l->Old h hh->h.next+1<hh.next->h.next+1<b->hh.obj h.next=.cells [.int .i64 0,.int .i64 0,.int .i64 0,.slice none 0 0] 30 .fix->hh.obj (h.next+1)=.cells [.int .i64 4294967296,.int .i64 3,.int .i64 ou,v'] 30 .fix->
   F1 hh 34 RE v' (ll.map RuleV.t) b->Q (.agg #[.int .i64 4294967296,.int .i64 3,.int .i64 ou,v']) (hh.upd h.next (.cells [.int .i64 4294967296,.int .i64 3,.int .i64 ou,v'] 30 .fix)):=fun hh v' b ll e o hn hb k1 k2 V=>by
  subst e
  exact hQ _ _ b ⟨o.next,fun z hz=>by rw[a6 _ _ (by omega)];exact o.obj z hz⟩ (V.keep (yP _) fun _=>a6 _ _ (by omega)) (by omega)
 refine y6 cp a2T _ (fun d e hh=>∃(j b:Nat) (v' :Value),j+d=l.length/\Old h hh/\h.next+1<hh.next/\h.next+1<b/\hh.obj h.next=.cells [.int .i64 0,.int .i64 0,.int .i64 0,.slice none 0 0] 30 .fix/\hh.obj (h.next+1)=.cells [.int .i64 4294967296,.int .i64 3,.int .i64 ou,v'] 30 .fix/\
   F1 hh 34 RE v' ((((l.take j).take 3).map H9).map RuleV.t) b/\e 4=.pointer (some ⟨h.next,0,none⟩)/\e 5=.pointer (some ⟨h.next+1,0,none⟩)/\e 12=.slice a l.length cap/\e 13=.int .i64 l.length/\e 14=.int .i64 j) ?_ l.length _ _
  ⟨0,h.next+2,.slice none 0 0,by omega,o1,by omega,by omega,g1,g2,F1.nil _ _ _ _,rfl,rfl,rfl,rfl,rfl⟩
 rintro d e hh ⟨j,b,v',hj,o,hn,hb,k1,k2,V,e4,e5,e12,e13,e14⟩
 have on:=o.next
 by_cases cj:j<l.length
 ·have b2:decide ((j:Int)<(l.length:Int))=true:=decide_eq_true (by omega)
  have nx:(j:Int)+1=((j+1:Nat):Int):=by omega
  have hx:l[j]? =some l[j]:=yF cj
  obtain⟨x,hxd⟩:∃x,x=l[j]:=⟨_,rfl⟩
  rw[<-hxd]at hx
  have tk:=H6 hx
  obtain⟨bx,of,rfl,hbx,hr⟩:=hrd j x hx
  rw[<-o.obj bx hbx]at hr
  obtain⟨xl,xw,xb,xs,xc,xr,xd,xt,xm⟩:=x
  have hr:(hh.obj bx).read (of+j*9) 9=some [.int .i64 xl,.int .i64 xw,.int .i64 xb,.int .i64 xs,.int .i64 xc,.int .i64 xr,.int .i64 xd,.int .i64 xt,.bool xm]:=hr
  obtain⟨h2,h2d,o2,n2,q2⟩:=Z1 hh (.cells [.int .i64 0,.int .i64 0,.int .i64 0,.int .i64 0,.int .i64 0,.int .i64 0,.int .i64 0,.int .i64 0,.bool false] 23 .fix) (.cells [.int .i64 xl,.int .i64 xw,.int .i64 xb,.int .i64 xs,.int .i64 xc,.int .i64 xr,.int .i64 xd,.int .i64 xt,.bool xm] 23 .fix)
  have k1' :=(o2.obj h.next (by omega)).trans k1
  have k2' :=(o2.obj (h.next+1) (by omega)).trans k2
  by_cases c3:j<3
  rotate_left
  ·have b3:decide ((j:Int)<3)=false:=decide_eq_false (by omega)
   simp(disch:=omega)only[a2T,c13,↓R13,e4,e5,e12,e13,e14,b2,b3,hr,<-h2d,nx,↓j0,l0,zA,zB,zC,zD,zE,zF,zG,zH,zI,reduceCtorEq,zJ,zK,zL,zM]
   refine⟨d-1,by omega,j+1,b,v',by omega,o.trans o2,by omega,hb,k1',k2',?_,?_⟩
   ·rw[List.take_take,show min 3 (j+1)=3 by omega]
    rw[List.take_take,show min 3 j=3 by omega]at V
    exact V.old o2
   ·repeat' first|assumption|rfl|apply And.intro
  have b3:decide ((j:Int)<3)=true:=decide_eq_true (by omega)
  simp(disch:=omega)only[a2T,c13,↓R13,e4,e5,e12,e13,e14,b2,b3,hr,<-h2d,q2,k1',k2',nx,↓j0,l0,zA,zB,zC,zD,zE,zF,zG,zH,zI,reduceCtorEq,zJ,zK,zL,zM]
  refine a3H h2 (xl,xw,xb,xs,xc,xr,xd,xt,xm) fun h3 o3=>?_
  have n3:=o3.next
  have k13:=(o3.obj h.next (by omega)).trans k1'
  have k23:=(o3.obj (h.next+1) (by omega)).trans k2'
  obtain⟨R,hR⟩:∃R,R=H9 (xl,xw,xb,xs,xc,xr,xd,xt,xm):=⟨_,rfl⟩
  rw[<-hR]
  have tl:(R.c.toArray).toList=R.c:=rfl
  have sc:R.c.all C7=true:=rfl
  have ln:R.c.length=9:=rfl
  have st:setAt [.int .i64 0,.int .i64 0,.int .i64 0,.int .i64 0,.int .i64 0,.int .i64 0,.int .i64 0,.int .i64 0,.bool false] 0 R.c=RE.all [R.t]:=rfl
  have V3:=(V.old (o2.trans o3)).keep (h' :=h3.new (.cells (RE.all [R.t]) 34 .grow)) (Nat.le_succ _) fun hl=>b7 _ _ (by omega)
  have ll3:((((l.take j).take 3).map H9).map RuleV.t).length<=3:=by simp only[yL,List.length_take];omega
  simp(disch:=omega)only[c13,↓R13,k13,k23,u5,tl,sc,ln,st,F8,List.append_nil,↓j0,l0,zA,zB,zC,zD,zE,zF,zG,zH,zI,reduceCtorEq,zJ,zK,zL,zM]
  refine V3.app (m:=[R.t]) (bytes:=72) rfl (W8 RE h3 R.t 34 1) (by simp only[yM,List.length_nil];omega) (by simp only[yM,List.length_nil];omega) fun v4 h4 b4 V4 n4 hb4 o4=>?_
  have n4' :h3.next+1<=h4.next:=n4
  obtain⟨va4,vc4,hv4,_⟩:=V4.val
  obtain⟨ln4,hln4⟩:∃n,n=(((((l.take j).take 3).map H9).map RuleV.t)++[R.t]).length:=⟨_,rfl⟩
  rw[<-hln4]at hv4
  subst hv4
  have keep4:∀z,z<h3.next->z≠b->h4.obj z=h3.obj z:=fun z hz hne=>by rw[o4 z (by show z<h3.next+1;omega) (.inr hne),b7 _ _ (by omega)]
  have k14:=(keep4 h.next (by omega) (by omega)).trans k13
  have k24:=(keep4 (h.next+1) (by omega) (by omega)).trans k23
  have b4g:h.next+1<b4:=by
   rcases hb4 with rfl|hb4
   ·exact hb
   ·have:h3.next+1<=b4:=hb4
    omega
  simp(disch:=omega)only[c13,↓R13,e4,e5,e12,e13,e14,k24,nx,↓j0,l0,zA,zB,zC,zD,zE,zF,zG,zH,zI,reduceCtorEq,zJ,zK,zL,zM]
  refine⟨d-1,by omega,j+1,b4,.slice va4 ln4 vc4,by omega,⟨by show h.next<=h4.next;omega,fun z hz=>?_⟩,by show h.next+1<h4.next;omega,b4g,?_,by first|exact a9 _ _ _|rfl,?_,?_⟩
  ·rw[a6 _ _ (by omega),keep4 z (by omega) (by omega),o3.obj z (by omega),o2.obj z (by omega),o.obj z hz]
  ·first|exact k14| (rw[a6 _ _ (by omega)];exact k14)
  ·have e1:(((l.take (j+1)).take 3).map H9).map RuleV.t=(((l.take j).take 3).map H9).map RuleV.t++[R.t]:=by
    rw[List.take_take,show min 3 (j+1)=j+1 by omega,List.take_take,show min 3 j=j by omega,tk,hR]
    simp
   rw[e1]
   exact V4.keep (yP _) fun _=>a6 _ _ (by omega)
  ·repeat' first|assumption|rfl|apply And.intro
 have b2:decide ((j:Int)<(l.length:Int))=false:=decide_eq_false (by omega)
 obtain rfl:j=l.length:=by omega
 rw[List.take_length]at V
 by_cases c0:l=[]
 rotate_left
 ·have lp:=List.length_pos_iff.2 c0
  obtain⟨va,vc,rfl,_⟩:=V.val
  have lz:((l.take 3).length:Int)≠0:=by simp only[List.length_take];omega
  have b3:(((l.take 3).length:Int)==0)=false:=beq_eq_false_iff_ne.2 lz
  simp(disch:=omega)only[a2T,c13,↓R13,e4,e5,e12,e13,e14,b2,b3,k1,k2,↓j0,l0,zA,zB,zC,zD,zE,zF,zG,zH,zI,reduceCtorEq,zJ,zK,zL,zM]
  rw[yL,yL]at k2 V
  refine fin hh _ b _ ?_ o hn hb k1 k2 V
  unfold a0A;rw[if_neg c0]
 ·subst c0
  obtain⟨va,vc,rfl,_⟩:=V.val
  have b2:decide (((0:Nat):Int)<((0:Nat):Int))=false:=by decide
  have b3:(((([]:List D2).take 3).length:Int)==0)=true:=rfl
  have b4:(((0:Nat):Int)==0)=true:=rfl
  simp(disch:=omega)only[a2T,c13,↓R13,e4,e5,e12,e13,e14,b2,b3,b4,k1,k2,u5,↓j0,l0,zA,zB,zC,zD,zE,zF,zG,zH,zI,reduceCtorEq,zJ,zK,zL,zM]
  refine a3H hh (0,0,0,0,0,0,0,0,false) fun h3 o3=>?_
  have n3:=o3.next
  have k13:=(o3.obj h.next (by omega)).trans k1
  have k23:=(o3.obj (h.next+1) (by omega)).trans k2
  obtain⟨R,hR⟩:∃R,R=H9 (0,0,0,0,0,0,0,0,false):=⟨_,rfl⟩
  rw[<-hR]
  have tl:(R.c.toArray).toList=R.c:=rfl
  have sc:R.c.all C7=true:=rfl
  have ln:R.c.length=9:=rfl
  have st:setAt [.int .i64 0,.int .i64 0,.int .i64 0,.int .i64 0,.int .i64 0,.int .i64 0,.int .i64 0,.int .i64 0,.bool false] 0 R.c=RE.all [R.t]:=rfl
  have V3:=(V.old o3).keep (h' :=h3.new (.cells (RE.all [R.t]) 34 .grow)) (Nat.le_succ _) fun hl=>b7 _ _ (by omega)
  simp(disch:=omega)only[c13,↓R13,k13,k23,u5,tl,sc,ln,st,F8,List.append_nil,↓j0,l0,zA,zB,zC,zD,zE,zF,zG,zH,zI,reduceCtorEq,zJ,zK,zL,zM]
  refine V3.app (m:=[R.t]) (bytes:=72) rfl (W8 RE h3 R.t 34 1) (by simp) (by simp) fun v4 h4 b4 V4 n4 hb4 o4=>?_
  have n4' :h3.next+1<=h4.next:=n4
  obtain⟨va4,vc4,hv4,_⟩:=V4.val
  obtain⟨ln4,hln4⟩:∃n,n=((((([]:List D2).take 3).map H9).map RuleV.t)++[R.t]).length:=⟨_,rfl⟩
  rw[<-hln4]at hv4
  subst hv4
  have keep4:∀z,z<h3.next->z≠b->h4.obj z=h3.obj z:=fun z hz hne=>by rw[o4 z (by show z<h3.next+1;omega) (.inr hne),b7 _ _ (by omega)]
  have k14:=(keep4 h.next (by omega) (by omega)).trans k13
  have k24:=(keep4 (h.next+1) (by omega) (by omega)).trans k23
  have b4g:h.next+1<b4:=by
   rcases hb4 with rfl|hb4
   ·exact hb
   ·have:h3.next+1<=b4:=hb4
    omega
  obtain⟨h5,h5d⟩:∃h5,h5=h4.upd (h.next+1) (.cells [.int .i64 4294967296,.int .i64 3,.int .i64 ou,(.slice va4 ln4 vc4)] 30 .fix):=⟨_,rfl⟩
  have n5:h5.next=h4.next:=by rw[h5d];rfl
  have k25:h5.obj (h.next+1)=.cells [.int .i64 4294967296,.int .i64 3,.int .i64 ou,(.slice va4 ln4 vc4)] 30 .fix:=by rw[h5d];exact a9 _ _ _
  have k15:h5.obj h.next=.cells [.int .i64 0,.int .i64 0,.int .i64 0,.slice none 0 0] 30 .fix:=by rw[h5d,a6 _ _ (by omega)];exact k14
  simp(disch:=omega)only[c13,↓R13,e4,e5,e12,e13,e14,k24,<-h5d,k25,k15,↓j0,l0,zA,zB,zC,zD,zE,zF,zG,zH,zI,reduceCtorEq,zJ,zK,zL,zM]
  refine fin h5 (.slice va4 ln4 vc4) b4 [R] (by rw[hR];rfl) ⟨by omega,fun z hz=>?_⟩ (by omega) b4g k15 k25 ?_
  ·rw[h5d,a6 _ _ (by omega),keep4 z (by omega) (by omega),o3.obj z (by omega),o.obj z hz]
  ·exact V4.keep (by omega) fun _=>by rw[h5d];exact a6 _ _ (by omega)
theorem b4N{h:Heap}{a:SrvA}{v:SrvV}{ev:Value}{ex:Option Nat}(S:SrvAt h a v ev ex){i:Nat}{L:LA}(hL:a.las[i]? =some L)(Q:Value->Heap->Prop):
  r8 cp 27 [.pointer (some ⟨a.s,0,none⟩),.int .i64 i] h Q↔Q (.pointer (some ⟨L.p,0,none⟩)) h:=by
 refine p6 ?_ Q
 rw[a8 cp e7S]
 have os:=S.os
 obtain⟨cap,hv,hrb,hgp⟩:=S.W.get (i:=i) (p:=L.p) (by rw[yJ,hL];rfl)
 have hgp:(h.obj a.rb).get i=some (.pointer (some ⟨L.p,0,none⟩)):=hgp
 have hi:=(List.getElem?_eq_some_iff.1 hL).1
 rw[yL]at hv
 rw[hv]at os
 have b1:decide ((i:Int)<0)=false:=decide_eq_false (by omega)
 have b2:decide ((i:Int)>=(a.las.length:Int))=false:=decide_eq_false (by omega)
 simp(disch:=omega)only[c27,↓R27,D3,os,b1,b2,hgp,yS,↓j0,l0,zA,zB,zC,zD,zE,zF,zG,zH,zI,reduceCtorEq,zJ,zK,zL,zM]
theorem b4z{q:ReqV}{rule cost:Int}{kl:List Int}(hk:H7 kl)(hq:q=⟨1,rule,cost,kl,0⟩):H7 (D5 q):=by
 subst hq
 show H7 (M0 167 ([1 % 256,rule % 256]++(R7 4 cost++[(kl.length:Int) % 256]++kl)))
 have h0:H7 [(1:Int) % 256,rule % 256]:=fun x hx=>by simp at hx;omega
 have h1:H7 [(kl.length:Int) % 256]:=fun x hx=>by simp at hx;omega
 have h2:∀l:List Int,H7 l->H7 (M0 167 l):=fun l hl=>by
  have:H7 [(167:Int),1,(l.length:Int) / 256 % 256,(l.length:Int) % 256]:=fun x hx=>by simp at hx;omega
  exact this.app hl
 exact h2 _ (h0.app (((a2C 4 cost).app h1).app hk))
def c6e(x:Int):Int:=if x % 2=1 then x / 2 % 1024 else x / 2 % 16
theorem d8e(x:Int):0<=c6e x/\c6e x<=1023:=by unfold c6e;split<;>omega
theorem d0F(h:Heap)(x:Int)(hx:C2 x)(Q:Value->Heap->Prop):r8 cp 16 [.int .i64 x] h Q↔Q (.int .i64 (c6e x)) h:=by
 refine p6 ?_ Q
 rw[a8 cp e8A]
 have s1:=fun x:Int=>a1B .i64 x 1 (by decide)
 have m1:=O8 1 (by decide) x 1 (by decide)
 have m12:=O8 10 (by decide) (x / 2) 1023 (by decide)
 have m4:=O8 4 (by decide) (x / 2) 15 (by decide)
 have p1:(2:Int) ^ 1=2:=by decide
 have p4:(2:Int) ^ 4=16:=by decide
 have p12:(2:Int) ^ 10=1024:=by decide
 unfold C2 at hx
 unfold c6e
 by_cases c:x % 2=1
 ·have a1:(x % 2==1)=true:=by rw[c];rfl
  rw[if_pos c]
  simp(disch:=omega)only[c16,↓R16,s1,m1,m12,m4,p1,p4,p12,a1,↓j0,l0,zA,zB,zC,zD,zE,zF,zG,zH,zI,reduceCtorEq,zJ,zK,zL,zM]
 ·have a1:(x % 2==1)=false:=beq_eq_false_iff_ne.2 c
  rw[if_neg c]
  simp(disch:=omega)only[c16,↓R16,s1,m1,m12,m4,p1,p4,p12,a1,↓j0,l0,zA,zB,zC,zD,zE,zF,zG,zH,zI,reduceCtorEq,zJ,zK,zL,zM]
theorem e8h{x:Int}(h:(Lit.int .i64 x).wf=true):C2 x:=by have:=e0e h;unfold C2 at*;omega
section
variable {h h' :Heap} {a:SrvA} {w:SW} {q:Qs}
theorem b4C(S:SI h a w q){k:Nat}{l:List Int}(hq:q k=some l){rq:ReqV}(rc:ReqC a.las.length rq){rule cost:Int}{kl:List Int}(ho:rq=⟨1,rule,cost,kl,0⟩)(hk:w.k+1<=1000000000)(hou:l.length+22<=a.ou)(t n:Int)(ht:t<=1000000000)
  {x:Value} {b:Nat} (V:F1 h 5 B8 x (D5 rq) b) (hb:¬a.own none b) {R:(SW×List EvT)×List Int} (hR:R=N9 a.las (w.rd t,[]) rq) {Q:Value->Heap->Prop}
  (hQ:∀h' evv eb,OldF (a.own none) h h' ->SI h' a R.1.1 (q.set k (l++R.2))->F1 h' 123 EvE evv R.1.2 eb/\(R.1.2=[]/\evv=.slice none 0 0\/h.next<=eb)->Q (.agg #[.int .i64 0,.int .i64 (D5 rq).length,J3,evv]) h'):
  r8 cp 15 [.pointer (some ⟨a.s,0,none⟩),.agg #[.int .i64 2,.int .i64 t,.int .i64 k,x,.int .i64 n,.slice none 0 0]] h Q:=by
 have rb:=rc.byt
 rw[ho]at rb
 refine e0u S hq rc (by rw[ho]) hk hou t n ht x V.bys (b4z rb ho) (fun z o cap e hz=>?_) hR hQ
 have:z=b:=V.blk e
 exact hb (this▸hz)
theorem SI.old'{F:Nat->Prop}{h0:Heap}(o:Old h0 h)(k:OldF F h h')(hF:∀z,F z->h0.next<=z):Old h0 h' :=⟨yR o.next k.next,fun z hz=>by rw[k.obj z (yN hz o.next) (fun hz' =>by have:=hF z hz';omega),o.obj z hz]⟩
theorem SI.geo(S:SI h a w q){i:Nat}{L:LA}{x:LV}(hL:a.las[i]? =some L)(hx:w.ls[i]? =some x):x.P.OK L.R.C/\L.R.OK/\1<=L.rp.W/\L.rp.N<=65:=by
 obtain⟨cs,⟨v,S,r,sb⟩,_⟩:=S
 have hi:=(List.getElem?_eq_some_iff.1 hL).1
 obtain⟨l,hl⟩:∃l,v.ls[i]? =some l:=⟨_,yF (by rw[S.ll];exact hi)⟩
 have M:=r.rel i L l x hL hl hx _ (S.L i L l hL hl)
 obtain⟨g1,g2⟩:=RP.geo M.geo
 have:=M.P.ok
 rw[M.geo.pn]at this
 exact⟨this,M.geo.ok,g1,g2⟩
theorem SI.k(S:SI h a w q):0<=w.k:=by
 obtain⟨cs,⟨v,S,r,sb⟩,_⟩:=S
 exact sb.k.1
theorem SI.now(S:SI h a w q):0<=w.now/\w.now<=1000000000:=by
 obtain⟨cs,⟨v,S,r,sb⟩,_⟩:=S
 exact sb.now
end
def RP.at_(r:RP)(x sb tb:Nat)(ps nbs:Nat->Nat)(rv:Value)(rb:Nat):RP:=⟨x,sb,tb,ps,nbs,rv,rb,r.rows,r.N,r.w,r.W,r.L,r.part⟩
theorem RP.same{r s:RP}(h1:r.rows=s.rows)(h2:r.N=s.N)(h3:r.w=s.w)(h4:r.W=s.W)(h5:r.L=s.L)(h6:r.part=s.part):s=r.at_ s.x s.sb s.tb s.ps s.nbs s.rv s.rb:=by
 unfold RP.at_
 rw[h1,h2,h3,h4,h5,h6]
section
variable (r:RP) (x sb tb:Nat) (ps nbs:Nat->Nat) (rv:Value) (rb:Nat)
theorem a4Q(st:List Int)(cs:Nat->List Int)(key:ByteArray)(n:Int)(into:Nat):∀m,H0 (r.at_ x sb tb ps nbs rv rb) st cs key n into m=H0 r st cs key n into m
 |0=>rfl
 |m+1=>by
  have ih:=a4Q st cs key n into m
  simp only[H0,ih]
  rfl
theorem c4T:a1X (r.at_ x sb tb ps nbs rv rb)=a1X r:=by
 funext now st cs key
 exact a4Q r x sb tb ps nbs rv rb _ _ _ _ _ _
theorem b1z(st:List Int)(cs:Nat->List Int)(key:ByteArray)(cost n:Int):∀d k,a1L (r.at_ x sb tb ps nbs rv rb) st cs key cost n d k=a1L r st cs key cost n d k
 |0,k=>rfl
 |d+1,k=>by
  have ih:=b1z st cs key cost n d (k+1)
  simp only[a1L,ih,a4Q]
  rfl
theorem d0O:a1O (r.at_ x sb tb ps nbs rv rb)=a1O r:=by
 funext now st cs key cost
 unfold a1O
 rw[c4T,b1z]
 rfl
theorem b5I:Z5 (r.at_ x sb tb ps nbs rv rb)=Z5 r:=by
 funext g key
 unfold Z5
 rw[c4T]
theorem b7H:X6 (r.at_ x sb tb ps nbs rv rb)=X6 r:=rfl
theorem c8T(R:RuleV):G0 R (r.at_ x sb tb ps nbs rv rb)=G0 R r:=by
 funext v now key
 unfold G0
 rw[b5I,b7H]
theorem c6Z(R:RuleV):B6 R (r.at_ x sb tb ps nbs rv rb)=B6 R r:=by
 funext v now held key cost
 unfold B6
 rw[c8T,b5I,b7H,d0O]
end
theorem b3f{r s:RP}(h1:r.rows=s.rows)(h2:r.N=s.N)(h3:r.w=s.w)(h4:r.W=s.W)(h5:r.L=s.L)(h6:r.part=s.part)(R:RuleV):B6 R s=B6 R r:=by
 rw[RP.same h1 h2 h3 h4 h5 h6]
 exact c6Z _ _ _ _ _ _ _ _ _
def b6q(l m:LA):Prop:=l.R=m.R/\B6 l.R l.rp=B6 m.R m.rp
theorem b6q.of{h h' :Heap}{l m:LA}{v w:LimV}(A:LimAt h l v)(B:LimAt h' m w)(hR:l.R=m.R)(hr:l.rp.rows=m.rp.rows):b6q l m:=by
 refine⟨hR,?_⟩
 rw[<-hR]
 refine(b3f hr ?_ ?_ ?_ ?_ ?_ _).symm
 ·rw[A.gN,B.gN,hR]
 ·rw[A.gw,B.gw,hR]
 ·rw[A.gW,B.gW,hR]
 ·rw[A.gL,B.gL,hR]
 ·rw[A.gs,B.gs,hR]
def e1N(la lb:List LA):Prop:=la.length=lb.length/\∀(i:Nat) (l m:LA),la[i]? =some l->lb[i]? =some m->b6q l m
theorem e1v(w:SW)(t:Int):(w.rd t).rd t=w.rd t:=by
 unfold SW.rd
 simp only[if_true]
 congr 1
 omega
theorem a9U(las:List LA)(w:SW)(t:Int)(evs:List EvT)(q:ReqV):((N9 las (w.rd t,evs) q).1.1).rd t=(N9 las (w.rd t,evs) q).1.1:=by
 have e:=e1v w t
 unfold N9
 cases las[q.rule.toNat]? with
 |none=>exact e
 |some L=>
  cases h:(w.rd t).ls[q.rule.toNat]? with
  |none=>simp only[h];exact e
  |some v=>
   simp only[h]
   unfold SW.rd at e ⊢
   simp only[SW.mk.injEq,if_true]at e ⊢
   exact⟨e.1,trivial,trivial,trivial,trivial,trivial,trivial⟩
theorem d0S(las:List LA)(st:SW×List EvT)(q:ReqV):(N9 las st q).1.1.now=st.1.now/\(N9 las st q).1.1.again=st.1.again/\(N9 las st q).1.1.k<=st.1.k+1/\(N9 las st q).1.1.ls.length=st.1.ls.length/\(N9 las st q).2.length<=22:=by
 unfold N9
 cases las[q.rule.toNat]? with
 |none=>exact⟨rfl,rfl,by simp only;omega,rfl,by simp only[List.length_nil];omega⟩
 |some L=>
  cases h:st.1.ls[q.rule.toNat]? with
  |none=>exact⟨rfl,rfl,by simp only;omega,rfl,by simp only[List.length_nil];omega⟩
  |some v=>exact⟨rfl,rfl,yQ _,List.length_set,Nat.le_of_eq (a6i _ _ _ _)⟩
theorem a9M{las:List LA}{w:SW}{evs:List EvT}{q:ReqV}{L:LA}{v:LV}(hL:las[q.rule.toNat]? =some L)(hv:w.ls[q.rule.toNat]? =some v)(hag:w.again=false){r:(Int×Int×Int)×List EvT' ×LV}(hr:r=B6 L.R L.rp v w.now 0 (bs q.key) q.cost):
  N9 las (w,evs) q=(({ w with ls:=w.ls.set q.rule.toNat r.2.2,k:=w.k+1 },evs++evO q.rule r.2.1),a3P 1 r.1.1 r.1.2.1 r.1.2.2):=by
 have e4:a1P w.now w.first w.again L.R.Wd=0:=by rw[hag];rfl
 unfold N9
 rw[hL]
 simp only[hv]
 unfold b0U
 rw[e4,<-hr]
abbrev gdR(p:D2):Prop:=(Lit.int .i64 p.1).wf=true/\(Lit.int .i64 p.2.1).wf=true/\(Lit.int .i64 p.2.2.1).wf=true/\(Lit.int .i64 p.2.2.2.1).wf=true/\(Lit.int .i64 p.2.2.2.2.1).wf=true/\(Lit.int .i64 p.2.2.2.2.2.1).wf=true/\(Lit.int .i64 p.2.2.2.2.2.2.1).wf=true/\(Lit.int .i64 p.2.2.2.2.2.2.2.1).wf=true/\True
section
variable {h h' :Heap} {a b:SrvA} {w w' :SW} {q q' :Qs}
theorem SI.at_(S:SI h a w q){i:Nat}{L:LA}{x:LV}(hL:a.las[i]? =some L)(hx:w.ls[i]? =some x):Lmt h L x:=by
 obtain⟨cs,⟨v,S,r,sb⟩,_⟩:=S
 have hi:=(List.getElem?_eq_some_iff.1 hL).1
 obtain⟨l,hl⟩:∃l,v.ls[i]? =some l:=⟨_,yF (by rw[S.ll];exact hi)⟩
 exact r.rel i L l x hL hl hx _ (S.L i L l hL hl)
theorem SI.ll(S:SI h a w q):w.ls.length=a.las.length:=by
 obtain⟨cs,⟨v,S,r,sb⟩,_⟩:=S
 have h1:=r.len
 have h2:=S.ll
 exact h1.trans h2
theorem SI.same(S:SI h a w q)(S' :SI h' b w' q'){sl:List Int}(hR:a.las.map LA.R=b.las.map LA.R)(ra:b0X a sl)(rb:b0X b sl):e1N a.las b.las:=by
 have hlen:a.las.length=b.las.length:=by have:=congrArg List.length hR;rwa [yL,yL]at this
 refine⟨hlen,fun i l m hl hm=>?_⟩
 have ha:=(List.getElem?_eq_some_iff.1 hl).1
 obtain⟨x,hx⟩:∃x,w.ls[i]? =some x:=⟨_,yF (by rw[S.ll];exact ha)⟩
 obtain⟨y,hy⟩:∃y,w'.ls[i]? =some y:=⟨_,yF (by rw[S'.ll];omega)⟩
 obtain⟨_,_,_,_,A,_⟩:=(S.at_ hl hx).toAt
 obtain⟨_,_,_,_,B,_⟩:=(S'.at_ hm hy).toAt
 have e:l.R=m.R:=by
  have h1:(a.las.map LA.R)[i]? =some l.R:=by rw[yJ,hl];rfl
  have h2:(b.las.map LA.R)[i]? =some m.R:=by rw[yJ,hm];rfl
  rw[hR,h2]at h1
  exact(yA h1).symm
 refine b6q.of A B e ?_
 rw[(ra i l hl).1,(rb i m hm).1,e]
theorem b0B(S:SI h a w q){i:Nat}{L:LA}(hL:a.las[i]? =some L)(Q:Value->Heap->Prop):
  r8 cp 27 [.pointer (some ⟨a.s,0,none⟩),.int .i64 i] h Q↔Q (.pointer (some ⟨L.p,0,none⟩)) h:=by
 obtain⟨cs,⟨v,S,r,sb⟩,_⟩:=S
 exact b4N S hL Q
def e0J(x:LV)(n:Nat):Value:=.agg #[.int .i64 x.al,.int .i64 x.de,.int .i64 x.bd,.int .i64 ((n:Int)-x.P.fl.length),.int .i64 x.U.tot]
theorem a2Q(S:SI h a w q){i:Nat}{L:LA}{x:LV}(hL:a.las[i]? =some L)(hx:w.ls[i]? =some x){Q:Value->Heap->Prop}(hQ:∀h',Old h h' ->Q (e0J x L.R.C) h'):
  r8 cp 28 [.pointer (some ⟨L.p,0,none⟩)] h Q:=by
 obtain⟨tp,tu,os,ws,A,_⟩:=(S.at_ hL hx).toAt
 exact c6T A hQ
end
theorem c2n(h:Heap)(er ac:Int){oa ob ea eb:Value}{lo:List Int}{le:List EvT}(A:X7 h oa lo)(B:X7 h ob lo)(EA:Lst h EvE ea le)(EB:Lst h EvE eb le)(hl:le.length<=1000000000){Q:Value->Heap->Prop}(hQ:∀h',Old h h' ->Q (.bool true) h'):
  r8 cp 25 [.agg #[.int .i64 er,.int .i64 ac,oa,ea],.agg #[.int .i64 er,.int .i64 ac,ob,eb]] h Q:=by
 rw[a8 cp e8o]
 obtain⟨aa,ca,rfl,ra⟩:=EA
 obtain⟨ab,cb,rfl,rb⟩:=EB
 obtain⟨oa1,oa2,rfl,_⟩:=A.val
 obtain⟨ob1,ob2,rfl,_⟩:=B.val
 obtain⟨h1,h1d⟩:∃h1,h1=(h.new (.cells [.int .i64 er,.int .i64 ac,.slice oa1 lo.length oa2,.slice aa le.length ca] 42 .fix)).new (.cells [.int .i64 er,.int .i64 ac,.slice ob1 lo.length ob2,.slice ab le.length cb] 42 .fix):=⟨_,rfl⟩
 have o1:Old h h1:=by rw[h1d];exact((Old.refl h).more _).more _
 have n1:h1.next=h.next+1+1:=by rw[h1d];rfl
 have g1:h1.obj h.next=.cells [.int .i64 er,.int .i64 ac,.slice oa1 lo.length oa2,.slice aa le.length ca] 42 .fix:=by rw[h1d,b7 _ _ (by simp only[f4];omega)];exact b8 _ _
 have g2:h1.obj (h.next+1)=.cells [.int .i64 er,.int .i64 ac,.slice ob1 lo.length ob2,.slice ab le.length cb] 42 .fix:=by rw[h1d];exact b8 _ _
 have ta:=a0H (A.old o1)
 have tb:=a0H (B.old o1)
 simp(disch:=omega)only[c25,↓R25,<-h1d,g1,g2,ta,tb,D3,bne_self_eq_false,↓j0,l0,zA,zB,zC,zD,zE,zF,zG,zH,zI,reduceCtorEq,zJ,zK,zL,zM]
 refine y6 cp a9R _ (fun d e hh=>∃j:Nat,j+d=le.length/\hh=h1/\e 2=.pointer (some ⟨h.next,0,none⟩)/\e 3=.pointer (some ⟨h.next+1,0,none⟩)/\e 38=.int .i64 le.length/\e 39=.int .i64 j) ?_ le.length _ _ ⟨0,by omega,rfl,rfl,rfl,rfl,rfl⟩
 rintro d e hh ⟨j,hj,rfl,e2,e3,e38,e39⟩
 by_cases cj:j<le.length
 rotate_left
 ·have b2:decide ((j:Int)<(le.length:Int))=false:=decide_eq_false (by omega)
  simp(disch:=omega)only[a9R,c25,↓R25,e2,e3,e38,e39,b2,↓j0,l0,zA,zB,zC,zD,zE,zF,zG,zH,zI,reduceCtorEq,zJ,zK,zL,zM]
  exact hQ _ o1
 have b2:decide ((j:Int)<(le.length:Int))=true:=decide_eq_true (by omega)
 have nx:(j:Int)+1=((j+1:Nat):Int):=by omega
 have wj:IntKind.i64.wrap ((j+1:Nat):Int)=((j+1:Nat):Int):=by rw[W3];omega
 have hx:le[j]? =some le[j]:=yF cj
 obtain⟨y,hy⟩:∃y,y=le[j]:=⟨_,rfl⟩
 rw[<-hy]at hx
 obtain⟨ba,fa,haa,la,qa⟩:=ra j y hx
 obtain⟨bb,fb,hbb,lb,qb⟩:=rb j y hx
 subst haa
 subst hbb
 obtain⟨y1,y2,y3,y4⟩:=y
 have qa:(hh.obj ba).read (fa+j*4) 4=some [.int .i64 y1,.string y2,.bool y3,.int .i64 y4]:=by rw[o1.obj ba la];exact qa
 have qb:(hh.obj bb).read (fb+j*4) 4=some [.int .i64 y1,.string y2,.bool y3,.int .i64 y4]:=by rw[o1.obj bb lb];exact qb
 simp(disch:=omega)only[a9R,c25,↓R25,e2,e3,e38,e39,b2,g1,g2,qa,qb,eqL,D3,beq_self_eq_true,Bool.and_self,Bool.not_true,nx,wj,↓j0,l0,zA,zB,zC,zD,zE,zF,zG,zH,zI,reduceCtorEq,zJ,zK,zL,zM]
 exact⟨d-1,by omega,j+1,by omega,rfl⟩
end Go.Proofs.YtlakhgibjfmjjaaGreat.Can
namespace Go.Proofs.YtlakhgibjfmjjaaGreat.Can
open Go
def b7Y:Option Addr->Option Addr->Bool
 |none,none=>true
 |some a,some b=>Nat.beq a.block b.block && Nat.beq a.off b.off && a.spot.isNone && b.spot.isNone
 |_,_=>false
def b0Y:Value->Value->Bool
 | .bool a,.bool b=>a==b
 | .int k n,.int k' n' =>decide (k=k') && decide (n=n')
 | .string s,.string t=>decide (s.data.toList=t.data.toList)
 | .pointer a,.pointer b=>b7Y a b
 | .slice a n c,.slice b m d=>b7Y a b && Nat.beq n m && Nat.beq c d
 | .map none,.map none=>true
 | .map (some a),.map (some b)=>Nat.beq a b
 | .nilFunc,.nilFunc=>true
 | .nilIface,.nilIface=>true
 |_,_=>false
def a1t:List Value->List Value->Bool
 | [],[]=>true
 |a::x,b::y=>b0Y a b && a1t x y
 |_,_=>false
def b4n:Value->Value->Bool
 | .agg a,.agg b=>a1t a.toList b.toList
 | .tuple a,.tuple b=>a1t a.toList b.toList
 |a,b=>b0Y a b
theorem b3h{a b:Option Addr}(h:b7Y a b=true):a=b:=by
 unfold b7Y at h
 split at h
 ·rfl
 ·rename_i x y
  obtain⟨b1,o1,s1⟩:=x
  obtain⟨b2,o2,s2⟩:=y
  simp only[Bool.and_eq_true,Option.isNone_iff_eq_none]at h
  obtain⟨⟨⟨h1,h2⟩,rfl⟩,rfl⟩:=h
  rw[Nat.eq_of_beq_eq_true h1,Nat.eq_of_beq_eq_true h2]
 ·simp at h
theorem a7S{a b:Value}(h:b0Y a b=true):a=b:=by
 unfold b0Y at h
 split at h
 ·simpa using h
 ·simp only[Bool.and_eq_true,decide_eq_true_eq]at h;rw[h.1,h.2]
 ·rename_i s t
  simp only[decide_eq_true_eq]at h
  have:s.data=t.data:=Array.toList_inj.1 h
  obtain⟨s⟩:=s
  obtain⟨t⟩:=t
  rw[show s=t from this]
 ·rw[b3h h]
 ·simp only[Bool.and_eq_true]at h
  rw[b3h h.1.1,Nat.eq_of_beq_eq_true h.1.2,Nat.eq_of_beq_eq_true h.2]
 ·rfl
 ·rw[Nat.eq_of_beq_eq_true h]
 ·rfl
 ·rfl
 ·simp at h
theorem a2S:∀{a b:List Value},a1t a b=true->a=b
 | [],[],_=>rfl
 |a::x,b::y,h=>by
  simp only[a1t,Bool.and_eq_true]at h
  rw[a7S h.1,a2S h.2]
 | [],_::_,h=>by simp[a1t]at h
 |_::_,[],h=>by simp[a1t]at h
theorem c6m{a b:Value}(h:b4n a b=true):a=b:=by
 unfold b4n at h
 split at h
 ·rename_i x y;rw[Array.toList_inj.1 (a2S h)]
 ·rename_i x y;rw[Array.toList_inj.1 (a2S h)]
 ·exact a7S h
def d9A(o:COp):Bool:=match C3 o with
 | .read| .pure=>true
 |_=>false
def b1g(h:Heap)(o:COp)(v:Value):Bool:=d9A o && match A0 o h with
 |some (u,_)=>b4n u v
 |none=>false
def b5b(g:Option (Value×Bool))(h:Heap)(o:COp)(v:Value):Bool:=
 match g with
 |none=>b1g h o v
 |some (x,w)=>(match Q7 x w with|some false=>true|_=>false) ||b1g h o v
theorem d4y{h:Heap}{o:COp}{v:Value}(hb:b1g h o v=true):A0 o h=some (v,h):=by
 unfold b1g at hb
 simp only[Bool.and_eq_true]at hb
 obtain⟨h1,h2⟩:=hb
 split at h2
 ·rename_i u h' hc
  rw[c6m h2]at hc
  have:h' =h:=by
   unfold d9A at h1
   split at h1
   ·rename_i hk;exact a2D hk hc
   ·rename_i hk;exact(a2z hk hc).1
   ·simp at h1
  rw[hc,this]
 ·simp at h2
theorem e0k{g:Option (Value×Bool)}{h:Heap}{o:COp}{v:Value}(hb:b5b g h o v=true):S0 g h o v:=by
 unfold b5b at hb
 unfold S0
 split at hb
 ·exact d4y hb
 ·rename_i x w
  simp only[Bool.or_eq_true]at hb
  rcases hb with hb|hb
  ·left
   split at hb
   ·assumption
   ·simp at hb
  ·right;exact d4y hb
def a7s(call:v8):Reg->Heap->Option (a7×Heap)
 | .done e,h=>some (e,h)
 | .op o k,h=>match F2 call o h with
  |some (v,h')=>a7s call (k v) h'
  |none=>none
 | .opg g w o k,h=>match Q7 g w with
  |some true=>match F2 call o h with
   |some (v,h')=>a7s call (k v) h'
   |none=>none
  |some false=>a7s call (k (.tuple #[])) h
  |none=>none
 | .snap k,h=>a7s call (k h) h
 | .chk g hj o v k,h=>match b5b g (hj.getD h) o v with
  |true=>a7s call k h
  |false=>none
theorem d9n(call:v8)(l:Reg):∀h,LeO (a7s call l h) (J5 call l h):=by
 induction l with
 |done e=>intro h r hr;exact hr
 |op o k ih=>
  intro h r hr
  simp only[a7s,J5]at hr ⊢
  split at hr
  ·rename_i v h' he;rw[he];exact ih v h' r hr
  ·simp at hr
 |opg g w o k ih=>
  intro h r hr
  simp only[a7s,J5]at hr ⊢
  split at hr
  ·rename_i hw
   rw[hw]
   simp only
   split at hr
   ·rename_i v h' he;rw[he];exact ih v h' r hr
   ·simp at hr
  ·rename_i hw;rw[hw];exact ih _ h r hr
  ·simp at hr
 |snap k ih=>intro h r hr;exact ih h h r hr
 |chk g hj o v k ih=>
  intro h r hr
  simp only[a7s,J5]at hr ⊢
  split at hr
  ·rename_i hb
   rw[if_pos (e0k hb)]
   exact ih h r hr
  ·simp at hr
def X5(call:v8)(N:Nat):CC->a7->Heap->Option (X×a7×Heap)
 | .skip,e,h=>some (.normal,e,h)
 | .region r,e,h=>(a7s call (r e) h).map fun r=>(.normal,r.1,r.2)
 | .seq a b,e,h=>match X5 call N a e h with
  |some (.normal,e',h')=>X5 call N b e' h'
  |r=>r
 | .cond c t f,e,h=>match c e with
  | .bool true=>X5 call N t e h
  | .bool false=>X5 call N f e h
  |_=>none
 | .block id b,e,h=>match X5 call N b e h with
  |some (.exit i,e',h')=>if i=id then some (.normal,e',h')else some (.exit i,e',h')
  |r=>r
 | .loop b,e,h=>U0 (X5 call N b) N e h
 | .exit id,e,h=>some (.exit id,e,h)
 | .ret,e,h=>some (.ret,e,h)
 | .bad,_,_=>none
 | .dfr pre g caps post,e,h=>match X5 call N pre e h with
  |some (.normal,e1,h1)=>match X5 call N post e1 h1 with
   |some (.normal,e2,h2)|some (.ret,e2,h2)=>(call (.fn g) (caps e1) h2).map fun r=>(.ret,e2,r.2)
   |_=>none
  |some (.ret,e1,h1)=>some (.ret,e1,h1)
  |_=>none
 | .rng _ _ _ _ _ _ _,_,_=>none
theorem d8U(call:v8)(cy:Nat->YF->v8)(N:Nat)(x:CC):∀e h,LeO (X5 call N x e h) (B7 call cy N x e h):=by
 induction x with
 |skip=>intro e h r hr;exact hr
 |region ops=>
  intro e h r hr
  simp only[X5,B7,yD]at hr ⊢
  obtain⟨a,ha,rfl⟩:=hr
  exact⟨a,d9n _ _ _ _ ha,rfl⟩
 |seq a b iha ihb=>
  intro e h r hr
  simp only[X5,B7]at hr ⊢
  cases hx:X5 call N a e h with
  |none=>rw[hx]at hr;exact absurd hr (by simp)
  |some y=>
   rw[hx]at hr;rw[iha _ _ _ hx]
   obtain⟨x,e',h'⟩:=y
   cases x with
   |normal=>exact ihb _ _ _ hr
   |exit i=>exact hr
   |ret=>exact hr
 |cond t a b iha ihb=>
  intro e h r hr
  simp only[X5,B7]at hr ⊢
  split at hr
  ·rename_i hc;rw[hc];exact iha _ _ _ hr
  ·rename_i hc;rw[hc];exact ihb _ _ _ hr
  ·exact absurd hr (by simp)
 |block id b ih=>
  intro e h r hr
  simp only[X5,B7]at hr ⊢
  cases hx:X5 call N b e h with
  |none=>rw[hx]at hr;exact absurd hr (by simp)
  |some y=>rw[hx]at hr;rw[ih _ _ _ hx];exact hr
 |loop b ih=>intro e h r hr;exact Y6 (fun e h=>ih e h) N N (yP _) e h r hr
 |exit id=>intro e h r hr;exact hr
 |ret=>intro e h r hr;exact hr
 |bad=>intro e h r hr;exact hr
 |dfr pre g caps post iha ihb=>
  intro e h r hr
  simp only[X5,B7]at hr ⊢
  cases hx:X5 call N pre e h with
  |none=>rw[hx]at hr;exact absurd hr (by simp)
  |some y=>
   rw[hx]at hr;rw[iha _ _ _ hx]
   obtain⟨x,e',h'⟩:=y
   cases x with
   |normal=>
    simp only at hr ⊢
    cases hy:X5 call N post e' h' with
    |none=>rw[hy]at hr;exact absurd hr (by simp)
    |some z=>rw[hy]at hr;rw[ihb _ _ _ hy];exact hr
   |exit i=>exact hr
   |ret=>exact hr
 |rng=>intro e h r hr;exact absurd hr (by simp[X5])
def a9Q(CP:CProg):Nat->v8
 |0,_,_,_=>none
 |n+1,.yl _,_,_=>none
 |n+1,.fn f,args,h=>match CP f with
  |none=>none
  |some fn=>match X5 (a9Q CP n) n fn.body (R9 args) h with
   |some (.normal,e,h')=>(E0 e h' fn.results).map fun v=>(v,h')
   |some (.ret,e,h')=>(E0 e h' fn.results).map fun v=>(v,h')
   |_=>none
theorem b9A(CP:CProg):∀n,LeC (a9Q CP n) (N6 CP n)
 |0=>fun f a h r hr=>absurd hr (by simp[a9Q])
 |n+1=>fun f a h r hr=>by
  cases f with
  |yl b=>rw[a9Q]at hr;exact absurd hr (by simp)
  |fn f=>
   rw[a9Q]at hr
   rw[Z0]
   cases hf:CP f with
   |none=>rw[hf]at hr;exact absurd hr (by simp)
   |some fn=>
    rw[hf]at hr
    simp only at hr ⊢
    cases hx:X5 (a9Q CP n) n fn.body (R9 a) h with
    |none=>rw[hx]at hr;exact absurd hr (by simp)
    |some y=>
     rw[hx]at hr
     rw[a1Q (b9A CP n) (a5i (yP n) (LeP.refl CP)) (yP n) _ _ _ _ (d8U _ (cyF CP n) _ _ _ _ _ hx)]
     exact hr
theorem d2T{CP:CProg}{n:Nat}{f:FuncId}{args:List Value}{h:Heap}{v:Value}(hr:(a9Q CP n (.fn f) args h).map (fun r=>r.1)=some v):r8 CP f args h fun u _=>u=v:=by
 simp only[yD]at hr
 obtain⟨⟨u,h'⟩,hr,rfl⟩:=hr
 exact⟨n,u,h',b9A CP n _ _ _ _ hr,rfl⟩
inductive RD where
 |op (c:COp) (k:Value->RD)
 |dcall (f:FuncId) (args:List Value) (k:Value->RD)
 |done (e:a7)
abbrev a1R:=FuncId->List Value->Heap->(Value->Heap->Prop)->Prop
def N7(CP:CProg)(DS:a1R):RD->Heap->y7->Prop
 | .op c k,h,Q=>∃n v h1,F2 (N6 CP n) c h=some (v,h1)/\N7 CP DS (k v) h1 Q
 | .dcall f args k,h,Q=>DS f args h fun v h1=>N7 CP DS (k v) h1 Q
 | .done e,h,Q=>Q .normal e h
inductive CD where
 |lift (c:CC)
 |seq (a b:CD)
 |cond (c:a7->Value) (t e:CD)
 |block (id:Nat) (b:CD)
 |loop (b:CD)
 |draw (x:a7->Value) (k:a7->Value->Reg)
 |ent (x:a7->Value) (k:a7->Value->Reg)
 |rd (r:a7->RD)
structure DFn where
 body:CD
 results:List RV
def a2b(es:List MapEntry)(seen:List Nat):List MapEntry:=es.filter fun e=> !seen.contains e.born
def a6r(x:Value)(h:Heap):Option (List (Value×Heap)):=
 match x with
 | .pointer (some ⟨r,0,_⟩)=>match h.obj r with
  | .miter none _ _ _=>some [(.tuple #[.bool false],h)]
  | .miter (some m) since seen last=>match h.obj m with
   | .map es clock=>
    if(es.all fun e=>decide (e.born<since))=true/\since<=last then
     if(a2b es seen).isEmpty then some [(.tuple #[.bool false],h)]
     else some ((a2b es seen).map fun e=>(.tuple #[.bool true,e.key,e.val],h.upd r (.miter (some m) since (seen++[e.born]) clock)))
    else none
   |_=>none
  |_=>none
 |_=>none
def d9T(x:Value)(h:Heap):Option Value:=
 match x with
 | .pointer (some ⟨r,0,_⟩)=>match h.obj r with
  | .miter (some m) _ seen stepped=>match h.obj m with
   | .map es clock=>if clock=stepped then match seen.getLast? with
    |some b=>(es.find? fun e=>e.born==b).map fun e=> .tuple #[e.key,e.val]
    |none=>none
    else none
   |_=>none
  |_=>none
 |_=>none
def evD(CP:CProg)(DS:a1R):CD->a7->Heap->y7->Prop
 | .lift c,e,h,Q=>F9 CP c e h Q
 | .seq a b,e,h,Q=>evD CP DS a e h fun x e1 h1=>match x with
  | .normal=>evD CP DS b e1 h1 Q
  |x=>Q x e1 h1
 | .cond c t f,e,h,Q=>match c e with
  | .bool true=>evD CP DS t e h Q
  | .bool false=>evD CP DS f e h Q
  |_=>False
 | .block id b,e,h,Q=>evD CP DS b e h (X8 id Q)
 | .loop b,e,h,Q=>∃(I:Nat->a7->Heap->Prop) (d:Nat),I d e h/\∀d e h,I d e h->evD CP DS b e h (a4J (fun e h=>∃d',d' <d/\I d' e h) Q)
 | .draw x k,e,h,Q=>∃l,a6r (x e) h=some l/\∀r∈l,F3 CP (k e r.1) r.2 Q
 | .ent x k,e,h,Q=>∃v,d9T (x e) h=some v/\F3 CP (k e v) h Q
 | .rd r,e,h,Q=>N7 CP DS (r e) h Q
section
variable {P:Program} {S:Stay} {m:Map} {h:Heap} {w:World}
theorem Emb.drew(e:Emb P S m h w):Emb P S m h w.drew:=⟨e.lt,e.inj,fun b L hb=>by
 have:=e.obj b L hb
 revert this
 cases h.obj b with
 |gone=>exact fun h=>h
 |loop s p=>exact fun h=>h
 |cells c t g=>exact fun h=>h
 |map es c=>exact fun h=>h
 |siter s p=>exact fun h=>h
 |miter m s se st=>cases m<;>exact fun h=>h,e.prot,e.far,e.sLt,e.wf,e.lp⟩
theorem Out.ofDrew{m1:Map}{h1:Heap}{w1:World}(o:Out P S m h w.drew m1 h1 w1):Out P S m h w m1 h1 w1:=
 ⟨o.emb,o.ext,o.dom,o.next,⟨o.wd.os,o.wd.tape,o.wd.output,o.wd.size,o.wd.block⟩,o.same⟩
theorem V9.left{a b:List MapEntry}(e:V9 m a b){y:MapEntry}(hy:y∈b):∃x,x∈a/\b0W m x y:=by
 obtain⟨i,hi⟩:=List.getElem?_of_mem hy
 have hl:=(List.getElem?_eq_some_iff.1 hi).1
 have hl2:i<a.length:=by rw[e.1];exact hl
 have ha:a[i]? =some a[i]:=yF hl2
 exact⟨_,yK ha,e.2 i _ _ ha hi⟩
theorem V9.right{a b:List MapEntry}(e:V9 m a b){x:MapEntry}(hx:x∈a):∃y,y∈b/\b0W m x y:=by
 obtain⟨i,hi⟩:=List.getElem?_of_mem hx
 have hl:=(List.getElem?_eq_some_iff.1 hi).1
 have hl2:i<b.length:=by rw[<-e.1];exact hl
 have hb:b[i]? =some b[i]:=yF hl2
 exact⟨_,yK hb,e.2 i _ _ hi hb⟩
theorem V9.find{q:Nat->Bool}:∀{a b:List MapEntry},V9 m a b->∀{x:MapEntry},a.find? (fun e=>q e.born)=some x->∃y,b.find? (fun e=>q e.born)=some y/\b0W m x y
 | [],b,e,x,h=>by simp at h
 |u::a,[],e,x,h=>by have:=e.1;simp at this
 |u::a,v::b,e,x,h=>by
  have h0:b0W m u v:=e.2 0 u v rfl rfl
  have hr:V9 m a b:=⟨by have:=e.1;simpa using this,fun i x y hx hy=>e.2 (i+1) x y (by simpa using hx) (by simpa using hy)⟩
  by_cases c:q u.born=true
  ·rw[List.find?_cons_of_pos (p:=fun e:MapEntry=>q e.born) c]at h
   obtain rfl:=yA h
   exact⟨v,List.find?_cons_of_pos (p:=fun e:MapEntry=>q e.born) (by rw[<-h0.1];exact c),h0⟩
  ·rw[List.find?_cons_of_neg (p:=fun e:MapEntry=>q e.born) c]at h
   obtain⟨y,h1,h2⟩:=V9.find hr h
   exact⟨y,by rw[List.find?_cons_of_neg (p:=fun e:MapEntry=>q e.born) (by rw[<-h0.1];exact c)];exact h1,h2⟩
theorem c7L(e:Emb P S m h w)(ty:TypeId){x x' :Value}(hx:VR m x x'){l:List (Value×Heap)}(hl:a6r x h=some l):
  ∃r v' w1,r∈l/\(Instr.next x' false ty).run P w=.ok v' w1/\VR m r.1 v' /\Out P S m h w m r.2 w1:=by
 unfold a6r at hl
 split at hl
 case h_2=>simp at hl
 rename_i r sp
 obtain⟨b,o,L,heq,hb,rfl⟩:=hx.ptr_inv
 obtain⟨rfl,rfl,rfl⟩:=Addr.mk.inj heq
 split at hl
 case h_3=>simp at hl
 case h_1=>
  rename_i s1 s2 s3 ho
  have hob:=e.obj _ L hb
  rw[ho]at hob
  obtain⟨hblk,hsh⟩:=hob
  obtain rfl:=yA hl
  have hgo:=run_getObj' (P:=P) hblk (by simp)
  have hz:L.sh+0=0:=by rw[hsh]
  refine⟨_,.tuple #[.bool false],w,List.mem_singleton_self _,?_,VR.tuple_of (VL.cons (.bool _) (VL.nil m)),Out.refl e⟩
  rw[hz]
  simp only[Instr.next,Sem.run_bind,hgo,Result.andThen_ok,Sem.run_pure]
 case h_2=>
  rename_i mm since seen last ho
  have hob:=e.obj _ L hb
  rw[ho]at hob
  obtain⟨K,hK,hblk,hsh⟩:=hob
  have hz:L.sh+0=0:=by rw[hsh]
  rw[hz]
  split at hl
  case h_2=>simp at hl
  rename_i es clock hom
  obtain⟨es',hmb,hE⟩:=X2 e hK hom
  split at hl
  case isFalse=>simp at hl
  rename_i hc
  have hold:∀y∈es'.toList,y.born<since:=fun y hy=>by
   obtain⟨z,hz,hr⟩:=hE.left hy
   have:=List.all_eq_true.1 hc.1 z hz
   rw[<-hr.1]
   exact of_decide_eq_true this
  have mem:∀y∈(leftOf es' seen.toArray).toList,∃z,z∈a2b es seen/\b0W m z y:=fun y hy=>by
   unfold leftOf at hy
   rw[Array.toList_filter,List.mem_filter]at hy
   obtain⟨z,hz,hr⟩:=hE.left hy.1
   refine⟨z,List.mem_filter.2 ⟨hz,?_⟩,hr⟩
   rw[hr.1]
   simpa using hy.2
  have mem2:∀z∈a2b es seen,∃y,y∈(leftOf es' seen.toArray).toList:=fun z hz=>by
   unfold a2b at hz
   rw[List.mem_filter]at hz
   obtain⟨y,hy,hr⟩:=hE.right hz.1
   refine⟨y,?_⟩
   unfold leftOf
   rw[Array.toList_filter,List.mem_filter]
   refine⟨hy,?_⟩
   rw[<-hr.1]
   simpa using hz.2
  rcases run_next_at (P:=P) w ty L.blk K.blk since last seen.toArray es' clock hblk hmb hold hc.2 with⟨h0,hrun⟩| ⟨y,hy,w1,hw1,hrun⟩
  ·have he:a2b es seen=[]:=by
    cases hq:a2b es seen with
    |nil=>rfl
    |cons z t=>
     obtain⟨y,hy⟩:=mem2 z (by rw[hq];exact List.mem_cons_self)
     have:(leftOf es' seen.toArray).toList.length=0:=by simpa using h0
     rw[List.length_eq_zero_iff.1 this]at hy
     simp at hy
   rw[he]at hl
   obtain rfl:=yA hl
   exact⟨_,_,w,List.mem_singleton_self _,hrun,VR.tuple_of (VL.cons (.bool _) (VL.nil m)),Out.refl e⟩
  ·obtain⟨z,hz,hr⟩:=mem y hy
   have hne:(a2b es seen).isEmpty=false:=by
    cases hq:a2b es seen with
    |nil=>rw[hq]at hz;simp at hz
    |cons a t=>rfl
   rw[hne]at hl
   obtain rfl:=yA hl
   refine⟨_,_,_,List.mem_map.2 ⟨z,hz,rfl⟩,hrun,VR.tuple_of (VL.cons (.bool _) (VL.cons hr.2.1 (VL.cons hr.2.2 (VL.nil m)))),?_⟩
   have ob:∀w1:World,w1.heap[L.blk]? =some (.mapIter (some K.blk) since (seen.toArray.push y.born) clock)->a2m P m L w1 (.miter (some mm) since (seen++[z.born]) clock):=fun w1 h1=>⟨K,hK,by rw[h1,hr.1];simp,hsh⟩
   have wr:(h.obj r).wr=true:=by rw[ho];rfl
   rcases hw1 with rfl|rfl
   ·exact X3 e hb wr ob
   ·exact Out.ofDrew (X3 e.drew hb wr ob)
theorem c5Q(e:Emb P S m h w){x x' v:Value}(hx:VR m x x')(hv:d9T x h=some v):∃v',(Instr.entry x').run P w=.ok v' w/\VR m v v' :=by
 unfold d9T at hv
 split at hv
 case h_2=>simp at hv
 rename_i r sp
 obtain⟨b,o,L,heq,hb,rfl⟩:=hx.ptr_inv
 obtain⟨rfl,rfl,rfl⟩:=Addr.mk.inj heq
 split at hv
 case h_2=>simp at hv
 rename_i mm since seen stepped ho
 have hob:=e.obj _ L hb
 rw[ho]at hob
 obtain⟨K,hK,hblk,hsh⟩:=hob
 have hz:L.sh+0=0:=by rw[hsh]
 rw[hz]
 split at hv
 case h_2=>simp at hv
 rename_i es clock hom
 obtain⟨es',hmb,hE⟩:=X2 e hK hom
 split at hv
 case isFalse=>simp at hv
 rename_i hc
 subst hc
 split at hv
 case h_2=>simp at hv
 rename_i bb hlast
 rw[yD]at hv
 obtain⟨z,hz2,rfl⟩:=hv
 obtain⟨y,hy,hr⟩:=V9.find (q:=fun n=>n==bb) hE hz2
 refine⟨.tuple #[y.key,y.val],?_,VR.tuple_of (VL.cons hr.2.1 (VL.cons hr.2.2 (VL.nil m)))⟩
 have hgo:=run_getObj' (P:=P) hblk (by simp)
 have hgm:=run_getObj' (P:=P) hmb (by simp)
 have hbk:seen.toArray.back? =some bb:=by rw[List.back?_toArray];exact hlast
 have hf:es'.find? (fun e=>e.born==bb)=some y:=by rw[<-Array.find?_toList];exact hy
 simp only[Instr.entry,Sem.run_bind,hgo,Result.andThen_ok,hbk,hgm,bne_self_eq_false,Bool.false_eq_true,if_false,hf,Sem.run_pure]
end
def a4h(P:Program)(D:FuncId->Bool)(o:Oper):Option (FuncId×Array Operand):=
 match o.op,o.guard with
 | .call ⟨.value (.func f),args,_⟩,none=>if D f && !a7E P f then some (f,args)else none
 |_,_=>none
def d5v(P:Program)(D:FuncId->Bool)(p:Pers):List Oper->a7->a7->RD
 | [],e,_=> .done e
 |o::rest,e,l=>
  if a0e p o.dst && o.guard.isNone then
   match a4h P D o with
   |some (f,args)=> .dcall f (args.toList.map (C0 p e l)) fun v=>d5v P D p rest (J8 p e l o.dst v).1 (J8 p e l o.dst v).2
   |none=> .op (D1 P o (C0 p e l)) fun v=>d5v P D p rest (J8 p e l o.dst v).1 (J8 p e l o.dst v).2
  else .op .bad fun _=> .done e
def a2E(P:Program)(D:FuncId->Bool)(p:Pers):Code->CD
 | .region id ops d=>
  if !d && ops.toList.any (fun o=>(a4h P D o).isSome)then .rd fun e=>d5v P D p ops.toList e (fun _=>unk)else
  match ops.toList,d with
  |o::rest,false=>
   match o.op,o.guard,a0e p o.dst with
   | .next x false,none,true=> .draw (fun e=>C0 p e (fun _=>unk) x) fun e v=>a0g P p ops rest (J8 p e (fun _=>unk) o.dst v).1 (J8 p e (fun _=>unk) o.dst v).2
   | .entry x,none,true=> .ent (fun e=>C0 p e (fun _=>unk) x) fun e v=>a0g P p ops rest (J8 p e (fun _=>unk) o.dst v).1 (J8 p e (fun _=>unk) o.dst v).2
   |_,_,_=> .lift (F7 P p (.region id ops d))
  |_,_=> .lift (F7 P p (.region id ops d))
 | .seq a b=> .seq (a2E P D p a) (a2E P D p b)
 | .cond c a b=> .cond (fun e=>C0 p e (fun _=>unk) c) (a2E P D p a) (a2E P D p b)
 | .block id b=> .block id (a2E P D p b)
 | .loop b=> .loop (a2E P D p b)
 |c=> .lift (F7 P p c)
def b5F(P:Program)(D:FuncId->Bool)(p:Pers)(f:Func):Option DFn:=
 match f.body,f.results.toList.mapM (a7k P)with
 |some c,some rs=>if Nat.ble p.size f.ntmps && (rs.all fun r=>p.has r.slot) && Nat.ble rs.length 3 && !(f.name== "runtime.NumGoroutine") && p.ds.isEmpty then some ⟨a2E P D p c,rs⟩else none
 |_,_=>none
section
variable {P:Program}
theorem Out.free{S:Stay}{m m1:Map}{h h1:Heap}{w w1:World}(o:Out P S m h w m1 h1 w1)(hf:∀b,h.next<=b->m b=none):∀b,h1.next<=b->m1 b=none:=fun b hb=>by
 cases hm:m1 b with
 |none=>rfl
 |some L=>
  rcases o.dom b (by rw[hm];simp)with h2| ⟨h2,h3⟩
  ·exact absurd (hf b (yR o.next hb)) h2
  ·omega
def c6M(P:Program)(DS:a1R):Prop:=∀f args h R,DS f args h R->(∃F,P.funcs[f]? =some F/\(F.name== "runtime.NumGoroutine")=false/\F.body.isNone=false)/\
 ∀(S:Stay) (m:Map) (w:World) (args' :Array Value),VL m args args'.toList->Emb P S m h w->(∀b,h.next<=b->m b=none)->J0 m->
  Calls P f args' w fun e w1=>∃v v' h1 m1,e=.returned v' /\R v h1/\VR m1 v v' /\Out P S m h w m1 h1 w1
theorem e0g{m:Map}{h:Heap}(hf:∀b,h.next<=b->m b=none)(n:Nat):I5 m h.next n:=fun b hb _=>hf b hb
theorem b0J{D:FuncId->Bool}{o:Oper}{f:FuncId}{args:Array Operand}(h:a4h P D o=some (f,args)):∃ts,o.op=.call ⟨.value (.func f),args,ts⟩/\o.guard=none:=by
 unfold a4h at h
 split at h
 ·rename_i f' args' ts hop hg
  split at h
  ·simp only[yC,yB]at h
   obtain⟨rfl,rfl⟩:=h
   exact⟨ts,hop,hg⟩
  ·simp at h
 ·simp at h
theorem b4W{S:Stay}{CP:CProg}{DS:a1R}(hP:a6d P CP)(hDS:c6M P DS){D:FuncId->Bool}(p:Pers)(all:Array Oper){Q:Exit->Act->World->Prop}{QD:y7}:∀(ops:List Oper) (m:Map) (e l:a7) (h:Heap) (a:Act) (w:World),
  N7 CP DS (d5v P D p ops e l) h QD->Slots p m e l a->Emb P S m h w->(∀b,h.next<=b->m b=none)->
  (∀e1 h1 a1 w1 m1 l1,QD .normal e1 h1->Slots p m1 e1 l1 a1->Out P S m h w m1 h1 w1->Q .normal a1 w1)->wpListIn (FZ none) 0 P all Q ops a w
 | [],m,e,l,h,a,w,hr,hs,hE,hf,hQ=>by
  unfold wpListIn
  exact hQ e h a w m l hr hs (Out.refl hE)
 |o::rest,m,e,l,h,a,w,hr,hs,hE,hf,hQ=>by
  simp only[d5v]at hr
  split at hr
  case isFalse=>
   obtain⟨n,v,h1,hc,_⟩:=hr
   simp[F2,A0]at hc
  rename_i hok
  simp only[Bool.and_eq_true,Option.isNone_iff_eq_none]at hok
  obtain⟨hd,hg⟩:=hok
  unfold wpListIn
  rw[if_pos (by simp[Region.wanted,hg])]
  split at hr
  ·rename_i f args hdc
   obtain⟨ts,hop,_⟩:=b0J hdc
   obtain⟨⟨F,hF,hname,hbody⟩,hruns⟩:=hDS _ _ _ _ hr
   have hal:VL m (args.toList.map (C0 p e l)) (args.map a.eval).toList:=by simpa using Q4 hs.eval args.toList
   have hcf:(callFunc f (args.map a.eval)).run P w=.ok (.enter f (args.map a.eval)) w:=by
    simp only[callFunc,Sem.run_bind,run_program,Result.andThen_ok,hF,hname,hbody,Bool.false_eq_true,if_false,Sem.run_pure]
   have hrun:(execOp a.eval o).run P w=(callFunc f (args.map a.eval)).run P w:=by
    have hfv:a.eval (.func f)=.func (.func f) #[] #[]:=rfl
    unfold execOp
    rw[hop]
    simp only[resolve,hfv,Deferred.ofValue,Sem.run_bind,Sem.run_pure,Result.andThen_ok]
    simp[invoke]
   have nd:∀c,o.op≠.defer c:=by intro c hq;rw[hop]at hq;cases hq
   unfold Oper.wpIn
   rw[Oper.semAt_eq _ _ _ nd,hrun,hcf,Oper.uponIn_enter]
   refine⟨fun _ _=>trivial,a6v none,a6K ((hruns S m w _ hal hE hf hs.glob).mono fun en w1 hp=>?_)⟩
   obtain⟨v,v',h1,m1,rfl,hR,hv,ho⟩:=hp
   exact b4W hP hDS p all rest m1 _ _ h1 _ w1 hR ((hs.ext ho.ext).put hd hv) ho.emb (ho.free hf) fun e2 h2 a2 w2 m2 l2 hq2 hs2 ho2=>hQ e2 h2 a2 w2 m2 l2 hq2 hs2 (ho.trans ho2)
  ·obtain⟨n,v,h1,hc,hR⟩:=hr
   refine a8b (a1D hP n) (by exact trivial) none 0 hE o a hs.eval hc (e0g hf _) hs.glob fun v' w1 m1 hv ho=>?_
   exact b4W hP hDS p all rest m1 _ _ h1 _ w1 hR ((hs.ext ho.ext).put hd hv) ho.emb (ho.free hf) fun e2 h2 a2 w2 m2 l2 hq2 hs2 ho2=>hQ e2 h2 a2 w2 m2 l2 hq2 hs2 (ho.trans ho2)
theorem c5q{S:Stay}{CP:CProg}{DS:a1R}(hP:a6d P CP)(hDS:c6M P DS){D:FuncId->Bool}(p:Pers)(c:Code):∀{QD:y7} {Q:Exit->Act->World->Prop} {m:Map} {e:a7} {h:Heap} {a:Act} {w:World},
  evD CP DS (a2E P D p c) e h QD->Slots p m e (fun _=>unk) a->Emb P S m h w->(∀b,h.next<=b->m b=none)->
  (∀x e1 h1 a1 w1 m1,QD x e1 h1->Slots p m1 e1 (fun _=>unk) a1->Out P S m h w m1 h1 w1->Q (a1q x) a1 w1)->c.wpIn (FZ none) 0 P Q a w:=by
 have lifted:∀(c:Code) {QD:y7} {Q:Exit->Act->World->Prop} {m:Map} {e:a7} {h:Heap} {a:Act} {w:World},
   evD CP DS (.lift (F7 P p c)) e h QD->Slots p m e (fun _=>unk) a->Emb P S m h w->(∀b,h.next<=b->m b=none)->
   (∀x e1 h1 a1 w1 m1,QD x e1 h1->Slots p m1 e1 (fun _=>unk) a1->Out P S m h w m1 h1 w1->Q (a1q x) a1 w1)->c.wpIn (FZ none) 0 P Q a w:=by
  intro c QD Q m e h a w hr hs hE hf hQ
  obtain⟨N,x,e1,h1,he,hq⟩:=hr
  exact N0 (a1D hP N) (by exact trivial) (d6u CP N) none 0 N p c he hs hE (fun b hb _=>hf b hb) fun a1 w1 m1 hs1 ho=>hQ x e1 h1 a1 w1 m1 hq hs1 ho
 induction c with
 |region id ops d=>
  intro QD Q m e h a w hr hs hE hf hQ
  have first:∀(o:Oper) (rest:List Oper),ops.toList=o::rest->d=false->o.guard=none->a0e p o.dst=true->∀(v v' :Value) (h2:Heap) (w1:World),(∀c,o.op≠.defer c)->(execOp a.eval o).run P w=.ok (.value v') w1->VR m v v' ->Out P S m h w m h2 w1->
    F3 CP (a0g P p ops rest (J8 p e (fun _=>unk) o.dst v).1 (J8 p e (fun _=>unk) o.dst v).2) h2 QD->(Code.region id ops d).wpIn (FZ none) 0 P Q a w:=by
   intro o rest hl hd hg hdst v v' h2 w1 hnd hrun hv ho hrr
   subst hd
   obtain⟨N,e1,h1,he,hq⟩:=hrr
   refine wpIn_region_list ?_
   rw[hl]
   unfold wpListIn
   rw[if_pos (by simp[Region.wanted,hg])]
   unfold Oper.wpIn
   rw[Oper.semAt_eq _ _ _ hnd,hrun]
   refine⟨fun _ _=>trivial,?_⟩
   have hf2:=ho.free hf
   exact a4i (a1D hP N) (by exact trivial) none 0 p ops rest m _ _ h2 _ w1 he (hs.put hdst hv) ho.emb (fun b hb _=>hf2 b hb) fun a1 w2 m1 l1 hs1 ho1=>hQ .normal e1 h1 a1 w2 m1 hq hs1.drop (ho.trans ho1)
  simp only[a2E]at hr
  split at hr
  ·rename_i hany
   simp only[Bool.and_eq_true,Bool.not_eq_true']at hany
   obtain⟨hd,_⟩:=hany
   subst hd
   refine wpIn_region_list ?_
   exact b4W hP hDS p ops ops.toList m e _ h a w hr hs hE hf fun e1 h1 a1 w1 m1 l1 hq hs1 ho=>hQ .normal e1 h1 a1 w1 m1 hq hs1.drop ho
  rename_i hneg
  clear hneg
  split at hr
  ·rename_i o rest hl
   split at hr
   ·rename_i x hop hg hdst
    obtain⟨l,hl2,hall⟩:=hr
    obtain⟨r,v',w1,hmem,hrun,hv,ho⟩:=c7L hE o.type (hs.eval x) hl2
    refine first o rest hl rfl hg hdst r.1 v' r.2 w1 (by intro c hq;rw[hop]at hq;cases hq) ?_ hv ho (hall r hmem)
    unfold execOp
    rw[hop]
    simp only[Sem.run_bind,hrun,Result.andThen_ok,Sem.run_pure]
   ·rename_i x hop hg hdst
    obtain⟨v,hv2,hall⟩:=hr
    obtain⟨v',hrun,hv⟩:=c5Q hE (hs.eval x) hv2
    refine first o rest hl rfl hg hdst v v' h w (by intro c hq;rw[hop]at hq;cases hq) ?_ hv (Out.refl hE) hall
    unfold execOp
    rw[hop]
    simp only[Sem.run_bind,hrun,Result.andThen_ok,Sem.run_pure]
   ·exact lifted _ hr hs hE hf hQ
  ·exact lifted _ hr hs hE hf hQ
 |seq a b iha ihb=>
  intro QD Q m e h ac w hr hs hE hf hQ
  simp only[a2E,evD]at hr
  refine wpIn_seq (iha hr hs hE hf fun x e1 h1 a1 w1 m1 hq hs1 ho=>?_)
  cases x with
  |normal=>exact ihb hq hs1 ho.emb (ho.free hf) fun x e2 h2 a2 w2 m2 hq2 hs2 ho2=>hQ x e2 h2 a2 w2 m2 hq2 hs2 (ho.trans ho2)
  |exit i=>exact hQ _ _ _ _ _ _ hq hs1 ho
  |ret=>exact hQ _ _ _ _ _ _ hq hs1 ho
 |cond c a b iha ihb=>
  intro QD Q m e h ac w hr hs hE hf hQ
  simp only[a2E,evD]at hr
  have hv:=hs.eval c
  split at hr
  ·rename_i hc
   rw[hc]at hv
   exact wpIn_cond_true hv.bool_inv (iha hr hs hE hf hQ)
  ·rename_i hc
   rw[hc]at hv
   exact wpIn_cond_false hv.bool_inv (ihb hr hs hE hf hQ)
  ·exact hr.elim
 |block id b ih=>
  intro QD Q m e h a w hr hs hE hf hQ
  simp only[a2E,evD]at hr
  refine wpIn_block (ih hr hs hE hf fun x e1 h1 a1 w1 m1 hq hs1 ho=>?_)
  cases x with
  |normal=>exact hQ _ _ _ _ _ _ hq hs1 ho
  |exit i=>
   show(if i=id then Q .normal a1 w1 else Q (.exit i) a1 w1)
   have hq:if i=id then QD .normal e1 h1 else QD (.exit i) e1 h1:=hq
   by_cases hi:i=id
   ·rw[if_pos hi]at hq ⊢;exact hQ _ _ _ _ _ _ hq hs1 ho
   ·rw[if_neg hi]at hq ⊢;exact hQ _ _ _ _ _ _ hq hs1 ho
  |ret=>exact hQ _ _ _ _ _ _ hq hs1 ho
 |loop b ih=>
  intro QD Q m e h a w hr hs hE hf hQ
  simp only[a2E,evD]at hr
  obtain⟨I,d,hI,hstep⟩:=hr
  refine R0.loop ?_
  have key:∀(n d:Nat),d<n->∀{m:Map} {e:a7} {h:Heap} {a:Act} {w:World},I d e h->Slots p m e (fun _=>unk) a->Emb P S m h w->(∀b,h.next<=b->m b=none)->
    (∀x e1 h1 a1 w1 m1,QD x e1 h1->Slots p m1 e1 (fun _=>unk) a1->Out P S m h w m1 h1 w1->Q (a1q x) a1 w1)->R0 none 0 P b Q a w:=by
   intro n
   induction n with
   |zero=>intro d hd;omega
   |succ n ihn=>
    intro d hd m e h a w hI hs hE hf hQ
    refine R0.round (ih (hstep d e h hI) hs hE hf fun x e1 h1 a1 w1 m1 hq hs1 ho=>?_)
    cases x with
    |normal=>
     obtain⟨d',hd',hI'⟩:=hq
     exact ihn d' (by omega) hI' hs1 ho.emb (ho.free hf) fun x e2 h2 a2 w2 m2 hq2 hs2 ho2=>hQ x e2 h2 a2 w2 m2 hq2 hs2 (ho.trans ho2)
    |exit i=>exact hQ _ _ _ _ _ _ hq hs1 ho
    |ret=>exact hQ _ _ _ _ _ _ hq hs1 ho
  exact key (d+1) d (Nat.lt_succ_self _) hI hs hE hf hQ
 |_=>intro QD Q m e h a w hr hs hE hf hQ;exact lifted _ hr hs hE hf hQ
end
def c4p(CP:CProg)(DS:a1R)(fn:DFn)(args:List Value)(h:Heap)(Q:Value->Heap->Prop):Prop:=evD CP DS fn.body (R9 args) h (a2w fn.results Q)
theorem b2I{P:Program}{CP:CProg}{DS:a1R}(hP:a6d P CP)(hDS:c6M P DS){D:FuncId->Bool}{f:FuncId}{F:Func}(hF:P.funcs[f]? =some F){p:Pers}{fn:DFn}(hfn:b5F P D p F=some fn){args:List Value}{h:Heap}{R:Value->Heap->Prop}(hc:c4p CP DS fn args h R){S:Stay}{m:Map}{w:World}{args' :Array Value}(hargs:VL m args args'.toList)(hE:Emb P S m h w)(hf:∀b,h.next<=b->m b=none)(hgl:J0 m:=by intro g hg;exact absurd hg (by simp[GLN])):
  Calls P f args' w fun e w1=>∃v v' h1 m1,e=.returned v' /\R v h1/\VR m1 v v' /\Out P S m h w m1 h1 w1:=by
 unfold b5F at hfn
 split at hfn
 case h_2=>simp at hfn
 rename_i c rs hb hrs
 split at hfn
 case isFalse=>simp at hfn
 rename_i hok
 simp only[Bool.and_eq_true,Bool.not_eq_true',Nat.ble_eq]at hok
 obtain⟨⟨⟨⟨hsz,hhas⟩,h3⟩,hname⟩,hds⟩:=hok
 have hpds:p.ds=[]:=by simpa using hds
 obtain rfl:=yA hfn
 refine calls_of_wp hF hb ((wpIn_wide (n:=0)).1 (c5q hP hDS p c hc ⟨fun t=>?_,?_,hpds.symm,hgl⟩ hE hf fun x e1 h1 a1 w1 m1 hq hs1 ho=>?_))
 ·unfold T9
  split
  ·simp only[R9,List.getD_eq_getElem?_getD,Array.getD_eq_getD_getElem?]
   by_cases ht:t<args'.size
   ·have ht2:t<args.length:=by have:=hargs.1;simp only[Array.length_toList]at this;omega
    rw[Array.getElem?_append_left ht,Array.getElem?_eq_getElem ht,yF ht2]
    simp only[Option.getD_some]
    exact hargs.2 t _ _ (yF ht2) (by simp[ht])
   ·have ht2:args.length<=t:=by have:=hargs.1;simp only[Array.length_toList]at this;omega
    have hu:((args' ++Array.replicate (F.ntmps-args'.size) undef)[t]?).getD undef=undef:=by
     rw[Array.getElem?_append_right (Nat.le_of_not_lt ht),Array.getElem?_replicate]
     split<;>rfl
    rw[hu,List.getElem?_eq_none ht2]
    exact .tuple _ _ rfl (fun i x y hx=>by simp at hx)
  ·exact .unk _
 ·simp only[Array.size_append,Array.size_replicate];omega
 ·have hd:a1.defers=[]:=by rw[hs1.defers,hpds]
  have fin:a3R (E0 e1 h1 rs) h1 R->∃v',(results F a1.tmps).run P w1=.ok v' w1/\∃v'' v h1' m1',Ending.returned v' =.returned v'' /\R v h1' /\VR m1' v v'' /\Out P S m h w m1' h1' w1:=by
   intro hq
   unfold a3R at hq
   split at hq
   ·rename_i v hres
    obtain⟨v',hrun,hv⟩:=W7 ho.emb hrs h3 hhas hs1 hres
    exact⟨v',hrun,v',v,h1,m1,rfl,hq,hv,ho⟩
   ·exact hq.elim
  cases x with
  |normal=>
   obtain⟨v',hrun,v'',v,h1',m1',he,hR,hv,ho'⟩:=fin hq
   exact⟨hd,v',hrun,v,v'',h1',m1',he,hR,hv,ho'⟩
  |ret=>
   obtain⟨v',hrun,v'',v,h1',m1',he,hR,hv,ho'⟩:=fin hq
   exact⟨hd,v',hrun,v,v'',h1',m1',he,hR,hv,ho'⟩
  |exit i=>exact hq.elim
section
variable (CP:CProg) (DS:a1R)
def c7v(b:CD)(Q:y7):y7
 | .normal,e,h=>evD CP DS b e h Q
 |x,e,h=>Q x e h
def a7Z(v:Value)(a b:CD)(e:a7)(h:Heap)(Q:y7):Prop:=
 match v with
 | .bool true=>evD CP DS a e h Q
 | .bool false=>evD CP DS b e h Q
 |_=>False
variable {CP:CProg} {DS:a1R}
theorem A8(c:CC)(e:a7)(h:Heap)(Q:y7):evD CP DS (.lift c) e h Q↔F9 CP c e h Q:=Iff.rfl
theorem B3(a b:CD)(e:a7)(h:Heap)(Q:y7):evD CP DS (.seq a b) e h Q↔evD CP DS a e h (c7v CP DS b Q):=by
 have:(fun(x:X) (e1:a7) (h1:Heap)=>match x with
  | .normal=>evD CP DS b e1 h1 Q
  |x=>Q x e1 h1)=c7v CP DS b Q:=by
  funext x e1 h1
  cases x<;>rfl
 simp only[evD,this]
theorem A5(c:a7->Value)(a b:CD)(e:a7)(h:Heap)(Q:y7):evD CP DS (.cond c a b) e h Q↔a7Z CP DS (c e) a b e h Q:=by
 unfold a7Z
 simp only[evD]
theorem z7(id:Nat)(b:CD)(e:a7)(h:Heap)(Q:y7):evD CP DS (.block id b) e h Q↔evD CP DS b e h (X8 id Q):=Iff.rfl
theorem v7(b:CD)(Q:y7)(e:a7)(h:Heap):c7v CP DS b Q .normal e h↔evD CP DS b e h Q:=Iff.rfl
theorem A3(b:CD)(Q:y7)(e:a7)(h:Heap):c7v CP DS b Q .ret e h↔Q .ret e h:=Iff.rfl
theorem y9(b:CD)(Q:y7)(i:Nat)(e:a7)(h:Heap):c7v CP DS b Q (.exit i) e h↔Q (.exit i) e h:=Iff.rfl
theorem w9(a b:CD)(e:a7)(h:Heap)(Q:y7):a7Z CP DS (.bool true) a b e h Q↔evD CP DS a e h Q:=Iff.rfl
theorem u9(a b:CD)(e:a7)(h:Heap)(Q:y7):a7Z CP DS (.bool false) a b e h Q↔evD CP DS b e h Q:=Iff.rfl
theorem d0C(b:CD)(Q:y7)(I:Nat->a7->Heap->Prop)(step:∀d e h,I d e h->evD CP DS b e h (a4J (fun e h=>∃d',d' <d/\I d' e h) Q))(d:Nat)(e:a7)(h:Heap)(h0:I d e h):evD CP DS (.loop b) e h Q:=
 ⟨I,d,h0,step⟩
theorem D0(r:a7->RD)(e:a7)(h:Heap)(Q:y7):evD CP DS (.rd r) e h Q↔N7 CP DS (r e) h Q:=Iff.rfl
theorem rod{f g:a7->RD}(q:∀e,f e=g e)(CP:CProg)(DS:a1R)(e:a7)(h:Heap)(Q:y7):N7 CP DS (f e) h Q↔N7 CP DS (g e) h Q:=by rw[q]
theorem A4(v:Value)(k:Value->RD)(h:Heap)(Q:y7):N7 CP DS (.op (.mv v) k) h Q↔N7 CP DS (k v) h Q:=by
 constructor
 ·rintro⟨n,v1,h1,hc,hr⟩
  simp only[F2,A0,yC,yB]at hc
  obtain⟨rfl,rfl⟩:=hc
  exact hr
 ·intro hr
  exact⟨0,v,h,rfl,hr⟩
def b0N(CP:CProg)(DS:a1R)(x:Option (Value×Heap))(k:Value->RD)(Q:y7):Prop:=match x with
 |some (v,h)=>N7 CP DS (k v) h Q
 |none=>False
theorem u4(v:Value)(h:Heap)(k:Value->RD)(Q:y7):b0N CP DS (some (v,h)) k Q↔N7 CP DS (k v) h Q:=Iff.rfl
theorem A6(op:UnOp)(x:Value)(k:Value->RD)(h:Heap)(Q:y7):N7 CP DS (.op (.un op x) k) h Q↔b0N CP DS (A0 (.un op x) h) k Q:=by
 show(∃n v h1,F2 (N6 CP n) (.un op x) h=some (v,h1)/\N7 CP DS (k v) h1 Q)↔_
 have e:∀n,F2 (N6 CP n) (.un op x) h=A0 (.un op x) h:=fun n=>rfl
 simp only[e]
 unfold b0N
 cases hc:A0 (.un op x) h with
 |none=>simp
 |some r=>
  obtain⟨v,h1⟩:=r
  simp only[yC,yB]
  exact⟨fun⟨_,v',h',⟨a,b⟩,q⟩=>by subst a b;exact q,fun q=>⟨0,v,h1,⟨rfl,rfl⟩,q⟩⟩
theorem v9(e:a7)(h:Heap)(Q:y7):N7 CP DS (.done e) h Q↔Q .normal e h:=Iff.rfl
theorem u7(f:FuncId)(args:List Value)(k:Value->RD)(h:Heap)(Q:y7):N7 CP DS (.dcall f args k) h Q↔DS f args h fun v h1=>N7 CP DS (k v) h1 Q:=Iff.rfl
theorem c6q{c c' :CD}(e:a7)(h:Heap)(Q:y7)(q:c=c'):evD CP DS c e h Q=evD CP DS c' e h Q:=by rw[q]
theorem b3S{v v' :Value}(a b:CD)(e:a7)(h:Heap)(Q:y7)(q:v=v'):a7Z CP DS v a b e h Q=a7Z CP DS v' a b e h Q:=by rw[q]
theorem b3M{r r' :RD}(h:Heap)(Q:y7)(q:r=r'):N7 CP DS r h Q=N7 CP DS r' h Q:=by rw[q]
end
open Reg renaming op->xA,opg->xB,done->xC,snap->xD,chk->xE
open COp renaming load->wA,mv->wB,fieldAddr->wC,call->wD,bin->wE,store->wF,extract->wG,alloc->wH,indexSl->wI,nilCheck->wJ,pick->wK,lenSl->wL,build->wM,box->wN,conv->wO,un->wP
def e8U:FuncId->Bool:=fun f=>Nat.beq f 11
def d9E(e:a7):Reg:=xA (wN 103 (e 0)) fun a=>xA (wB (.bool false)) fun b=>xC ((e.upd 3 a).upd 6 b)
def d9u(e:a7):RD:=
 .dcall 11 [] fun t20=>
 .op (.un .not t20) fun t21=>
 .done (e.upd 21 t21)
def d9t(e:a7):Reg:=xA (wB (.bool false)) fun a=>xC (e.upd 6 a)
def d9s(e:a7):Reg:=xA (wB (e 1)) fun a=>xA (wL a) fun b=>xA (wE .gtr b (.int .i64 50)) fun c=>xA (wB c) fun d=>xB d false (wB (e 2)) fun f=>xB d false (wD 12 [f]) fun g=>xB d false (wP .not g) fun i=>xA (wK d (.bool true) i) fun j=>xC (e.upd 29 j)
def d9z(e:a7):Reg:=xA (wB (.bool true)) fun a=>xC (e.upd 6 a)
def d9I(e:a7):Reg:=xA (.sliceArr 2 9 (e 3) none none) fun a=>xA (wD 13 [a,(.int .i64 0)]) fun b=>xA (wH 30 [(.int .i64 0),(.int .i64 0),(.int .i64 0),(.slice none 0 0)]) fun c=>xA (wF 4 c b) fun _=>xC (e.upd 7 c)
def d9y(e:a7):Reg:=xA (wA (some 4) (e 7)) fun a=>xA (wB (e 1)) fun b=>xA (wD 14 [a,b]) fun c=>xA (wB c) fun d=>xA (wG d 0) fun f=>xA (wG d 1) fun g=>xA (wB f) fun i=>xA (wB g) fun j=>xC ((e.upd 8 i).upd 9 j)
def d9G(e:a7):Reg:=xA (wA (some 4) (e 7)) fun a=>xA (wB (e 1)) fun b=>xA (wD 14 [a,b]) fun c=>xA (wB c) fun d=>xA (wG d 0) fun f=>xA (wG d 1) fun g=>xA (wB f) fun i=>xA (wB g) fun j=>xC ((e.upd 10 i).upd 11 j)
def d9B(e:a7):Reg:=xA (wB (e 8)) fun a=>xA (wM [(.int .i64 0),(.int .i64 0),(.int .i64 0),(.slice none 0 0),(.int .i64 0),(.slice none 0 0)] [(0,1,(.int .i64 0))]) fun b=>xA (wD 15 [a,b]) fun c=>xC e
def d9w(e:a7):Reg:=xA (wB (e 10)) fun a=>xA (wM [(.int .i64 0),(.int .i64 0),(.int .i64 0),(.slice none 0 0),(.int .i64 0),(.slice none 0 0)] [(0,1,(.int .i64 0))]) fun b=>xA (wD 15 [a,b]) fun c=>xC e
def d1z(e:a7):Reg:=xA (wB (.int .i64 0)) fun a=>xC (e.upd 12 a)
def d5G(e:a7):Reg:=xA (wB (e 2)) fun a=>xA (wL a) fun b=>xA (wB (.int .i64 0)) fun c=>xC (((e.upd 50 a).upd 51 b).upd 52 c)
def d3J(e:a7):Reg:=xA (wE .lss (e 52) (e 51)) fun a=>xC (e.upd 53 a)
def c9I(e:a7):Reg:=xA (wB (e 52)) fun a=>xA (wI 4 (e 50) (e 52)) fun b=>xA (wA (some 4) b) fun c=>xA (wH 48 [(.int .i64 0),(.int .i64 0),(.string ⟨#[]⟩),(.bool false)]) fun d=>xA (wB a) fun f=>xA (wF 4 d c) fun _=>xC ((e.upd 14 d).upd 13 f)
def d0H(e:a7):Reg:=xA (wB (e 12)) fun a=>xA (wC 0 (e 14)) fun b=>xA (wA none b) fun c=>xA (wD 16 [c]) fun d=>xA (wE .add a d) fun f=>xA (wB f) fun g=>xC (e.upd 12 g)
def d1x(e:a7):Reg:=xA (wC 1 (e 14)) fun a=>xA (wA none a) fun b=>xA (wE .and b (.int .i64 31)) fun c=>xA (wO .u32 c) fun d=>xA (wC 2 (e 14)) fun f=>xA (wA none f) fun g=>xA (wM [(.int .i64 0),(.int .i64 0),(.int .u32 0),(.string ⟨#[]⟩),(.int .i64 0)] [(0,1,(.int .i64 1)),(2,1,d),(3,1,g)]) fun i=>xA (wH 61 [(.int .i64 0),(.int .i64 0),(.int .u32 0),(.string ⟨#[]⟩),(.int .i64 0)]) fun j=>xA (wF 5 j i) fun _=>xC (e.upd 15 j)
def d4q(e:a7):Reg:=xA (wB (e 13)) fun a=>xA (wE .and a (.int .i64 1)) fun b=>xA (wE .eql b (.int .i64 1)) fun c=>xC (e.upd 71 c)
def d0y(e:a7):Reg:=xA (wC 1 (e 15)) fun a=>xA (wF 1 a (.int .i64 1)) fun _=>xC e
def d3q(e:a7):Reg:=xA (wB (e 10)) fun a=>xA (wB (e 12)) fun b=>xA (wA (some 5) (e 15)) fun c=>xA (wD 20 [c]) fun d=>xA (wM [(.int .i64 0),(.int .i64 0),(.int .i64 0),(.slice none 0 0),(.int .i64 0),(.slice none 0 0)] [(0,1,(.int .i64 2)),(1,1,b),(3,1,d)]) fun f=>xA (wD 15 [a,f]) fun g=>xC e
def d6N(e:a7):Reg:=xA (wB (e 10)) fun a=>xA (wB (e 12)) fun b=>xA (wM [(.int .i64 0),(.int .i64 0),(.int .i64 0),(.slice none 0 0),(.int .i64 0),(.slice none 0 0)] [(0,1,(.int .i64 3)),(1,1,b),(4,1,(.int .i64 99))]) fun c=>xA (wD 15 [a,c]) fun d=>xC e
def a7R(e:a7)(a b c:Value):Reg:=xD fun h11=>xA (wD 15 [b,c]) fun d=>xA (wH 42 [(.int .i64 0),(.int .i64 0),(.slice none 0 0),(.slice none 0 0)]) fun f=>xA (wH 42 [(.int .i64 0),(.int .i64 0),(.slice none 0 0),(.slice none 0 0)]) fun g=>xD fun h14=>xA (wF 4 f a) fun _=>xD fun h15=>xA (wF 4 g d) fun _=>xC ((e.upd 16 f).upd 17 g)
def a9J(e:a7)(h3 h5:Heap)(a:Value):Reg:=xA (wB (e 10)) fun b=>xA (wB (e 12)) fun c=>xA (wA (some 5) (e 15)) fun d=>xE none (some h5) (wA (some 5) (e 15)) d<|xE none (some h3) (wA (some 5) (e 15)) d<|xD fun h9=>xA (wD 20 [d]) fun f=>xA (wM [(.int .i64 0),(.int .i64 0),(.int .i64 0),(.slice none 0 0),(.int .i64 0),(.slice none 0 0)] [(0,1,(.int .i64 2)),(1,1,c),(3,1,f)]) fun g=>a7R e a b g
def c7u(e:a7):Reg:=xA (wB (e 8)) fun a=>xA (wB (e 12)) fun b=>xA (wA (some 5) (e 15)) fun c=>xD fun h3=>xA (wD 20 [c]) fun d=>xA (wM [(.int .i64 0),(.int .i64 0),(.int .i64 0),(.slice none 0 0),(.int .i64 0),(.slice none 0 0)] [(0,1,(.int .i64 2)),(1,1,b),(3,1,d)]) fun f=>xD fun h5=>xA (wD 15 [a,f]) fun g=>a9J e h3 h5 g
def a8c(e:a7)(a b:Value):Reg:=xA (wH 42 [(.int .i64 0),(.int .i64 0),(.slice none 0 0),(.slice none 0 0)]) fun c=>xA (wH 42 [(.int .i64 0),(.int .i64 0),(.slice none 0 0),(.slice none 0 0)]) fun d=>xA (wF 4 c a) fun _=>xA (wF 4 d b) fun _=>xC ((e.upd 18 c).upd 19 d)
def d0A(e:a7):Reg:=xA (wB (e 8)) fun a=>xA (wB (e 12)) fun b=>xA (wM [(.int .i64 0),(.int .i64 0),(.int .i64 0),(.slice none 0 0),(.int .i64 0),(.slice none 0 0)] [(0,1,(.int .i64 3)),(1,1,b),(4,1,(.int .i64 99))]) fun c=>xA (wD 15 [a,c]) fun d=>xA (wB (e 10)) fun f=>xA (wB (e 12)) fun g=>xA (wM [(.int .i64 0),(.int .i64 0),(.int .i64 0),(.slice none 0 0),(.int .i64 0),(.slice none 0 0)] [(0,1,(.int .i64 3)),(1,1,g),(4,1,(.int .i64 99))]) fun i=>xA (wD 15 [f,i]) fun j=>a8c e d j
def d1v(e:a7):Reg:=xA (wA (some 4) (e 16)) fun a=>xA (wA (some 4) (e 17)) fun b=>xA (wD 25 [a,b]) fun c=>xA (wP .not c) fun d=>xA (wB d) fun f=>xB f false (wA (some 4) (e 18)) fun g=>xB f false (wA (some 4) (e 19)) fun i=>xB f false (wD 25 [g,i]) fun j=>xB f false (wP .not j) fun k=>xA (wK f (.bool true) k) fun m=>xC (e.upd 112 m)
def d6y(e:a7):Reg:=xA (wB (.bool false)) fun a=>xC (e.upd 6 a)
def d1J(e:a7):Reg:=xA (wE .add (e 52) (.int .i64 1)) fun a=>xA (wB a) fun b=>xC (e.upd 52 b)
def b3T:CD:=(.seq (.lift (.region d3J)) (.seq (.cond (fun e=>e 53) (.lift .skip) (.lift (.exit 0))) (.seq (.block 1 (.seq (.lift (.region c9I)) (.seq (.lift (.region d0H)) (.seq (.lift (.region d1x)) (.seq (.seq (.lift (.region d4q)) (.cond (fun e=>e 71) (.seq (.lift (.region d0y)) (.seq (.lift (.region d3q)) (.seq (.lift (.region d6N)) (.lift (.exit 1))))) (.lift .skip))) (.seq (.lift (.region c7u)) (.seq (.lift (.region d0A)) (.seq (.lift (.region d1v)) (.cond (fun e=>e 112) (.seq (.lift (.region d6y)) (.lift .ret)) (.lift .skip)))))))))) (.lift (.region d1J)))))
def a8D(e:a7)(a:Value):Reg:=xB a true (wB (e 8)) fun b=>xB a true (wD 27 [b,(.int .i64 1)]) fun c=>xB a true (wD 28 [c]) fun d=>xB a true (wM [(.int .i64 0),(.int .i64 0),(.int .i64 0),(.int .i64 0),(.int .i64 0)] []) fun f=>xB a true (.eqAgg false [.int,.int,.int,.int,.int] d f) fun g=>xA (wK a g (.bool false)) fun i=>xA (wB i) fun j=>xC (e.upd 6 j)
def c9q(e:a7):Reg:=xA (wB (e 8)) fun a=>xA (wD 27 [a,(.int .i64 0)]) fun b=>xA (wD 28 [b]) fun c=>xA (wB (e 10)) fun d=>xA (wD 27 [d,(.int .i64 0)]) fun f=>xA (wD 28 [f]) fun g=>xA (.eqAgg false [.int,.int,.int,.int,.int] c g) fun i=>xA (wB i) fun j=>a8D e j
def RD9:=an (ro d9E.eq_1)<|an (rod d9u.eq_1)<|an (ro d9t.eq_1)<|an (ro d9s.eq_1)<|an (ro d9z.eq_1)<|an (ro d9I.eq_1)<|an (ro d9y.eq_1)<|an (ro d9G.eq_1)<|an (ro d9B.eq_1)<|an (ro d9w.eq_1)<|an (ro d1z.eq_1)<|an (ro d5G.eq_1)<|an (ro d3J.eq_1)<|an (ro c9I.eq_1)<|an (ro d0H.eq_1)<|an (ro d1x.eq_1)<|an (ro d4q.eq_1)<|an (ro d0y.eq_1)<|an (ro d3q.eq_1)<|an (ro d6N.eq_1)<|an (S9 a7R.eq_1)<|an (S9 a9J.eq_1)<|an (ro c7u.eq_1)<|an (N8 a8c.eq_1)<|an (ro d0A.eq_1)<|an (ro d1v.eq_1)<|an (ro d6y.eq_1)<|an (ro d1J.eq_1)<|an (ro1 a8D.eq_1)<|ro c9q.eq_1
def d9:DFn:=⟨(.seq (.lift (.region d9E)) (.seq (.seq (.rd d9u) (.cond (fun e=>e 21) (.seq (.lift (.region d9t)) (.lift .ret)) (.lift .skip))) (.seq (.seq (.lift (.region d9s)) (.cond (fun e=>e 29) (.seq (.lift (.region d9z)) (.lift .ret)) (.lift .skip))) (.seq (.lift (.region d9I)) (.seq (.lift (.region d9y)) (.seq (.lift (.region d9G)) (.seq (.lift (.region d9B)) (.seq (.lift (.region d9w)) (.seq (.lift (.region d1z)) (.seq (.seq (.lift (.region d5G)) (.block 0 (.loop b3T))) (.seq (.lift (.region c9q)) (.lift .ret)))))))))))),[.t 6]⟩
def c4z:Heap:=⟨fun _=> .gone,0⟩
set_option maxRecDepth 1000000 in
theorem c6v:(a9Q cp 100 (.fn 11) [] c4z).map (fun r=>r.1)=some (.bool true):=by kernel_rfl
section
variable {P:Program} {S:Stay} {m:Map} {h:Heap} {w w1:World}
theorem Out.grown(e:Emb P S m h w)(hk:∀k,k<w.heap.size->w1.heap[k]? =w.heap[k]?)(hs:w.heap.size<=w1.heap.size)(hos:w1.os=w.os)(ht:w1.tape=w.tape)(ho:w1.output=w.output):Out P S m h w m h w1:=
 ⟨⟨fun b L hb hl=>yN (e.lt b L hb hl) hs,e.inj,fun b L hb=>by
  by_cases hl:(h.obj b).live=true
  ·exact(e.obj b L hb).of_block (hk _ (e.lt b L hb hl))
  ·cases hx:h.obj b with
   |gone=>trivial
   |_=>rw[hx]at hl;exact absurd rfl hl,e.prot,e.far,fun k hk=>yN (e.sLt k hk) hs,e.wf,fun b I hI=>by
  obtain⟨q1,q2,q3⟩:=e.lp b I hI
  refine⟨q1,q2,fun st pd ho r hr=>q3 st pd ho r ?_⟩
  rw[hk _ (e.lt b I.L q1 (by rw[ho];rfl))]at hr
  exact hr⟩,Ext.refl m,fun _ hb=> .inl hb,yP _,⟨hos,ht,ho,hs,fun k hk' =>hk k (e.sLt k hk')⟩,fun _ _ _=>rfl⟩
end
theorem Emb.none(P:Program)(w:World):Emb P ⟨fun k=>k<w.heap.size,fun _=>False,fun _=> .none⟩ (fun _=>Option.none) c4z w:=
 ⟨fun b L hb=>by simp at hb,fun b c L K hb=>by simp at hb,fun b L hb=>by simp at hb,fun b L hb=>by simp at hb,fun b L hb=>by simp at hb,fun k hk=>hk.elim (fun q=>q) False.elim,fun b hb=>rfl,fun b I hI=>by cases hI⟩
def c0p(f0:FuncId)(v0:Value):a1R:=fun f args h R=>f=f0/\args=[]/\R v0 h
theorem b5w{f0:FuncId}{b:Bool}{n:Nat}(hr:(a9Q cp n (.fn f0) [] c4z).map (fun r=>r.1)=some (.bool b)):c6M Tryz.prog (c0p f0 (.bool b)):=by
 rintro f args h R ⟨rfl,rfl,hR⟩
 have hc:=d2T hr
 refine⟨?_,fun S m w args' ha e hf hg=>?_⟩
 ·obtain⟨n,v,h1,he,_⟩:=hc
  exact((a1D d2J n).fn f [] c4z v h1 he).has
 ·have ea:args' = #[]:=Array.toList_eq_nil_iff.1 ha.of_nil
  subst ea
  refine(b5p d2J hc (VL.nil (fun _=>Option.none)) (Emb.none Tryz.prog w) (fun _ _=>rfl)).mono fun en w1 hp=>?_
  obtain⟨v,v',h1,m1,rfl,rfl,hv,ho⟩:=hp
  exact⟨_,v',h,m,rfl,hR,by rw[hv.bool_inv];exact .bool b,Out.grown e (fun k hk=>ho.wd.block k (.inl hk)) ho.wd.size ho.wd.os ho.wd.tape ho.wd.output⟩
def d1V:a1R:=c0p 11 (.bool true)
theorem c6R:c6M Tryz.prog d1V:=b5w c6v
open Go.ChangeShapes Go.WideShapes Go.Deep Go.RowKit in
theorem b5l{P:Program}{CP:CProg}{DS:a1R}(hP:a6d P CP)(hDS:c6M P DS){D:FuncId->Bool}{f:FuncId}{F:Func}(hF:P.funcs[f]? =some F){p:Pers}{fn:DFn}(hfn:b5F P D p F=some fn){args:List Value}{h:Heap}(hc:c4p CP DS fn args h fun v _=>v=.bool true){m:Map}{W:World}{args' :Array Value}(ha:VL m args args'.toList)(hE:Emb P ⟨fun k=>k<W.heap.size,fun _=>False,fun _=>none⟩ m h W)(hf:∀b,h.next<=b->m b=none)(hgl:J0 m:=by intro g hg;exact absurd hg (by simp[GLN])):
  Calls P f args' W fun e W' =>e=.returned (.bool true)/\Below W.heap.size W W' :=by
 refine(b2I hP hDS hF hfn hc ha hE hf hgl).mono fun e W' hp=>?_
 obtain⟨v,v',h1,m1,rfl,rfl,hv,ho⟩:=hp
 refine⟨by rw[hv.bool_inv],ho.wd.os,ho.wd.tape,ho.wd.output,ho.wd.size,fun k hk=>ho.wd.block k (.inl hk)⟩
end Go.Proofs.YtlakhgibjfmjjaaGreat.Can
namespace Go.Proofs.YtlakhgibjfmjjaaGreat.Can
open Go
attribute [local congr] m9 l8 f7 f6 i7 l7 l9 s9 s7 c6q b3S b3M
theorem wholeRules_law(h:Heap)(x:D2×D2)(_:gdR x.1/\gdR x.2)(sv:Value)(sl:List Int)(hss:Y7 h (Enc.int .u64) sv sl)(_:sl.length<=maxLen)(_:∀x∈sl,(Lit.int .u64 x).wf=true)
  (v:Value) (l:List a5g) (hs:Y7 h b8i v l) (_:l.length<=maxLen) (hg:∀x∈l,((Lit.int .i64 x.1).wf=true/\(Lit.int .i64 x.2.1).wf=true/\x.2.2.1.size<=maxLen/\True)):
  c4p cp d1V d9 [.agg ((Enc.pair RE RE).enc x).toArray,sv,v] h fun v _=>v=.bool true:=by
 obtain⟨c18,hc18⟩:∃c,c=(Enc.pair RE RE).enc x:=⟨_,rfl⟩
 rw[<-hc18]
 unfold c4p
 obtain⟨sa0,sc0,hsv,_⟩:=hss.val
 subst hsv
 obtain⟨h1,h1d,o1,n1,g1⟩:=M8 h (.cells c18 103 .fix)
 have hsc:=eq_true (show c18.all C7=true by rw[hc18];rfl)
 have l18:c18.length=18:=by rw[hc18];rfl
 simp(disch:=omega)only[d9,↓RD9,hsc,if_true,<-h1d,↓j0,l0,zA,zB,zC,zD,zE,zF,zG,zH,zI,reduceCtorEq,zJ,zK,zL,zM,↓A8,↓B3,↓A5,↓z7,↓v7,↓A3,↓y9,w9,u9,↓D0,↓A4,↓A6,u4,↓v9,↓u7]
 refine⟨rfl,rfl,?_⟩
 by_cases c50:(sl.length:Int)>50
 ·have b0:=decide_eq_true c50
  simp(disch:=omega)only[d9,↓RD9,b0,↓j0,l0,zA,zB,zC,zD,zE,zF,zG,zH,zI,reduceCtorEq,zJ,zK,zL,zM,↓A8,↓B3,↓A5,↓z7,↓v7,↓A3,↓y9,w9,u9,↓D0,↓A4,↓A6,u4,↓v9,↓u7]
 have b0:=decide_eq_false c50
 simp(disch:=omega)only[d9,↓RD9,b0,↓j0,l0,zA,zB,zC,zD,zE,zF,zG,zH,zI,reduceCtorEq,zJ,zK,zL,zM,↓A8,↓B3,↓A5,↓z7,↓v7,↓A3,↓y9,w9,u9,↓D0,↓A4,↓A6,u4,↓v9,↓u7]
 refine c9U h1 v l (hs.sl.old o1) (fun c hc=>(hg c hc).2.2.1) fun h2 o2=>?_
 have n2:=o2.next
 by_cases hL:a6z l
 rotate_left
 ·have b1:=decide_eq_false hL
  simp(disch:=omega)only[d9,↓RD9,b1,↓j0,l0,zA,zB,zC,zD,zE,zF,zG,zH,zI,reduceCtorEq,zJ,zK,zL,zM,↓A8,↓B3,↓A5,↓z7,↓v7,↓A3,↓y9,w9,u9,↓D0,↓A4,↓A6,u4,↓v9,↓u7]
 have b1:=decide_eq_true hL
 have g2:=(o2.obj h.next (by omega)).trans g1
 simp(disch:=omega)only[d9,↓RD9,b1,g2,Obj.stiff,↓j0,l0,zA,zB,zC,zD,zE,zF,zG,zH,zI,reduceCtorEq,zJ,zK,zL,zM,↓A8,↓B3,↓A5,↓z7,↓v7,↓A3,↓y9,w9,u9,↓D0,↓A4,↓A6,u4,↓v9,↓u7]
 have V2:F1 h2 103 RE (.slice (some ⟨h.next,0,none⟩) 2 2) [x.1,x.2] h.next\/True:=.inr trivial
 have c9:c18=RE.enc x.1++RE.enc x.2:=hc18
 have L2:Lst h2 RE (.slice (some ⟨h.next,0,none⟩) 2 2) [x.1,x.2]:=by
  refine⟨_,2,rfl,fun i y hy=>⟨h.next,0,rfl,by omega,?_⟩⟩
  have hi:=(List.getElem?_eq_some_iff.1 hy).1
  have r9:∀z:D2,(RE.enc z).length=9:=fun z=>rfl
  rw[g2,c9,M1]
  have e9:RE.sz=9:=rfl
  rw[e9,if_pos (by rw[yG,r9,r9];simp at hi;omega)]
  rcases i with _|_|i
  ·obtain rfl:x.1=y:=by simpa using hy
   rw[show 0+0*9=0 from rfl,List.drop_zero,List.take_append_of_le_length (by rw[r9];omega),List.take_of_length_le (by rw[r9];omega)]
  ·obtain rfl:x.2=y:=by simpa using hy
   rw[show 0+(0+1)*9=9 from rfl,List.drop_append_of_le_length (by rw[r9];omega),List.drop_eq_nil_of_le (by rw[r9];omega),List.nil_append,List.take_of_length_le (by rw[r9];omega)]
  ·simp at hi;omega
 refine c5v h2 _ [x.1,x.2] L2 (by show 2<=_;omega) 0 fun h4 v4 b4 o4 V4 hb4=>?_
 have n4:=o4.next
 obtain⟨RL,hRL⟩:∃RL,RL=a0A [x.1,x.2]:=⟨_,rfl⟩
 have hRL2:RL=[H9 x.1,H9 x.2]:=hRL
 obtain⟨okRL,ln1,ln3⟩:=c5x [x.1,x.2]
 rw[<-hRL]at V4 okRL ln1 ln3
 have len2:RL.length=2:=by rw[hRL2];rfl
 have cfg:=d4V RL okRL ⟨ln1,ln3⟩ 0 (by decide)
 obtain⟨va,vc,hv4,_⟩:=V4.val
 rw[yL]at hv4
 subst hv4
 obtain⟨h5,h5d,o5,n5,_⟩:=Z1 h4 (.cells [.int .i64 0,.int .i64 0,.int .i64 0,.slice none 0 0] 30 .fix) (.cells [.int .i64 4294967296,.int .i64 3,.int .i64 (660+0 % 256),.slice va RL.length vc] 30 .fix)
 have g5:h5.obj h4.next=.cells [.int .i64 4294967296,.int .i64 3,.int .i64 660,.slice va RL.length vc] 30 .fix:=by rw[h5d];exact a9 _ _ _
 simp(disch:=omega)only[d9,↓RD9,<-h5d,g5,u5,↓j0,l0,zA,zB,zC,zD,zE,zF,zG,zH,zI,reduceCtorEq,zJ,zK,zL,zM,↓A8,↓B3,↓A5,↓z7,↓v7,↓A3,↓y9,w9,u9,↓D0,↓A4,↓A6,u4,↓v9,↓u7]
 have V5:=V4.old o5
 have oh5:Old h h5:=((o1.trans o2).trans o4).trans o5
 have hs5:sl.length<=1000000:=by omega
 refine a9k h5 4294967296 3 660 (.slice va RL.length vc) RL b4 V5 cfg okRL _ sl hs5 (hss.sl.old oh5) fun h7 a o7 A7 hlas hcas hou hrows hown=>?_
 have n7:=o7.next
 have g7:=(o7.obj h4.next (by omega)).trans g5
 simp(disch:=omega)only[d9,↓RD9,g7,u5,↓j0,l0,zA,zB,zC,zD,zE,zF,zG,zH,zI,reduceCtorEq,zJ,zK,zL,zM,↓A8,↓B3,↓A5,↓z7,↓v7,↓A3,↓y9,w9,u9,↓D0,↓A4,↓A6,u4,↓v9,↓u7]
 refine a9k h7 4294967296 3 660 (.slice va RL.length vc) RL b4 (V5.old o7) cfg okRL _ sl hs5 ((hss.sl.old oh5).old o7) fun h9 b o9 B9 hlasb hcasb houb hrowsb hownb=>?_
 have n9:=o9.next
 have alt:∀z,a.own none z->z<h7.next:=fun z hz=>by
  obtain⟨cs,S,_⟩:=A7
  exact S.lt hz
 have blt:∀z,b.own none z->z<h9.next:=fun z hz=>by
  obtain⟨cs,S,_⟩:=B9
  exact S.lt hz
 have hab:∀z,a.own none z->¬b.own none z:=fun z h1 h2=>by have:=alt z h1;have:=hownb z h2;omega
 have hab' :∀z,b.own none z->¬a.own none z:=fun z h1 h2=>hab z h2 h1
 have A9:SO h9 a (sw0 RL) (fun _=>none):=by
  obtain⟨cs,S,r⟩:=A7
  exact⟨cs,S.old o9,r⟩
 obtain⟨A,hA⟩:∃A,a.cas[0]? =some A:=⟨a.cas[0]'(by omega),yF _⟩
 obtain⟨B,hB⟩:∃B,b.cas[0]? =some B:=⟨b.cas[0]'(by omega),yF _⟩
 simp(disch:=omega)only[d9,↓RD9,u5,↓j0,l0,zA,zB,zC,zD,zE,zF,zG,zH,zI,reduceCtorEq,zJ,zK,zL,zM,↓A8,↓B3,↓A5,↓z7,↓v7,↓A3,↓y9,w9,u9,↓D0,↓A4,↓A6,u4,↓v9,↓u7]
 refine b9H (k:=0) A9 hA rfl 0 0 (by decide) fun h10 o10 A10=>?_
 have n10:=o10.next
 have B10:SO h10 b (sw0 RL) (fun _=>none):=by
  obtain⟨cs,S,r⟩:=B9
  exact⟨cs,S.oldF o10 hab',r⟩
 simp(disch:=omega)only[d9,↓RD9,u5,↓j0,l0,zA,zB,zC,zD,zE,zF,zG,zH,zI,reduceCtorEq,zJ,zK,zL,zM,↓A8,↓B3,↓A5,↓z7,↓v7,↓A3,↓y9,w9,u9,↓D0,↓A4,↓A6,u4,↓v9,↓u7]
 refine b9H (k:=0) B10 hB rfl 0 0 (by decide) fun h11 o11 B11=>?_
 have n11:=o11.next
 have A11:SO h11 a ((sw0 RL).rd 0) (Qs.set (fun _=>none) 0 []):=by
  obtain⟨cs,S,r⟩:=A10
  exact⟨cs,S.oldF o11 hab,r⟩
 have q0:∀n:Nat,0<n->∀k l,(Qs.set (fun _=>none) 0 []:Qs) k=some l->k<n:=fun n hn k l hk=>by
  unfold Qs.set at hk
  split at hk
  ·omega
  ·cases hk
 have SA:=A11.si (q0 _ (by omega))
 have SB:=B11.si (q0 _ (by omega))
 have hAS:=SA.same SB (by rw[hlas,hlasb]) hrows hrowsb
 have lena:a.las.length=2:=by rw[<-len2,<-hlas,yL]
 have lenb:b.las.length=2:=by rw[<-len2,<-hlasb,yL]
 obtain⟨La,hLa⟩:∃L,a.las[0]? =some L:=⟨a.las[0]'(by omega),yF _⟩
 obtain⟨Lb,hLb⟩:∃L,b.las[0]? =some L:=⟨b.las[0]'(by omega),yF _⟩
 obtain⟨Ma,hMa⟩:∃L,a.las[1]? =some L:=⟨a.las[1]'(by omega),yF _⟩
 obtain⟨Mb,hMb⟩:∃L,b.las[1]? =some L:=⟨b.las[1]'(by omega),yF _⟩
 obtain⟨hLR,hLS⟩:=hAS.2 0 La Lb hLa hLb
 have hMR:Ma.R=H9 x.2:=by
  have h1:(a.las.map LA.R)[1]? =some Ma.R:=by rw[yJ,hMa];rfl
  rw[hlas,hRL2]at h1
  exact(yA h1).symm
 obtain⟨sa,scap,rfl,hrd⟩:=hs.sl
 have oh9:Old h h9:=(oh5.trans o7).trans o9
 have olda:∀z,a.own none z->h.next<=z:=fun z hz=>by have:=hown z hz;have:=oh5.next;omega
 have oldb:∀z,b.own none z->h.next<=z:=fun z hz=>by have:=hownb z hz;have:=oh5.next;omega
 have oh11:Old h h11:=SI.old' (SI.old' oh9 o10 olda) o11 oldb
 simp(disch:=omega)only[d9,↓RD9,↓j0,l0,zA,zB,zC,zD,zE,zF,zG,zH,zI,reduceCtorEq,zJ,zK,zL,zM,↓A8,↓B3,↓A5,↓z7,↓v7,↓A3,↓y9,w9,u9,↓D0,↓A4,↓A6,u4,↓v9,↓u7]
 refine d0C b3T _ (fun d e hh=>∃(j:Nat) (w w' :SW) (y:LV),j+d=l.length/\Old h hh/\h11.next<=hh.next/\SI hh a w (Qs.set (fun _=>none) 0 [])/\SI hh b w' (Qs.set (fun _=>none) 0 [])/\w.k<=j/\w'.k<=j/\w.now<=w'.now/\w'.now<=1023*j/\w.again=false/\w'.again=false/\
   w.ls[0]? =some y/\w'.ls[0]? =some y/\w.ls[1]? =some (lv0 (H9 x.2))/\e 8=.pointer (some ⟨a.s,0,none⟩)/\e 10=.pointer (some ⟨b.s,0,none⟩)/\e 12=.int .i64 w'.now/\e 50=.slice sa l.length scap/\e 51=.int .i64 l.length/\e 52=.int .i64 j) ?_ l.length _ _
  ⟨0,_,_,lv0 (H9 x.1),by omega,oh11,yP _,SA,SB,yQ _,yQ _,yQ _,by show max (max (0:Int) 0) 0<=_;omega,rfl,rfl,by rw[hRL2];rfl,by rw[hRL2];rfl,by rw[hRL2];rfl,rfl,rfl,rfl,rfl,rfl,rfl⟩
 rintro d e hh ⟨j,w,w',y,hj,oh,hn,SA,SB,wk,wk',ww,wnow,wag,wag',wy,wy',wz,e8,e10,e12,e50,e51,e52⟩
 have ohn:=oh.next
 have hwn:=SA.now
 have hwk:=SA.k
 have hwk' :=SB.k
 by_cases cj:j<l.length
 rotate_left
 ·have b2:decide ((j:Int)<(l.length:Int))=false:=decide_eq_false (by omega)
  have fA:=fun Q=>b0B SA hLa Q
  simp(disch:=omega)only[b3T,d9,↓RD9,e8,e10,e12,e50,e51,e52,b2,Int.natCast_zero,↓j0,l0,zA,zB,zC,zD,zE,zF,zG,zH,zI,reduceCtorEq,zJ,zK,zL,zM,↓A8,↓B3,↓A5,↓z7,↓v7,↓A3,↓y9,w9,u9,↓D0,↓A4,↓A6,u4,↓v9,↓u7]
  refine(fA _).2 ?_
  simp(disch:=omega)only[d9,↓RD9,↓j0,l0,zA,zB,zC,zD,zE,zF,zG,zH,zI,reduceCtorEq,zJ,zK,zL,zM,↓A8,↓B3,↓A5,↓z7,↓v7,↓A3,↓y9,w9,u9,↓D0,↓A4,↓A6,u4,↓v9,↓u7]
  refine a2Q SA hLa wy fun h1 o1=>?_
  have SA1:=SA.old o1
  have SB1:=SB.old o1
  have fB:=fun Q=>b0B SB1 hLb Q
  simp(disch:=omega)only[d9,↓RD9,e8,e10,↓j0,l0,zA,zB,zC,zD,zE,zF,zG,zH,zI,reduceCtorEq,zJ,zK,zL,zM,↓A8,↓B3,↓A5,↓z7,↓v7,↓A3,↓y9,w9,u9,↓D0,↓A4,↓A6,u4,↓v9,↓u7]
  refine(fB _).2 ?_
  simp(disch:=omega)only[d9,↓RD9,↓j0,l0,zA,zB,zC,zD,zE,zF,zG,zH,zI,reduceCtorEq,zJ,zK,zL,zM,↓A8,↓B3,↓A5,↓z7,↓v7,↓A3,↓y9,w9,u9,↓D0,↓A4,↓A6,u4,↓v9,↓u7]
  refine a2Q SB1 hLb wy' fun h2 o2=>?_
  have SA2:=SA1.old o2
  have fC:=fun Q=>b0B SA2 hMa Q
  rw[hLR]
  unfold e0J
  simp(disch:=omega)only[d9,↓RD9,e8,e10,eqL,D3,beq_self_eq_true,Bool.and_self,↓j0,l0,zA,zB,zC,zD,zE,zF,zG,zH,zI,reduceCtorEq,zJ,zK,zL,zM,↓A8,↓B3,↓A5,↓z7,↓v7,↓A3,↓y9,w9,u9,↓D0,↓A4,↓A6,u4,↓v9,↓u7]
  refine(fC _).2 ?_
  simp(disch:=omega)only[d9,↓RD9,↓j0,l0,zA,zB,zC,zD,zE,zF,zG,zH,zI,reduceCtorEq,zJ,zK,zL,zM,↓A8,↓B3,↓A5,↓z7,↓v7,↓A3,↓y9,w9,u9,↓D0,↓A4,↓A6,u4,↓v9,↓u7]
  refine a2Q SA2 hMa wz fun h3 o3=>?_
  have z0:((Ma.R.C:Int)-(lv0 (H9 x.2)).P.fl.length)=0:=by
   rw[hMR]
   show((H9 x.2).C:Int)-((List.range (H9 x.2).C).length:Nat)=0
   rw[List.length_range];omega
  unfold e0J
  rw[z0]
  have w0:(lv0 (H9 x.2)).al=0/\(lv0 (H9 x.2)).de=0/\(lv0 (H9 x.2)).bd=0/\(lv0 (H9 x.2)).U.tot=0:=⟨rfl,rfl,rfl,rfl⟩
  rw[w0.1,w0.2.1,w0.2.2.1,w0.2.2.2]
  simp(disch:=omega)only[d9,↓RD9,e8,e10,u5,eqL,D3,beq_self_eq_true,Bool.and_self,↓j0,l0,zA,zB,zC,zD,zE,zF,zG,zH,zI,reduceCtorEq,zJ,zK,zL,zM,↓A8,↓B3,↓A5,↓z7,↓v7,↓A3,↓y9,w9,u9,↓D0,↓A4,↓A6,u4,↓v9,↓u7]
 have b2:decide ((j:Int)<(l.length:Int))=true:=decide_eq_true (by omega)
 have nx:(j:Int)+1=((j+1:Nat):Int):=by omega
 have hL1:=hL.1
 have wj:IntKind.i64.wrap ((j+1:Nat):Int)=((j+1:Nat):Int):=by rw[W3];omega
 have hx:l[j]? =some l[j]:=yF cj
 obtain⟨z,hzd⟩:∃y,y=l[j]:=⟨_,rfl⟩
 rw[<-hzd]at hx
 obtain⟨bx,of,rfl,hbx,hr⟩:=hrd j z hx
 rw[<-oh.obj bx hbx]at hr
 have hmem:=yK hx
 have hsz:=hL.2 z hmem
 obtain⟨g,co,key,pk⟩:=z
 have hr:(hh.obj bx).read (of+j*4) 4=some [.int .i64 g,.int .i64 co,.string key,.bool pk]:=hr
 have hgg:=hg _ hmem
 have ig:=e8h hgg.1
 simp only at hsz
 obtain⟨kl,hkl,rfl⟩:=e5m key
 rw[a4g]at hsz
 have gW:=d8e g
 have m5:=O8 5 (by decide) co 31 (by decide)
 have p5:(2:Int) ^ 5=32:=by decide
 rw[p5]at m5
 have m1:=O8 1 (by decide) (j:Int) 1 (by decide)
 have p1:(2:Int) ^ 1=2:=by decide
 rw[p1]at m1
 obtain⟨cost,hcost⟩:∃cost,cost=co % 32:=⟨_,rfl⟩
 rw[<-hcost]at m5
 have cu:IntKind.u32.wrap cost=cost:=b1H (by omega) (by omega)
 have fG:=fun hh Q=>d0F hh g ig Q
 obtain⟨now,hnow⟩:∃now,now=w'.now+c6e g:=⟨_,rfl⟩
 obtain⟨h12,h12d,o12,n12,g12⟩:=Z1 hh (.cells [.int .i64 0,.int .i64 0,.string ⟨#[]⟩,.bool false] 48 .fix) (.cells [.int .i64 g,.int .i64 co,.string (bs kl),.bool pk] 48 .fix)
 obtain⟨h13,h13d,o13,n13,g13⟩:=Z1 h12 (.cells [.int .i64 0,.int .i64 0,.int .u32 0,.string ⟨#[]⟩,.int .i64 0] 61 .fix) (.cells [.int .i64 1,.int .i64 0,.int .u32 cost,.string (bs kl),.int .i64 0] 61 .fix)
 have A13:=(SA.old o12).old o13
 have B13:=(SB.old o12).old o13
 have qs1:∀(r s:List Int),((Qs.set (fun _=>none) 0 r).set 0 s)=Qs.set (fun _=>none) 0 s:=fun r s=>by
  funext i
  unfold Qs.set
  split<;>rfl
 have oh13:Old h h13:=(oh.trans o12).trans o13
 by_cases odd:(j:Int) % 2=1
 ·have bo:((j:Int) % 2==1)=true:=beq_iff_eq.2 odd
  obtain⟨h14,h14d⟩:∃h14,h14=h13.upd h12.next (.cells [.int .i64 1,.int .i64 1,.int .u32 cost,.string (bs kl),.int .i64 0] 61 .fix):=⟨_,rfl⟩
  have o14:OldF (fun z=>z=h12.next) h13 h14:=by rw[h14d];exact⟨yP _,fun z _ hz=>a6 _ _ hz⟩
  have n14:h14.next=h13.next:=by rw[h14d];rfl
  have g14:h14.obj h12.next=.cells [.int .i64 1,.int .i64 1,.int .u32 cost,.string (bs kl),.int .i64 0] 61 .fix:=by rw[h14d];exact a9 _ _ _
  have A14:=A13.oldF o14 fun z hz e=>by have:=alt z hz;omega
  have B14:=B13.oldF o14 fun z hz e=>by have:=blt z hz;omega
  have oh14:Old h h14:=SI.old' oh13 o14 fun z e=>by have:=oh13.next;omega
  simp(disch:=omega)only[b3T,d9,↓RD9,e8,e10,e12,e50,e51,e52,b2,hr,<-h12d,g12,fG,<-hnow,m5,cu,u5,<-h13d,m1,bo,g13,<-h14d,g14,↓j0,l0,zA,zB,zC,zD,zE,zF,zG,zH,zI,reduceCtorEq,zJ,zK,zL,zM,↓A8,↓B3,↓A5,↓z7,↓v7,↓A3,↓y9,w9,u9,↓D0,↓A4,↓A6,u4,↓v9,↓u7]
  refine a2G h14 1 1 cost kl 0 (.inl rfl) (by omega) hkl hsz fun h15 v15 b15 V15 o15 hb15=>?_
  have n15:=o15.next
  obtain⟨q,hq⟩:∃q:ReqV,q=⟨1,1,cost,kl,0⟩:=⟨_,rfl⟩
  have hqc:ReqC b.las.length q:=by
   rw[hq]
   exact⟨⟨.inl rfl,by show(0:Int)<=1/\(1:Int)<_/\(1:Int)<256;omega,by show(0:Int)<=cost/\cost<4294967296;omega,hsz,hkl,by show(0:Int)<=0/\(0:Int)<256;decide⟩,fun _=>rfl,fun h=>by simp at h,fun _=>rfl⟩
  have hfb:D5 q=M0 167 (a3I 1 1 cost kl 0):=by rw[hq];rfl
  rw[<-hfb]at V15
  obtain⟨fa,fcap,hv15,_⟩:=V15.val
  subst hv15
  have bno:¬b.own none b15:=fun hz=>by have:=blt _ hz;omega
  obtain⟨R,hR⟩:∃R,R=N9 b.las (w'.rd now,[]) q:=⟨_,rfl⟩
  obtain⟨r1,r2,r3,r4,r5⟩:=d0S b.las (w'.rd now,[]) q
  have r6:=a9U b.las w' now [] q
  have r7:(N9 b.las (w'.rd now,[]) q).1.1.ls[0]? =some y:=by
   obtain⟨yy,hyy⟩:∃yy,w'.ls[1]? =some yy:=⟨_,yF (by rw[SB.ll];omega)⟩
   rw[a9M (w:=w'.rd now) (L:=Mb) (v:=yy) (by rw[hq];exact hMb) (by rw[hq];exact hyy) wag' rfl,hq]
   show(w'.ls.set 1 _)[0]? =_
   rw[yI (by decide)];exact wy'
  rw[<-hR]at r1 r2 r3 r4 r5 r6 r7
  have r1:R.1.1.now=now:=by rw[r1];show max (max w'.now now) 0=now;omega
  have r3:R.1.1.k<=w'.k+1:=r3
  have r2:R.1.1.again=false:=r2.trans wag'
  simp(disch:=omega)only[d9,↓RD9,e8,e10,e50,e51,e52,u5,↓j0,l0,zA,zB,zC,zD,zE,zF,zG,zH,zI,reduceCtorEq,zJ,zK,zL,zM,↓A8,↓B3,↓A5,↓z7,↓v7,↓A3,↓y9,w9,u9,↓D0,↓A4,↓A6,u4,↓v9,↓u7]
  refine b4C (k:=0) (B14.old o15) rfl hqc hq (by omega) (by rw[houb];decide) now 0 (by omega) V15 bno hR fun h16 ev16 eb16 o16 B16 _=>?_
  have n16:=o16.next
  have A16:=(A14.old o15).oldF o16 hab
  simp(disch:=omega)only[d9,↓RD9,e8,e10,e50,e51,e52,u5,↓j0,l0,zA,zB,zC,zD,zE,zF,zG,zH,zI,reduceCtorEq,zJ,zK,zL,zM,↓A8,↓B3,↓A5,↓z7,↓v7,↓A3,↓y9,w9,u9,↓D0,↓A4,↓A6,u4,↓v9,↓u7]
  refine a5L (k:=0) B16 (Qs.set_self _ _ _) now 99 (by omega) fun h17 u b17 o17 B17 V17 hb17=>?_
  have n17:=o17.next
  have A17:=A16.oldF o17 hab
  have d22:([]++R.2).drop (99:Int).toNat=[]:=by rw[List.nil_append];exact List.drop_eq_nil_of_le (by show R.2.length<=99;omega)
  rw[d22,r6,qs1,qs1]at B17
  simp(disch:=omega)only[d9,↓RD9,e8,e10,e50,e51,e52,nx,wj,↓j0,l0,zA,zB,zC,zD,zE,zF,zG,zH,zI,reduceCtorEq,zJ,zK,zL,zM,↓A8,↓B3,↓A5,↓z7,↓v7,↓A3,↓y9,w9,u9,↓D0,↓A4,↓A6,u4,↓v9,↓u7]
  refine⟨d-1,by omega,j+1,w,R.1.1,y,by omega,SI.old' (SI.old' (oh14.trans o15) o16 oldb) o17 oldb,by omega,A17,B17,by omega,by omega,by rw[r1];omega,by rw[r1];omega,wag,r2,wy,r7,wz,?_⟩
  repeat' first|assumption|rfl|apply And.intro
  rw[r1]
 have bo:((j:Int) % 2==1)=false:=beq_eq_false_iff_ne.2 odd
 simp(disch:=omega)only[b3T,d9,↓RD9,e8,e10,e12,e50,e51,e52,b2,hr,<-h12d,g12,fG,<-hnow,m5,cu,u5,<-h13d,m1,bo,g13,↓j0,l0,zA,zB,zC,zD,zE,zF,zG,zH,zI,reduceCtorEq,zJ,zK,zL,zM,↓A8,↓B3,↓A5,↓z7,↓v7,↓A3,↓y9,w9,u9,↓D0,↓A4,↓A6,u4,↓v9,↓u7]
 obtain⟨q,hq⟩:∃q:ReqV,q=⟨1,0,cost,kl,0⟩:=⟨_,rfl⟩
 have hqc:ReqC a.las.length q:=by
  rw[hq]
  exact⟨⟨.inl rfl,by show(0:Int)<=0/\(0:Int)<_/\(0:Int)<256;omega,by show(0:Int)<=cost/\cost<4294967296;omega,hsz,hkl,by show(0:Int)<=0/\(0:Int)<256;decide⟩,fun _=>rfl,fun h=>by simp at h,fun _=>rfl⟩
 have hqcb:ReqC b.las.length q:=by rw[lenb,<-lena];exact hqc
 have hfb:D5 q=M0 167 (a3I 1 0 cost kl 0):=by rw[hq];rfl
 refine a2G h13 1 0 cost kl 0 (.inl rfl) (by omega) hkl hsz fun h15 v15 b15 V15 o15 hb15=>?_
 have n15:=o15.next
 rw[<-hfb]at V15
 obtain⟨fa,fcap,hv15,_⟩:=V15.val
 subst hv15
 have g15:=(o15.obj h12.next (by omega)).trans g13
 obtain⟨r,hr'⟩:∃r,r=B6 La.R La.rp y now 0 (bs kl) cost:=⟨_,rfl⟩
 have na:(w.rd now).now=now:=by show max (max w.now now) 0=now;omega
 have nb:(w'.rd now).now=now:=by show max (max w'.now now) 0=now;omega
 have Ra:=a9M (las:=a.las) (w:=w.rd now) (evs:=[]) (q:=q) (L:=La) (v:=y) (by rw[hq];exact hLa) (by rw[hq];exact wy) wag (r:=r) (by rw[na,hq];exact hr')
 have Rb:=a9M (las:=b.las) (w:=w'.rd now) (evs:=[]) (q:=q) (L:=Lb) (v:=y) (by rw[hq];exact hLb) (by rw[hq];exact wy') wag' (r:=r) (by rw[nb,hq,<-hLS];exact hr')
 have q0r:q.rule.toNat=0:=by rw[hq];rfl
 rw[q0r,List.nil_append]at Ra Rb
 obtain⟨evs,hevs⟩:∃evs,evs=evO q.rule r.2.1:=⟨_,rfl⟩
 have evl:evs.length<=2:=by
  have:=a2l La.R La.rp y now 0 (bs kl) cost
  rw[<-hr']at this
  rw[hevs];unfold evO;rw[yL];exact this
 obtain⟨byt,hbyt⟩:∃byt,byt=a3P 1 r.1.1 r.1.2.1 r.1.2.2:=⟨_,rfl⟩
 have bytl:byt.length=22:=by rw[hbyt];exact a6i _ _ _ _
 rw[<-hevs,<-hbyt]at Ra Rb
 obtain⟨ua,hua⟩:∃ua:SW,ua={ w.rd now with ls:=(w.rd now).ls.set 0 r.2.2,k:=(w.rd now).k+1 }:=⟨_,rfl⟩
 obtain⟨ub,hub⟩:∃ub:SW,ub={ w'.rd now with ls:=(w'.rd now).ls.set 0 r.2.2,k:=(w'.rd now).k+1 }:=⟨_,rfl⟩
 rw[<-hua]at Ra
 rw[<-hub]at Rb
 have r6a:=a9U a.las w now [] q
 have r6b:=a9U b.las w' now [] q
 rw[Ra]at r6a
 rw[Rb]at r6b
 simp only at r6a r6b
 have bnoa:¬a.own none b15:=fun hz=>by have:=alt _ hz;omega
 simp(disch:=omega)only[d9,↓RD9,e8,e10,e50,e51,e52,u5,↓j0,l0,zA,zB,zC,zD,zE,zF,zG,zH,zI,reduceCtorEq,zJ,zK,zL,zM,↓A8,↓B3,↓A5,↓z7,↓v7,↓A3,↓y9,w9,u9,↓D0,↓A4,↓A6,u4,↓v9,↓u7]
 refine b4C (k:=0) (A13.old o15) rfl hqc hq (by omega) (by rw[hou];decide) now 0 (by omega) V15 bnoa Ra.symm fun h16 ev16 eb16 o16 A16 V16=>?_
 have n16:=o16.next
 have g16:=(o16.obj h12.next (by omega) fun hz=>by have:=alt _ hz;omega).trans g15
 have B16:=(B13.old o15).oldF o16 hab'
 simp(disch:=omega)only[d9,↓RD9,e8,e10,e50,e51,e52,g13,g15,g16,u5,↓j0,l0,zA,zB,zC,zD,zE,zF,zG,zH,zI,reduceCtorEq,zJ,zK,zL,zM,↓A8,↓B3,↓A5,↓z7,↓v7,↓A3,↓y9,w9,u9,↓D0,↓A4,↓A6,u4,↓v9,↓u7]
 refine a2G h16 1 0 cost kl 0 (.inl rfl) (by omega) hkl hsz fun h17 v17 b17 V17 o17 hb17=>?_
 have n17:=o17.next
 rw[<-hfb]at V17
 obtain⟨fa2,fcap2,hv17,_⟩:=V17.val
 subst hv17
 have bnob:¬b.own none b17:=fun hz=>by have:=blt _ hz;omega
 simp(disch:=omega)only[d9,↓RD9,e8,e10,e50,e51,e52,u5,↓j0,l0,zA,zB,zC,zD,zE,zF,zG,zH,zI,reduceCtorEq,zJ,zK,zL,zM,↓A8,↓B3,↓A5,↓z7,↓v7,↓A3,↓y9,w9,u9,↓D0,↓A4,↓A6,u4,↓v9,↓u7]
 refine b4C (k:=0) (B16.old o17) rfl hqcb hq (by omega) (by rw[houb];decide) now 0 (by omega) V17 bnob Rb.symm fun h18 ev18 eb18 o18 B18 V18=>?_
 have n18:=o18.next
 have A18:=(A16.old o17).oldF o18 hab
 obtain⟨V16,f16⟩:=V16
 obtain⟨V18,f18⟩:=V18
 obtain⟨ea,eac,hea,_⟩:=V16.val
 subst hea
 obtain⟨eb,ebc,heb,_⟩:=V18.val
 subst heb
 obtain⟨h19,h19d⟩:∃h19,h19=(((h18.new (.cells [.int .i64 0,.int .i64 0,.slice none 0 0,.slice none 0 0] 42 .fix)).new (.cells [.int .i64 0,.int .i64 0,.slice none 0 0,.slice none 0 0] 42 .fix)).upd h18.next (.cells [.int .i64 0,.int .i64 ((D5 q).length:Nat),.slice none 0 0,.slice ea evs.length eac] 42 .fix)).upd (h18.next+1) (.cells [.int .i64 0,.int .i64 ((D5 q).length:Nat),.slice none 0 0,.slice eb evs.length ebc] 42 .fix):=⟨_,rfl⟩
 have o19:Old h18 h19:=by rw[h19d];exact⟨by simp only[l6,f4];omega,fun z hz=>by rw[a6 _ _ (by omega),a6 _ _ (by omega),b7 _ _ (by simp only[f4];omega),b7 _ _ (by omega)]⟩
 have n19:h19.next=h18.next+1+1:=by rw[h19d];rfl
 have x19:h19.obj h18.next=.cells [.int .i64 0,.int .i64 ((D5 q).length:Nat),.slice none 0 0,.slice ea evs.length eac] 42 .fix:=by rw[h19d,a6 _ _ (by omega)];exact a9 _ _ _
 have y19:h19.obj (h18.next+1)=.cells [.int .i64 0,.int .i64 ((D5 q).length:Nat),.slice none 0 0,.slice eb evs.length ebc] 42 .fix:=by rw[h19d];exact a9 _ _ _
 simp(disch:=omega)only[d9,↓RD9,e8,e10,e50,e51,e52,J3,u5,<-h19d,↓j0,l0,zA,zB,zC,zD,zE,zF,zG,zH,zI,reduceCtorEq,zJ,zK,zL,zM,↓A8,↓B3,↓A5,↓z7,↓v7,↓A3,↓y9,w9,u9,↓D0,↓A4,↓A6,u4,↓v9,↓u7]
 refine a5L (k:=0) (A18.old o19) (Qs.set_self _ _ _) now 99 (by omega) fun h20 u b20 o20 A20 V20 hb20=>?_
 have n20:=o20.next
 have t22:([]++byt).take (99:Int).toNat=byt:=by rw[List.nil_append];exact List.take_of_length_le (by show byt.length<=99;omega)
 have d22:([]++byt).drop (99:Int).toNat=[]:=by rw[List.nil_append];exact List.drop_eq_nil_of_le (by show byt.length<=99;omega)
 rw[t22]at V20
 rw[d22,qs1,qs1]at A20
 have B20:=(B18.old o19).oldF o20 hab'
 simp(disch:=omega)only[d9,↓RD9,e8,e10,e50,e51,e52,J3,u5,↓j0,l0,zA,zB,zC,zD,zE,zF,zG,zH,zI,reduceCtorEq,zJ,zK,zL,zM,↓A8,↓B3,↓A5,↓z7,↓v7,↓A3,↓y9,w9,u9,↓D0,↓A4,↓A6,u4,↓v9,↓u7]
 refine a5L (k:=0) B20 (Qs.set_self _ _ _) now 99 (by omega) fun h21 u' b21 o21 B21 V21 hb21=>?_
 have n21:=o21.next
 rw[t22]at V21
 rw[d22,qs1,qs1]at B21
 have A21:=A20.oldF o21 hab
 obtain⟨da,dac,hda,_⟩:=V20.val
 subst hda
 obtain⟨db,dbc,hdb,_⟩:=V21.val
 subst hdb
 obtain⟨h22,h22d⟩:∃h22,h22=(((h21.new (.cells [.int .i64 0,.int .i64 0,.slice none 0 0,.slice none 0 0] 42 .fix)).new (.cells [.int .i64 0,.int .i64 0,.slice none 0 0,.slice none 0 0] 42 .fix)).upd h21.next (.cells [.int .i64 0,.int .i64 0,.slice da byt.length dac,.slice none 0 0] 42 .fix)).upd (h21.next+1) (.cells [.int .i64 0,.int .i64 0,.slice db byt.length dbc,.slice none 0 0] 42 .fix):=⟨_,rfl⟩
 have o22:Old h21 h22:=by rw[h22d];exact⟨by simp only[l6,f4];omega,fun z hz=>by rw[a6 _ _ (by omega),a6 _ _ (by omega),b7 _ _ (by simp only[f4];omega),b7 _ _ (by omega)]⟩
 have n22:h22.next=h21.next+1+1:=by rw[h22d];rfl
 have x22:h22.obj h21.next=.cells [.int .i64 0,.int .i64 0,.slice da byt.length dac,.slice none 0 0] 42 .fix:=by rw[h22d,a6 _ _ (by omega)];exact a9 _ _ _
 have y22:h22.obj (h21.next+1)=.cells [.int .i64 0,.int .i64 0,.slice db byt.length dbc,.slice none 0 0] 42 .fix:=by rw[h22d];exact a9 _ _ _
 have away:∀z,h11.next<=z->¬a.own none z/\¬b.own none z:=fun z hz=>⟨fun h=>by have:=alt z h;omega,fun h=>by have:=blt z h;omega⟩
 have k19:∀z,h11.next<=z->z<h19.next->h22.obj z=h19.obj z:=fun z h1 h2=>by rw[o22.obj z (by omega),o21.obj z (by omega) (away z h1).2,o20.obj z h2 (away z h1).1]
 have x23:=(k19 h18.next (by omega) (by omega)).trans x19
 have y23:=(k19 (h18.next+1) (by omega) (by omega)).trans y19
 have EA:Lst h22 EvE (.slice ea evs.length eac) evs:=by
  rcases f16 with⟨e1,e2⟩|f16
  ·rw[show Value.slice ea evs.length eac=.slice none 0 0 from e2,show evs=[]from e1];exact⟨none,0,rfl,fun i x hx=>by simp at hx⟩
  ·refine(V16.keep (h' :=h22) (by omega) fun hl=>?_).sl
   rw[k19 eb16 (by omega) (by omega),o19.obj eb16 (by omega),o18.obj eb16 (by omega) (away eb16 (by omega)).2,o17.obj eb16 hl]
 have EB:Lst h22 EvE (.slice eb evs.length ebc) evs:=by
  rcases f18 with⟨e1,e2⟩|f18
  ·rw[show Value.slice eb evs.length ebc=.slice none 0 0 from e2,show evs=[]from e1];exact⟨none,0,rfl,fun i x hx=>by simp at hx⟩
  ·refine(V18.keep (h' :=h22) (by omega) fun hl=>?_).sl
   rw[k19 eb18 (by omega) (by omega),o19.obj eb18 (by omega)]
 have DA:X7 h22 (.slice da byt.length dac) byt:=(V20.keep (h' :=h22) (by omega) fun hl=>by rw[o22.obj b20 (by omega),o21.obj b20 hl (away b20 (by omega)).2]).bys
 have DB:X7 h22 (.slice db byt.length dbc) byt:=(V21.keep (h' :=h22) (by omega) fun hl=>o22.obj b21 hl).bys
 have NB:X7 h22 (.slice none 0 0) []:=.inl ⟨rfl,rfl⟩
 have NE:Lst h22 EvE (.slice none 0 0) []:=⟨none,0,rfl,fun i x hx=>by simp at hx⟩
 simp(disch:=omega)only[d9,↓RD9,e8,e10,e50,e51,e52,J3,u5,<-h22d,x22,y22,x23,y23,↓j0,l0,zA,zB,zC,zD,zE,zF,zG,zH,zI,reduceCtorEq,zJ,zK,zL,zM,↓A8,↓B3,↓A5,↓z7,↓v7,↓A3,↓y9,w9,u9,↓D0,↓A4,↓A6,u4,↓v9,↓u7]
 refine c2n h22 0 _ NB NB EA EB (by omega) fun h23 o23=>?_
 have n23:=o23.next
 have x24:=(o23.obj h21.next (by omega)).trans x22
 have y24:=(o23.obj (h21.next+1) (by omega)).trans y22
 simp(disch:=omega)only[d9,↓RD9,e8,e10,e50,e51,e52,x24,y24,Bool.not_true,↓j0,l0,zA,zB,zC,zD,zE,zF,zG,zH,zI,reduceCtorEq,zJ,zK,zL,zM,↓A8,↓B3,↓A5,↓z7,↓v7,↓A3,↓y9,w9,u9,↓D0,↓A4,↓A6,u4,↓v9,↓u7]
 refine c2n h23 0 0 (DA.old o23) (DB.old o23) (NE.old o23) (NE.old o23) (by decide) fun h24 o24=>?_
 have n24:=o24.next
 have A24:=((A21.old o22).old o23).old o24
 have B24:=((B21.old o22).old o23).old o24
 rw[r6a]at A24
 rw[r6b]at B24
 have oh24:Old h h24:=((SI.old' (SI.old' ((SI.old' ((SI.old' (oh13.trans o15) o16 olda).trans o17) o18 oldb).trans o19) o20 olda) o21 oldb).trans o22).trans (o23.trans o24)
 have ya:∀u:SW,u.ls.length=2->(u.ls.set 0 r.2.2)[0]? =some r.2.2:=fun u hu=>yH (by omega)
 have l2a:=SA.ll
 have l2b:=SB.ll
 simp(disch:=omega)only[d9,↓RD9,e8,e10,e50,e51,e52,Bool.not_true,nx,wj,↓j0,l0,zA,zB,zC,zD,zE,zF,zG,zH,zI,reduceCtorEq,zJ,zK,zL,zM,↓A8,↓B3,↓A5,↓z7,↓v7,↓A3,↓y9,w9,u9,↓D0,↓A4,↓A6,u4,↓v9,↓u7]
 refine⟨d-1,by omega,j+1,ua,ub,r.2.2,by omega,oh24,by omega,A24,B24,?_,?_,?_,?_,?_,?_,?_,?_,?_,?_⟩
 ·rw[hua];show w.k+1<=_;omega
 ·rw[hub];show w'.k+1<=_;omega
 ·rw[hua,hub];show(w.rd now).now<=(w'.rd now).now;omega
 ·rw[hub];show(w'.rd now).now<=_;omega
 ·rw[hua];exact wag
 ·rw[hub];exact wag'
 ·rw[hua];exact ya w (by omega)
 ·rw[hub];exact ya w' (by omega)
 ·rw[hua];show(w.ls.set 0 _)[1]? =_;rw[yI (by decide)];exact wz
 ·have nub:ub.now=now:=by rw[hub];exact nb
  repeat' first|assumption|rfl|apply And.intro
  rw[nub]
end Go.Proofs.YtlakhgibjfmjjaaGreat.Can
namespace Go.Proofs.YtlakhgibjfmjjaaGreat.Can
open Go
theorem e9q:b5F Tryz.prog e8U p9 Tryz.f9=some d9:=by kernel_rfl
end Go.Proofs.YtlakhgibjfmjjaaGreat.Can
namespace Go.Proofs.YtlakhgibjfmjjaaGreat.wholeRules
open Go.ChangeShapes Go.WideShapes Go.ChangeAt Go.RowKit Go.Proofs.YtlakhgibjfmjjaaGreat.Can
open Go.ChangeMaps (open_string shut_string)
theorem own:ownKnob Tryz.prog.godebug=none:=by kernel_rfl
theorem laidOut:laidOutB Tryz.prog=true:=by kernel_rfl
theorem op3:Ar Tryz.prog 3 (Enc.int .i64) (fun x=>(Lit.int .i64 x).wf=true):=Ar.int Tryz.underlying3 (by kernel_rfl)
theorem op4:Ar Tryz.prog 4 Enc.bool (fun _=>True):=Ar.bool Tryz.underlying4 (by kernel_rfl)
theorem op23:Ar Tryz.prog 23 (Enc.pair (Enc.int .i64) (Enc.pair (Enc.int .i64) (Enc.pair (Enc.int .i64) (Enc.pair (Enc.int .i64) (Enc.pair (Enc.int .i64) (Enc.pair (Enc.int .i64) (Enc.pair (Enc.int .i64) (Enc.pair (Enc.int .i64) Enc.bool)))))))) (fun x=>((Lit.int .i64 x.1).wf=true/\(Lit.int .i64 x.2.1).wf=true/\(Lit.int .i64 x.2.2.1).wf=true/\(Lit.int .i64 x.2.2.2.1).wf=true/\(Lit.int .i64 x.2.2.2.2.1).wf=true/\(Lit.int .i64 x.2.2.2.2.2.1).wf=true/\(Lit.int .i64 x.2.2.2.2.2.2.1).wf=true/\(Lit.int .i64 x.2.2.2.2.2.2.2.1).wf=true/\True)):=Ar.struct Tryz.underlying23 (by kernel_rfl) (Ar.fsCons op3 (Ar.fsCons op3 (Ar.fsCons op3 (Ar.fsCons op3 (Ar.fsCons op3 (Ar.fsCons op3 (Ar.fsCons op3 (Ar.fsCons op3 (Ar.fsOne op4)))))))))
theorem op103:Ar Tryz.prog 103 (Enc.pair (Enc.pair (Enc.int .i64) (Enc.pair (Enc.int .i64) (Enc.pair (Enc.int .i64) (Enc.pair (Enc.int .i64) (Enc.pair (Enc.int .i64) (Enc.pair (Enc.int .i64) (Enc.pair (Enc.int .i64) (Enc.pair (Enc.int .i64) Enc.bool)))))))) (Enc.pair (Enc.int .i64) (Enc.pair (Enc.int .i64) (Enc.pair (Enc.int .i64) (Enc.pair (Enc.int .i64) (Enc.pair (Enc.int .i64) (Enc.pair (Enc.int .i64) (Enc.pair (Enc.int .i64) (Enc.pair (Enc.int .i64) Enc.bool))))))))) (fun x=>(((Lit.int .i64 x.1.1).wf=true/\(Lit.int .i64 x.1.2.1).wf=true/\(Lit.int .i64 x.1.2.2.1).wf=true/\(Lit.int .i64 x.1.2.2.2.1).wf=true/\(Lit.int .i64 x.1.2.2.2.2.1).wf=true/\(Lit.int .i64 x.1.2.2.2.2.2.1).wf=true/\(Lit.int .i64 x.1.2.2.2.2.2.2.1).wf=true/\(Lit.int .i64 x.1.2.2.2.2.2.2.2.1).wf=true/\True)/\((Lit.int .i64 x.2.1).wf=true/\(Lit.int .i64 x.2.2.1).wf=true/\(Lit.int .i64 x.2.2.2.1).wf=true/\(Lit.int .i64 x.2.2.2.2.1).wf=true/\(Lit.int .i64 x.2.2.2.2.2.1).wf=true/\(Lit.int .i64 x.2.2.2.2.2.2.1).wf=true/\(Lit.int .i64 x.2.2.2.2.2.2.2.1).wf=true/\(Lit.int .i64 x.2.2.2.2.2.2.2.2.1).wf=true/\True))):=Ar.arr2 Tryz.underlying103 (by kernel_rfl) op23
theorem op78:Ar Tryz.prog 78 (Enc.int .u64) (fun x=>(Lit.int .u64 x).wf=true):=Ar.int Tryz.underlying78 (by kernel_rfl)
theorem op2:Ar Tryz.prog 2 (Enc.int .i64) (fun x=>(Lit.int .i64 x).wf=true):=Ar.int Tryz.underlying2 (by kernel_rfl)
theorem op9:Ar Tryz.prog 9 Enc.str (fun x=>x.size<=maxLen):=Ar.str Tryz.underlying9 (by kernel_rfl)
theorem op48:Ar Tryz.prog 48 (Enc.pair (Enc.int .i64) (Enc.pair (Enc.int .i64) (Enc.pair Enc.str Enc.bool))) (fun x=>((Lit.int .i64 x.1).wf=true/\(Lit.int .i64 x.2.1).wf=true/\x.2.2.1.size<=maxLen/\True)):=Ar.struct Tryz.underlying48 (by kernel_rfl) (Ar.fsCons op2 (Ar.fsCons op2 (Ar.fsCons op9 (Ar.fsOne op4))))
set_option maxRecDepth 100000 in
theorem lifted(os:Os)(started:os.Started)(H:Type)(enc:TypeId×Value->H):
  ReturnsInHanded {} Tryz.checked os 9 .any (Rows.wholeRulesSpec.pre6 enc Tryz.prog Tryz.f9 Rows.wholeRulesRow.domain false) (Rows.wholeRulesSpec.post enc Tryz.prog Tryz.f9 false true false false):=by
 refine returnsInHanded_of_change_sized (C:=Tryz.checked) own started (by kernel_rfl) Tryz.func9
  (ChangeSpec.witness6 (enc:=enc) (C:=Tryz.checked) false ⟨#[],#[.agg #[.int .i64 0,.int .i64 0,.int .i64 0,.int .i64 0,.int .i64 0,.int .i64 0,.int .i64 0,.int .i64 0,.bool false,.int .i64 0,.int .i64 0,.int .i64 0,.int .i64 0,.int .i64 0,.int .i64 0,.int .i64 0,.int .i64 0,.bool false],.slice none 0 0,.slice none 0 0],[]⟩ 8 (by kernel_rfl) (by kernel_rfl) (by kernel_rfl) (by kernel_rfl)) ?_
 intro W base args ds gs before hval0 hW hcnd hsz0 _
 have hsz:(DataW.weightsEach Tryz.prog (Tryz.f9.params.toList++Rows.wholeRulesSpec.plain.varTypes Tryz.prog) (ds++gs)).all (· <=reachBytes)=true:=hsz0
 have hval:∀(j:Nat) t v,Tryz.f9.params[j]? =some t->args[j]? =some v->Value.okWide Tryz.prog W .any base t v:=hval0
 have hW' :=hW
 obtain⟨p,q,hA0,hV,rfl,hfz,hnd⟩:=hW
 have hA:DataW.TrodAll enc Tryz.prog W 0 (fun _=>true) true Tryz.f9.params.toList args.toList ds p:=hA0
 rw[Tryz.params9]at hA hval hsz
 obtain⟨v0,vs0,d0,ds0,p0,q0,hargs,rfl,rfl,h0,r0⟩:=trodAll_cons hA
 obtain⟨v1,vs1,d1,ds1,p1,q1,rfl,rfl,rfl,h1,r1⟩:=trodAll_cons r0
 obtain⟨v2,vs2,d2,ds2,p2,q2,rfl,rfl,rfl,h2,r2⟩:=trodAll_cons r1
 obtain⟨rfl,rfl,rfl⟩:=trodAll_nil r2
 obtain rfl:args= #[v0,v1,v2]:=by cases args;simp_all
 obtain⟨rfl,rfl⟩:=trodVars_none hV
 obtain⟨cs0,rfl,hz0⟩:=Ar.okWide_array Tryz.underlying103 (hval 0 103 v0 rfl rfl)
 have k0:=h0
 have lt0:∀x∈p0,x.block<W.heap.size:=by obtain⟨m,hm⟩:=k0;exact DataW.trod_lt m _ _ _ hm
 obtain⟨x0,rfl,g0⟩:=Ar.agg op103 h0
 obtain⟨a1,len1,cap1,rfl⟩:=okWide_slice Tryz.underlying24 (hval 1 24 v1 rfl rfl)
 have hb1:=a0b Tryz.underlying24 (hval 1 24 _ rfl rfl)
 have k1:=h1
 have lt1:∀x∈p1,x.block<W.heap.size:=by obtain⟨m,hm⟩:=k1;exact DataW.trod_lt m _ _ _ hm
 obtain⟨l1,u1,hS1,hR1,hl1,hc1,hm1,hg1⟩:=a4B Tryz.underlying24 op78 (by decide) hb1 h1
 obtain⟨a2,len2,cap2,rfl⟩:=okWide_slice Tryz.underlying25 (hval 2 25 v2 rfl rfl)
 have hb2:=a0b Tryz.underlying25 (hval 2 25 _ rfl rfl)
 have k2:=h2
 have lt2:∀x∈p2,x.block<W.heap.size:=by obtain⟨m,hm⟩:=k2;exact DataW.trod_lt m _ _ _ hm
 obtain⟨l2,u2,hS2,hR2,hl2,hc2,hm2,hg2⟩:=a4B Tryz.underlying25 op48 (by decide) hb2 h2
 clear hA0 hval0 hsz0 hsz
 refine(b5l d2J c6R Tryz.func9 e9q (wholeRules_law (U3 W) x0 g0 u1 l1 hS1 (by omega) hg1 u2 l2 hS2 (by omega) hg2) (VL.cons (VR.enc _ _) (VL.cons hR1 (VL.cons hR2 (VL.nil _)))) (Emb.id Tryz.prog W) (b5n Tryz.prog W)).mono fun e W' ⟨he,bel⟩=>?_
 subst he
 exact⟨_,rfl,_,_,_,[],_,[],hW',trodAll_mk1 (shut_bool Tryz.underlying4 _),(trodAll_cons_mk (Below.trod laidOut (by kernel_rfl) (of_decide_eq_true (by kernel_rfl)) k0 bel lt0) (trodAll_cons_mk (Below.trod laidOut (by kernel_rfl) (of_decide_eq_true (by kernel_rfl)) k1 bel lt1) (trodAll_cons_mk (Below.trod laidOut (by kernel_rfl) (of_decide_eq_true (by kernel_rfl)) k2 bel lt2) trodAll_mk0))),rfl,bel.frame _,fun h=>by cases h⟩
theorem over:Rows.wholeRulesRow.holds Tryz.pinned (OpenSpec.ofChange Rows.wholeRulesSpec):=
 OpenClaim.holds_of_wide 9 Tryz.f9 rfl rfl rfl rfl rfl rfl rfl ⟨rfl,rfl,rfl,rfl,rfl⟩ rfl rfl rfl rfl rfl (by kernel_rfl) Tryz.func9 (by kernel_rfl)
  (of_decide_eq_true (by kernel_rfl)) (by unfold Func.isWrapper;first| (rw[if_pos (by decide+kernel)];kernel_rfl)| (rw[if_neg (by decide+kernel)];exact⟨rfl,rfl⟩))
  (fun os started H enc _=>lifted os started H enc)
theorem proved:Rows.WholeRulesSaid:=over
end Go.Proofs.YtlakhgibjfmjjaaGreat.wholeRules
namespace Go.Proofs.YtlakhgibjfmjjaaGreat
theorem wholeRules_holds:Rows.WholeRulesSaid:=wholeRules.proved
end Go.Proofs.YtlakhgibjfmjjaaGreat
