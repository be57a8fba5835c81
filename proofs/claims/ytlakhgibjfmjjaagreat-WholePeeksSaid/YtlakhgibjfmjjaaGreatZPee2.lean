/- Part 2 of 6 of the proof of the row RowWholePeeks: whatever the input, the law returns true. No condition. -/
import Derived.Test.YtlakhgibjfmjjaaGreatZPee1
import Derived.Below
import Derived.ChangeArms
import Derived.Deep.Slices
import Derived.OpenShut
import Derived.RowKit
import Derived.Scope
import Derived.WideShapes
set_option linter.unusedSimpArgs false
set_option linter.unusedVariables false
set_option linter.defProp false
set_option maxHeartbeats 4000000
open Nat renaming lt_of_lt_of_le → uzN, le_refl → uzP, le_trans → uzR, mul_one → uzS, lt_succ_self → vpz, zero_add → vsz, mul_le_mul_right → vzz, add_mul → vDz, le_of_not_lt → vGz, zero_le → vJz, sub_self → vKz, le_succ → vLz, lt_or_ge → vMz
open Int renaming toNat_natCast → vAz
open Option renaming some.inj → uzA, some.injEq → uzC, map_eq_some_iff → uzD, bind_eq_some_iff → vhz, map_some → vlz, getD_some → vFz
open Prod renaming mk.injEq → uzB
open List renaming getElem?_eq_getElem → uzF, length_append → uzG, getElem?_map → uzJ, length_map → uzL, length_cons → uzM, set_cons_zero → vbz, getD_eq_getElem?_getD → vcz, length_singleton → vdz, set_cons_succ → vez, getElem?_append_right → vfz, length_set → viz, length_nil → vkz, getElem?_eq_none → vmz, take_of_length_le → vnz, getElem?_take → voz, length_take → vqz, nil_append → vrz, append_nil → vtz, getElem?_append_left → vuz, append_assoc → vvz, drop_zero → vwz, getElem?_cons_succ → vBz, cons_append → vCz, getElem?_drop → vEz
open Bool renaming false_eq_true → vgz, and_eq_true → vjz
namespace Go.Proofs.YtlakhgibjfmjjaaGreat.Can
open Go
def Heap.Wf(h:Heap):Prop:=∀b,h.next<=b->h.obj b=.gone
def Beh(S:Stay)(m:Map)(A G:Heap):Stay:=⟨S.keep,fun k=>S.far k\/∃b L,m b=some L/\L.blk=k/\(A.obj b).live=true/\G.obj b=.gone,S.lp⟩
theorem Emb.view{P:Program}{S:Stay}{m:Map}{A G:Heap}{w:World}(e:Emb P S m A w)(hv:∀b,m b≠none->G.obj b=.gone\/G.obj b=A.obj b)(hw:G.Wf):Emb P (Beh S m A G) m G w:=by
 have lv:∀b L,m b=some L->(G.obj b).live=true->G.obj b=A.obj b:=fun b L hb hl=>by
  rcases hv b (by simp[hb])with h|h
  ·rw[h]at hl;simp[Obj.live]at hl
  ·exact h
 refine⟨fun b L hb hl=>e.lt b L hb (by rw[<-lv b L hb hl];exact hl),fun b c L K hb hc hlb hlc heq=>?_,fun b L hb=>?_,fun b L hb hwr=>?_,fun b L hb hl hs=>?_,fun k hk=>?_,hw,fun b I hI=>by
  obtain⟨q1,q2,q3⟩:=e.lp b I hI
  refine⟨q1,q2,fun st pd ho r hr=>q3 st pd ?_ r hr⟩
  rw[<-lv b I.L q1 (by rw[ho];rfl)];exact ho⟩
 ·exact e.inj b c L K hb hc (by rw[<-lv b L hb hlb];exact hlb) (by rw[<-lv c K hc hlc];exact hlc) heq
 ·rcases hv b (by simp[hb])with h|h
  ·rw[h];trivial
  ·rw[h];exact e.obj b L hb
 ·rcases hv b (by simp[hb])with h|h
  ·rw[h]at hwr;simp[Obj.wr]at hwr
  ·rw[h]at hwr;exact e.prot b L hb hwr
 ·have hA:(A.obj b).live=true:=by rw[<-lv b L hb hl];exact hl
  rcases hs with hs| ⟨c,K,hc,hk,hlc,hg⟩
  ·exact e.far b L hb hA hs
  ·have:=e.inj b c L K hb hc hA hlc hk.symm
   subst this
   rw[hg]at hl;simp[Obj.live]at hl
 ·rcases hk with hk|hk| ⟨b,L,hb,rfl,hl,_⟩
  ·exact e.sLt k (.inl hk)
  ·exact e.sLt k (.inr hk)
  ·exact e.lt b L hb hl
theorem Emb.same{P:Program}{S:Stay}{m:Map}{A G:Heap}{w:World}(e:Emb P S m A w)(hv:∀b,m b≠none->G.obj b=A.obj b)(hw:G.Wf):Emb P S m G w:=by
 have lv:∀b L,m b=some L->G.obj b=A.obj b:=fun b L hb=>hv b (by simp[hb])
 refine⟨fun b L hb hl=>e.lt b L hb (by rw[lv b L hb]at hl;exact hl),fun b c L K hb hc hlb hlc heq=>?_,fun b L hb=>?_,fun b L hb hwr=>?_,fun b L hb hl=>?_,e.sLt,hw,fun b I hI=>by
  obtain⟨q1,q2,q3⟩:=e.lp b I hI
  exact⟨q1,q2,fun st pd ho r hr=>q3 st pd (by rw[<-lv b I.L q1];exact ho) r hr⟩⟩
 ·rw[lv b L hb]at hlb;rw[lv c K hc]at hlc;exact e.inj b c L K hb hc hlb hlc heq
 ·rw[lv b L hb];exact e.obj b L hb
 ·rw[lv b L hb]at hwr;exact e.prot b L hb hwr
 ·rw[lv b L hb]at hl;exact e.far b L hb hl
theorem Emb.back{P:Program}{S:Stay}{m m1:Map}{A A1 G G1:Heap}{w w1:World}(e:Emb P S m A w)(o:Out P (Beh S m A G) m G w m1 G1 w1)
  (hA:∀b,m1 b≠none->A1.obj b=G1.obj b\/(m b≠none/\A1.obj b=A.obj b/\G.obj b=.gone)) (hw:A1.Wf):Emb P S m1 A1 w1:=by
 have old:∀b L,m1 b=some L->m b≠none->m b=some L:=fun b L hb hm=>by
  cases hq:m b with
  |none=>exact absurd hq hm
  |some K=>have:=o.ext b K hq;rw[hb]at this;exact this.symm
 have hid:∀b L,m b=some L->(A.obj b).live=true->G.obj b=.gone->(Beh S m A G).far L.blk:=fun b L hb hl hg=> .inr ⟨b,L,hb,rfl,hl,hg⟩
 refine⟨fun b L hb hl=>?_,fun b c L K hb hc hlb hlc heq=>?_,fun b L hb=>?_,fun b L hb hwr=>?_,fun b L hb hl=>?_,fun k hk=>uzN (e.sLt k hk) o.wd.size,hw,fun b I hI=>by
  obtain⟨q1,q2,q3⟩:=e.lp b I hI
  refine⟨o.ext _ _ q1,q2.trans o.ext,fun st pd ho r hr=>?_⟩
  rcases hA b (by rw[o.ext _ _ q1];simp)with h1| ⟨h1,h2,h3⟩
  ·rw[h1]at ho
   exact(o.emb.lp b I hI).2.2 st pd ho r hr
  ·rw[h2]at ho
   rw[o.wd.block _ (.inr (hid b I.L q1 (by rw[ho];rfl) h3))]at hr
   exact q3 st pd ho r hr⟩
 ·rcases hA b (by simp[hb])with h1| ⟨h1,h2,h3⟩
  ·rw[h1]at hl;exact o.emb.lt b L hb hl
  ·rw[h2]at hl;exact uzN (e.lt b L (old b L hb h1) hl) o.wd.size
 ·rcases hA b (by simp[hb])with h1| ⟨h1,h2,h3⟩
  ·rcases hA c (by simp[hc])with k1| ⟨k1,k2,k3⟩
   ·rw[h1]at hlb;rw[k1]at hlc;exact o.emb.inj b c L K hb hc hlb hlc heq
   ·exfalso
    rw[h1]at hlb;rw[k2]at hlc
    exact o.emb.far b L hb hlb (heq▸hid c K (old c K hc k1) hlc k3)
  ·rcases hA c (by simp[hc])with k1| ⟨k1,k2,k3⟩
   ·exfalso
    rw[h2]at hlb;rw[k1]at hlc
    exact o.emb.far c K hc hlc (heq▸hid b L (old b L hb h1) hlb h3)
   ·rw[h2]at hlb;rw[k2]at hlc
    exact e.inj b c L K (old b L hb h1) (old c K hc k1) hlb hlc heq
 ·rcases hA b (by simp[hb])with h1| ⟨h1,h2,h3⟩
  ·rw[h1];exact o.emb.obj b L hb
  ·rw[h2]
   by_cases hl:(A.obj b).live=true
   ·exact((e.obj b L (old b L hb h1)).of_block (o.wd.block _ (.inr (hid b L (old b L hb h1) hl h3)))).ext o.ext
   ·cases hx:A.obj b with
    |gone=>trivial
    |_=>rw[hx]at hl;exact absurd rfl hl
 ·rcases hA b (by simp[hb])with h1| ⟨h1,h2,h3⟩
  ·rw[h1]at hwr;exact o.emb.prot b L hb hwr
  ·rw[h2]at hwr;exact e.prot b L (old b L hb h1) hwr
 ·rcases hA b (by simp[hb])with h1| ⟨h1,h2,h3⟩
  ·rw[h1]at hl;exact fun hs=>o.emb.far b L hb hl (.inl hs)
  ·rw[h2]at hl;exact e.far b L (old b L hb h1) hl
theorem Wd.beh{S:Stay}{m:Map}{A G:Heap}{w w1:World}(h:Wd (Beh S m A G) w w1):Wd S w w1:=
 ⟨h.os,h.tape,h.output,h.size,fun k hk=>h.block k (hk.imp id .inl)⟩
def a4Q(H:Nat->Heap):Nat->Nat->Obj
 |0,b=>(H 0).obj b
 |n+1,b=>if b<(H n).next then a4Q H n b else(H (n+1)).obj b
def Cur(H:Nat->Heap)(N q b:Nat):Obj:=if b<(H q).next then(H q).obj b else if b<(H N).next then a4Q H N b else .gone
def AH(H:Nat->Heap)(N q:Nat)(m:Map):Heap:=⟨fun b=>if(m b).isNone then .gone else Cur H N q b,(H N).next⟩
section
variable {P:Program} {call:z8} {p:Pers} {ops:Array Oper} {ah:List (List Nat)} {E L:Nat->a7} {H:Nat->Heap} {V:Nat->Value} {R:Nat->Bool}
theorem Trace.st(T:Trace P call p ops ah 0 ops.toList E L H V R){j:Nat}{o:Oper}(hj:ops[j]? =some o):StepT P call p ops j o E L H V R:=by
 have:=T.step j o (by simpa using hj)
 simpa using this
theorem Trace.rw0(T:Trace P call p ops ah 0 ops.toList E L H V R){r j:Nat}{x y:Oper}(hlt:r<j)(hr:ops[r]? =some x)(hj:ops[j]? =some y)
  (h1:D7 (At P p E L r x)=.read) (h2:D7 (At P p E L j y)=.write) (h3:(ah.getD j []).elem r=false) (h4:R r=true):C7 (At P p E L r x) (H (j+1))=some (V r,H (j+1)):=by
 have:=T.rw r j x y hlt (by simpa using hr) (by simpa using hj)
 simp only[vsz]at this
 exact this h1 h2 h3 h4
theorem Trace.wr0(T:Trace P call p ops ah 0 ops.toList E L H V R){j r:Nat}{y x:Oper}(hlt:j<r)(hj:ops[j]? =some y)(hr:ops[r]? =some x)
  (h1:D7 (At P p E L j y)=.write) (h2:D7 (At P p E L r x)=.read) (h3:(ah.getD r []).elem j=false) (h4:R r=true):C7 (At P p E L r x) (H j)=some (V r,H j):=by
 have:=T.wr j r y x hlt (by simpa using hj) (by simpa using hr)
 simp only[vsz]at this
 exact this h1 h2 h3 h4
theorem Trace.ww0(T:Trace P call p ops ah 0 ops.toList E L H V R){j r:Nat}{y x:Oper}(hlt:j<r)(hj:ops[j]? =some y)(hr:ops[r]? =some x)
  (h1:D7 (At P p E L j y)=.write) (h2:D7 (At P p E L r x)=.write):(ah.getD r []).elem j=true:=by
 have:=T.ww j r y x hlt (by simpa using hj) (by simpa using hr)
 simp only[vsz]at this
 exact this h1 h2
theorem a0q{j:Nat}(h:j<ops.size):∃o,ops[j]? =some o:=⟨ops[j],Array.getElem?_eq_getElem h⟩
theorem K1{j:Nat}{o:Oper}(h:ops[j]? =some o):j<ops.size:=(Array.getElem?_eq_some_iff.1 h).1
theorem Trace.next1(T:Trace P call p ops ah 0 ops.toList E L H V R){Y:YP}(hcall:CallsOK P Y call){j:Nat}(hj:j<ops.size):(H j).next<=(H (j+1)).next:=by
 obtain⟨o,ho⟩:=a0q hj
 have s:=T.st ho
 cases hr:R j with
 |true=>exact a3F hcall (s.ran hr)
 |false=>rw[(s.idle hr).2];exact uzP _
theorem Trace.nexts(T:Trace P call p ops ah 0 ops.toList E L H V R){Y:YP}(hcall:CallsOK P Y call){i:Nat}:∀{n:Nat},i<=n->n<=ops.size->(H i).next<=(H n).next
 |0,h,_=>by rw[Nat.le_zero.1 h];exact uzP _
 |n+1,h,hn=>by
  rcases vMz i (n+1)with h1|h1
  ·exact uzR (Trace.nexts T hcall (Nat.le_of_lt_succ h1) (by omega)) (T.next1 hcall (by omega))
  ·rw[Nat.le_antisymm h h1];exact uzP _
theorem Trace.quiet(T:Trace P call p ops ah 0 ops.toList E L H V R){j:Nat}{o:Oper}(hj:ops[j]? =some o)(hk:D7 (At P p E L j o)≠.write):H (j+1)=H j\/∃ob,H (j+1)=(H j).new ob:=by
 have s:=T.st hj
 cases hr:R j with
 |false=>exact .inl (s.idle hr).2
 |true=>
  have hc:=s.ran hr
  rw[R0 hk]at hc
  cases hq:D7 (At P p E L j o)with
  |write=>exact absurd hq hk
  |read=>exact .inl (a3K hq hc)
  |pure=>exact .inl (a3J hq hc).1
  |alloc=>obtain⟨ob,h1,_⟩:=a7Y hq hc;exact .inr ⟨ob,h1⟩
def NW(P:Program)(p:Pers)(ops:Array Oper)(E L:Nat->a7)(q n:Nat):Prop:=∀i o,q<=i->i<n->ops[i]? =some o->D7 (At P p E L i o)≠.write
theorem R6(T:Trace P call p ops ah 0 ops.toList E L H V R){Y:YP}(hcall:CallsOK P Y call){b n:Nat}(hb:b<(H n).next):∀{k:Nat},n<=k->k<=ops.size->a4Q H k b=a4Q H n b
 |0,h,_=>by rw[Nat.le_zero.1 h]
 |k+1,h,hk=>by
  rcases vMz n (k+1)with h1|h1
  ·have hlt:=uzN hb (T.nexts hcall (Nat.le_of_lt_succ h1) (by omega))
   simp only[a4Q,if_pos hlt]
   exact R6 T hcall hb (Nat.le_of_lt_succ h1) (by omega)
  ·rw[Nat.le_antisymm h h1]
theorem a7I(T:Trace P call p ops ah 0 ops.toList E L H V R){Y:YP}(hcall:CallsOK P Y call){q b:Nat}:∀{n:Nat},q<=n->n<=ops.size->NW P p ops E L q n->b<(H n).next->(H n).obj b=Cur H ops.size q b:=by
 have key:∀{n:Nat},q<=n->n<=ops.size->NW P p ops E L q n->b<(H n).next->(H n).obj b=if b<(H q).next then(H q).obj b else a4Q H n b:=by
  intro n
  induction n with
  |zero=>
   intro hq _ _ hb
   have hq0:q=0:=by omega
   subst hq0;rw[if_pos hb]
  |succ n ih=>
   intro hq hn hnw hb
   rcases vMz q (n+1)with h1|h1
   ·obtain⟨o,ho⟩:=a0q (ops:=ops) (j:=n) (by omega)
    have hk:=hnw n o (by omega) (by omega) ho
    have hq1:(H (n+1)).obj b=(H n).obj b\/¬b<(H n).next:=by
     rcases T.quiet ho hk with h| ⟨ob,h⟩
     ·left;rw[h]
     ·by_cases hlt:b<(H n).next
      ·left;rw[h];simp only[Heap.new];rw[if_neg (by omega)]
      ·exact .inr hlt
    by_cases hlt:b<(H n).next
    ·rcases hq1 with h|h
     ·rw[h,ih (by omega) (by omega) (fun i o h1 h2=>hnw i o h1 (by omega)) hlt]
      simp only[a4Q,if_pos hlt]
     ·exact absurd hlt h
    ·have hqn:=T.nexts hcall (i:=q) (n:=n) (by omega) (by omega)
     rw[if_neg (by omega)]
     simp only[a4Q,if_neg hlt]
   ·have:q=n+1:=by omega
    subst this;rw[if_pos hb]
 intro n hq hn hnw hb
 rw[key hq hn hnw hb]
 unfold Cur
 have hlt:=uzN hb (T.nexts hcall hn (uzP _))
 rw[if_pos hlt,R6 T hcall hb hn (uzP _)]
theorem e0A(T:Trace P call p ops ah 0 ops.toList E L H V R){q:Nat}(hw:(H q).Wf):∀{n:Nat},q<=n->n<=ops.size->NW P p ops E L q n->(H n).Wf:=by
 intro n
 induction n with
 |zero=>
  intro hq _ _
  have hq0:q=0:=by omega
  subst hq0;exact hw
 |succ n ih=>
  intro hq hn hnw
  rcases vMz q (n+1)with h1|h1
  ·obtain⟨o,ho⟩:=a0q (ops:=ops) (j:=n) (by omega)
   have hk:=hnw n o (by omega) (by omega) ho
   have i:=ih (by omega) (by omega) fun i o h1 h2=>hnw i o h1 (by omega)
   rcases T.quiet ho hk with h| ⟨ob,h⟩
   ·rw[h];exact i
   ·rw[h];intro b hb
    have hb2:(H n).next+1<=b:=hb
    simp only[Heap.new];rw[if_neg (by omega)];exact i b (by omega)
  ·have:q=n+1:=by omega
   subst this;exact hw
end
section
variable {P:Program} {call:z8} {p:Pers} {ops:Array Oper} {ah:List (List Nat)} {E L:Nat->a7} {H:Nat->Heap} {V:Nat->Value} {R:Nat->Bool}
structure Ctl(P:Program)(p:Pers)(ops:Array Oper)(ah:List (List Nat))(E L:Nat->a7)(D:Nat->Prop)(q:Nat):Prop where
 closed:∀j,D j->∀i,(ah.getD j []).elem i=true->D i
 lt:∀j,D j->j<ops.size
 wq:∀j o,ops[j]? =some o->D7 (At P p E L j o)=.write->(D j↔j<q)
 qw:q=0\/∃j o,q=j+1/\ops[j]? =some o/\D7 (At P p E L j o)=.write/\D j
def a4I(P:Program)(p:Pers)(E L:Nat->a7)(o:Oper)(j q:Nat):Nat:=if D7 (At P p E L j o)=.write then j+1 else q
theorem Ctl.qle{D:Nat->Prop}{q:Nat}(c:Ctl P p ops ah E L D q):q<=ops.size:=by
 rcases c.qw with h| ⟨j,o,rfl,ho,_⟩
 ·omega
 ·exact K1 ho
theorem Ctl.step(T:Trace P call p ops ah 0 ops.toList E L H V R){D:Nat->Prop}{q:Nat}(c:Ctl P p ops ah E L D q){j:Nat}{o:Oper}(hj:ops[j]? =some o)(hD:¬D j)(hah:∀i,(ah.getD j []).elem i=true->D i):
  Ctl P p ops ah E L (fun i=>i=j\/D i) (a4I P p E L o j q):=by
 refine⟨fun i hi k hk=>?_,fun i hi=>?_,fun i x hx hw=>?_,?_⟩
 ·rcases hi with rfl|hi
  ·exact .inr (hah k hk)
  ·exact .inr (c.closed i hi k hk)
 ·rcases hi with rfl|hi
  ·exact K1 hj
  ·exact c.lt i hi
 ·unfold a4I
  by_cases hij:i=j
  ·subst hij
   rw[hj]at hx;obtain rfl:=uzA hx
   rw[if_pos hw]
   simp
  ·split
   ·rename_i hk
    constructor
    ·rintro(h|h)
     ·exact absurd h hij
     ·rcases vMz i j with h1|h1
      ·omega
      ·exact absurd (c.closed i h j (T.ww0 (by omega) hj hx hk hw)) hD
    ·intro h
     exact .inr (hah i (T.ww0 (by omega) hx hj hw hk))
   ·rw[<-c.wq i x hx hw]
    constructor
    ·rintro(h|h)
     ·exact absurd h hij
     ·exact h
    ·exact .inr
 ·unfold a4I
  split
  ·rename_i hk
   exact .inr ⟨j,o,rfl,hj,hk,.inl rfl⟩
  ·rcases c.qw with h| ⟨i,x,h1,h2,h3,h4⟩
   ·exact .inl h
   ·exact .inr ⟨i,x,h1,h2,h3,.inr h4⟩
theorem Ctl.ahead(T:Trace P call p ops ah 0 ops.toList E L H V R){D:Nat->Prop}{q:Nat}(c:Ctl P p ops ah E L D q){j:Nat}{o:Oper}(hj:ops[j]? =some o)(hD:¬D j)(hah:∀i,(ah.getD j []).elem i=true->D i)
  (hk:D7 (At P p E L j o)=.write):q<=j/\NW P p ops E L q j:=by
 refine⟨?_,fun i x h1 h2 hx hw=>?_⟩
 ·rcases vMz j q with h|h
  ·exact absurd ((c.wq j o hj hk).2 h) hD
  ·exact h
 ·have:=(c.wq i x hx hw).1 (hah i (T.ww0 h2 hx hj hw hk))
  omega
theorem b1h(p:Pers)(e l:a7)(d:Option Tmp)(v:Value)(t:Nat):Y4 p (M4 p e l d v).1 (M4 p e l d v).2 t=if d=some t then v else Y4 p e l t:=by
 cases d with
 |none=>simp[M4]
 |some s=>
  unfold M4 Y4
  by_cases hs:p.has s=true
  ·simp only[hs,if_true]
   by_cases ht:s=t
   ·subst ht;simp[hs,a7.upd]
   ·have:t≠s:=fun h=>ht h.symm
    simp only[a7.upd,this,if_false,uzC,ht]
  ·simp only[hs,vgz,if_false]
   by_cases ht:s=t
   ·subst ht;simp[hs,a7.upd]
   ·have:t≠s:=fun h=>ht h.symm
    simp only[a7.upd,this,if_false,uzC,ht]
theorem a2w(T:Trace P call p ops ah 0 ops.toList E L H V R){t a:Nat}:∀{n:Nat},a<=n->n<=ops.size->(∀i o,a<=i->i<n->ops[i]? =some o->o.dst≠some t)->Y4 p (E n) (L n) t=Y4 p (E a) (L a) t
 |0,h,_,_=>by rw[Nat.le_zero.1 h]
 |n+1,h,hn,hno=>by
  rcases vMz a (n+1)with h1|h1
  ·obtain⟨o,ho⟩:=a0q (ops:=ops) (j:=n) (by omega)
   have s:=T.st ho
   rw[s.env,s.loc,b1h,if_neg (hno n o (by omega) (by omega) ho)]
   exact a2w T (by omega) (by omega) fun i o h1 h2=>hno i o h1 (by omega)
  ·rw[Nat.le_antisymm h h1]
theorem d9P{a:Act}{d:Option Tmp}{v:Value}(hs:p.size<=a.tmps.size)(hd:a0H p d=true)(x:Nat):(a.put d v).tmps.getD x undef=if d=some x then v else a.tmps.getD x undef:=by
 cases d with
 |none=>simp[Act.put]
 |some t=>
  have ht:t<p.size:=by simpa [a0H,Nat.blt_eq]using hd
  simp only[Act.put,Array.getD_eq_getD_getElem?,uzC]
  by_cases hx:t=x
  ·subst hx
   rw[if_pos rfl,Array.getElem?_setIfInBounds_self_of_lt (uzN ht hs)];rfl
  ·rw[if_neg hx,Array.getElem?_setIfInBounds_ne hx]
structure Sl(p:Pers)(ops:Array Oper)(E L:Nat->a7)(D:Nat->Prop)(m:Map)(a:Act):Prop where
 rel:∀t n,n<=ops.size->(∀i o,ops[i]? =some o->o.dst=some t->(D i↔i<n))->VR m (Y4 p (E n) (L n) t) (a.tmps.getD t undef)
 size:p.size<=a.tmps.size
 defers:a.defers=p.ds
def b2O(ops:Array Oper)(ah:List (List Nat)):Prop:=∀j y,ops[j]? =some y->∀i x,i<j->ops[i]? =some x->(ah.getD j []).elem i=true\/x.apart ops y=true
theorem d0p(h:a5c ops ah=true):b2O ops ah:=by
 intro j y hj i x hij hi
 unfold a5c at h
 have h1:=List.all_eq_true.1 h j (List.mem_range.2 (K1 hj))
 have h2:=List.all_eq_true.1 h1 i (List.mem_range.2 hij)
 rw[hi,hj]at h2
 simpa using h2
theorem Sl.step(T:Trace P call p ops ah 0 ops.toList E L H V R)(hap:b2O ops ah){D:Nat->Prop}(hcl:∀j,D j->∀i,(ah.getD j []).elem i=true->D i){m m1:Map}{a:Act}(s:Sl p ops E L D m a)(hx:Ext m m1)
  {j:Nat} {o:Oper} (hj:ops[j]? =some o) (hD:¬D j) {v' :Value} (hv:VR m1 (V j) v'):Sl p ops E L (fun i=>i=j\/D i) m1 (a.put o.dst v'):=by
 have hst:=T.st hj
 refine⟨fun t n hn hc=>?_,?_,?_⟩
 ·rw[d9P s.size hst.dst]
  by_cases hd:o.dst=some t
  ·rw[if_pos hd]
   have hjn:j<n:=(hc j o hj hd).1 (.inl rfl)
   have hno:∀i x,j+1<=i->i<n->ops[i]? =some x->x.dst≠some t:=by
    intro i x h1 h2 hi hdx
    have hDi:D i:=by
     rcases(hc i x hi hdx).2 h2 with h|h
     ·omega
     ·exact h
    rcases hap i x hi j o (by omega) hj with h|h
    ·exact hD (hcl i hDi j h)
    ·exact(Oper.apart_spec h).2.1 t hd hdx
   rw[a2w T (by omega) hn hno,hst.env,hst.loc,b1h,if_pos hd]
   exact hv
  ·rw[if_neg hd]
   refine(s.rel t n hn fun i x hi hdx=>?_).ext hx
   have hij:i≠j:=by
    intro h;subst h;rw[hj]at hi;obtain rfl:=uzA hi;exact hd hdx
   rw[<-hc i x hi hdx]
   exact⟨.inr,fun h=>h.resolve_left hij⟩
 ·cases hd:o.dst with
  |none=>exact s.size
  |some t=>simp only[Act.put,Array.size_setIfInBounds];exact s.size
 ·cases o.dst<;>exact s.defers
theorem Sl.at(T:Trace P call p ops ah 0 ops.toList E L H V R)(hap:b2O ops ah){D:Nat->Prop}(hcl:∀j,D j->∀i,(ah.getD j []).elem i=true->D i){m:Map}{a:Act}(s:Sl p ops E L D m a)
  {j:Nat} {o:Oper} (hj:ops[j]? =some o) (hD:¬D j) (hah:∀i,(ah.getD j []).elem i=true->D i) {t:Nat} (ht:t∈o.looksAt ops):VR m (Y4 p (E j) (L j) t) (a.tmps.getD t undef):=by
 refine s.rel t j (Nat.le_of_lt (K1 hj)) fun i x hi hd=>?_
 rcases Nat.lt_trichotomy i j with h|h|h
 ·refine⟨fun _=>h,fun _=>?_⟩
  rcases hap j o hj i x h hi with h1|h1
  ·exact hah i h1
  ·exact absurd ht ((Oper.apart_spec h1).1 t hd)
 ·subst h;exact⟨fun h=>absurd h hD,fun h=>absurd h (Nat.lt_irrefl _)⟩
 ·refine⟨fun hDi=>?_,fun h1=>by omega⟩
  rcases hap i x hi j o h hj with h1|h1
  ·exact absurd (hcl i hDi j h1) hD
  ·exact absurd ht ((Oper.apart_spec h1).2.2 t hd)
structure Hp(P:Program)(S:Stay)(ops:Array Oper)(H:Nat->Heap)(m0:Map)(w0:World)(D:Nat->Prop)(q:Nat)(m:Map)(w:World):Prop where
 ext:Ext m0 m
 dom:∀b,m b≠none->m0 b≠none\/∃i,D i/\i<ops.size/\(H i).next<=b/\b<(H (i+1)).next
 emb:Emb P S m (AH H ops.size q m) w
 wd:Wd S w0 w
 same:∀b,b<(H q).next->m b=none->(H q).obj b=a4Q H ops.size b
 wf:∀n,n<=q->(H n).Wf
theorem AH.wf(T:Trace P call p ops ah 0 ops.toList E L H V R){Y:YP}(hcall:CallsOK P Y call){q:Nat}(hq:q<=ops.size)(m:Map):(AH H ops.size q m).Wf:=by
 intro b hb
 have hb2:(H ops.size).next<=b:=hb
 have:=T.nexts hcall hq (uzP _)
 show(if(m b).isNone then Obj.gone else Cur H ops.size q b)=.gone
 split
 ·rfl
 ·unfold Cur;rw[if_neg (by omega),if_neg (by omega)]
theorem AH.obj{q:Nat}{m:Map}{b:Nat}(hb:m b≠none):(AH H ops.size q m).obj b=Cur H ops.size q b:=by
 show(if(m b).isNone then Obj.gone else Cur H ops.size q b)=_
 cases h:m b with
 |none=>exact absurd h hb
 |some _=>rfl
section
variable {S:Stay} {m0:Map} {w0:World} {D:Nat->Prop} {q:Nat} {m:Map} {w:World}
theorem Hp.fresh(T:Trace P call p ops ah 0 ops.toList E L H V R){Y:YP}(hcall:CallsOK P Y call)(hf:K6 m0 (H 0).next (H ops.size).next)(h:Hp P S ops H m0 w0 D q m w){j:Nat}{o:Oper}(hj:ops[j]? =some o)(hD:¬D j):K6 m (H j).next (H (j+1)).next:=by
 have hlt:=K1 hj
 intro b h1 h2
 cases hm:m b with
 |none=>rfl
 |some K=>
  exfalso
  rcases h.dom b (by simp[hm])with h3| ⟨i,hi,his,h4,h5⟩
  ·have k1:=T.nexts hcall (vJz j) (by omega)
   have k2:=T.nexts hcall (i:=j+1) (n:=ops.size) (by omega) (uzP _)
   exact h3 (hf b (by omega) (by omega))
  ·rcases Nat.lt_trichotomy i j with h6|h6|h6
   ·have:=T.nexts hcall (i:=i+1) (n:=j) (by omega) (by omega);omega
   ·subst h6;exact hD hi
   ·have:=T.nexts hcall (i:=j+1) (n:=i) (by omega) (by omega);omega
theorem b6A{m m1:Map}(h:Ext m m1){b:Nat}(hb:m1 b=none):m b=none:=by
 cases hq:m b with
 |none=>rfl
 |some K=>rw[h b K hq]at hb;simp at hb
theorem Hp.shows(T:Trace P call p ops ah 0 ops.toList E L H V R){Y:YP}(hcall:CallsOK P Y call)(h:Hp P S ops H m0 w0 D q m w){n:Nat}(hq:q<=n)(hn:n<=ops.size)(hnw:NW P p ops E L q n):
  (H n).Wf/\(∀b,m b≠none->(H n).obj b=.gone\/(H n).obj b=(AH H ops.size q m).obj b)/\Emb P (Beh S m (AH H ops.size q m) (H n)) m (H n) w:=by
 have hw:=e0A T (h.wf q (uzP _)) hq hn hnw
 have hv:∀b,m b≠none->(H n).obj b=.gone\/(H n).obj b=(AH H ops.size q m).obj b:=fun b hb=>by
  rw[AH.obj hb]
  by_cases hlt:b<(H n).next
  ·exact .inr (a7I T hcall hq hn hnw hlt)
  ·exact .inl (hw b (vGz hlt))
 exact⟨hw,hv,h.emb.view hv hw⟩
theorem Hp.write(T:Trace P call p ops ah 0 ops.toList E L H V R){Y:YP}(hcall:CallsOK P Y call)(h:Hp P S ops H m0 w0 D q m w){j:Nat}{o:Oper}(hj:ops[j]? =some o)(hq:q<=j)(hnw:NW P p ops E L q j)
  {m1:Map} {w1:World} (ho:Out P (Beh S m (AH H ops.size q m) (H j)) m (H j) w m1 (H (j+1)) w1):Hp P S ops H m0 w0 (fun i=>i=j\/D i) (j+1) m1 w1:=by
 have hlt:=K1 hj
 obtain⟨hw,hv,_⟩:=h.shows T hcall hq (Nat.le_of_lt hlt) hnw
 have n1:=T.next1 hcall hlt
 have n2:=T.nexts hcall (i:=q) (n:=j) hq (by omega)
 have n3:=T.nexts hcall (i:=j+1) (n:=ops.size) hlt (uzP _)
 refine⟨h.ext.trans ho.ext,fun b hb=>?_,h.emb.back ho (fun b hb=>?_) (AH.wf T hcall hlt m1),h.wd.trans ho.wd.beh,fun b hb hm=>?_,fun n hn=>?_⟩
 ·rcases ho.dom b hb with h1| ⟨h1,h2⟩
  ·rcases h.dom b h1 with h3| ⟨i,hi,h4⟩
   ·exact .inl h3
   ·exact .inr ⟨i,.inr hi,h4⟩
  ·exact .inr ⟨j,.inl rfl,hlt,h1,h2⟩
 ·rw[AH.obj hb]
  by_cases hbn:b<(H (j+1)).next
  ·left;unfold Cur;rw[if_pos hbn]
  ·right
   have hmb:m b≠none:=by
    rcases ho.dom b hb with h1| ⟨h1,h2⟩
    ·exact h1
    ·omega
   refine⟨hmb,?_,hw b (by omega)⟩
   rw[AH.obj hmb]
   unfold Cur
   rw[if_neg hbn,if_neg (by omega:¬b<(H q).next)]
 ·have hm' :=b6A ho.ext hm
  by_cases hbj:b<(H j).next
  ·rw[ho.same b hbj hm',a7I T hcall hq (Nat.le_of_lt hlt) hnw hbj]
   unfold Cur
   split
   ·rename_i hbq;exact h.same b hbq hm'
   ·rw[if_pos (by omega)]
  ·rw[R6 T hcall hb hlt (uzP _)]
   simp only[a4Q,if_neg hbj]
 ·rcases vMz n (j+1)with h1|h1
  ·rcases vMz n q with h2|h2
   ·exact h.wf n (Nat.le_of_lt h2)
   ·exact e0A T (h.wf q (uzP _)) h2 (by omega) fun i x a1 a2=>hnw i x a1 (by omega)
  ·rw[Nat.le_antisymm hn h1];exact ho.emb.wf
theorem Hp.read(T:Trace P call p ops ah 0 ops.toList E L H V R){Y:YP}(hcall:CallsOK P Y call)(h:Hp P S ops H m0 w0 D q m w){j n:Nat}(hq:q<=n)(hn:n<=ops.size)(hnw:NW P p ops E L q n)
  {m1:Map} {w1:World} (ho:Out P (Beh S m (AH H ops.size q m) (H n)) m (H n) w m1 (H n) w1):Hp P S ops H m0 w0 (fun i=>i=j\/D i) q m1 w1:=by
 obtain⟨hw,hv,_⟩:=h.shows T hcall hq hn hnw
 have hd:∀b,m1 b≠none->m b≠none:=fun b hb=>by
  rcases ho.dom b hb with h1| ⟨h1,h2⟩
  ·exact h1
  ·omega
 refine⟨h.ext.trans ho.ext,fun b hb=>?_,h.emb.back ho (fun b hb=>?_) (AH.wf T hcall (uzR hq hn) m1),h.wd.trans ho.wd.beh,fun b hb hm=>h.same b hb (b6A ho.ext hm),h.wf⟩
 ·rcases h.dom b (hd b hb)with h3| ⟨i,hi,h4⟩
  ·exact .inl h3
  ·exact .inr ⟨i,.inr hi,h4⟩
 ·rw[AH.obj hb]
  by_cases hlt:b<(H n).next
  ·exact .inl (a7I T hcall hq hn hnw hlt).symm
  ·exact .inr ⟨hd b hb,(AH.obj (hd b hb)).symm,hw b (vGz hlt)⟩
theorem Hp.alloc(T:Trace P call p ops ah 0 ops.toList E L H V R){Y:YP}(hcall:CallsOK P Y call)(hf:K6 m0 (H 0).next (H ops.size).next)(h:Hp P S ops H m0 w0 D q m w)(hq:q<=ops.size){j:Nat}{o:Oper}(hj:ops[j]? =some o)(hD:¬D j){ob:Obj}(hH:H (j+1)=(H j).new ob)
  {m1:Map} {w1:World} (ho:Out P (Beh S m (AH H ops.size q m) ⟨fun _=> .gone,(H j).next⟩) m ⟨fun _=> .gone,(H j).next⟩ w m1 (Heap.new ⟨fun _=> .gone,(H j).next⟩ ob) w1):Hp P S ops H m0 w0 (fun i=>i=j\/D i) q m1 w1:=by
 have hlt:=K1 hj
 have hfr:=h.fresh T hcall hf hj hD
 have hnx:(H (j+1)).next=(H j).next+1:=by rw[hH];rfl
 have n3:=T.nexts hcall (i:=j+1) (n:=ops.size) hlt (uzP _)
 have hd:∀b,m1 b≠none->m b≠none\/b=(H j).next:=fun b hb=>by
  rcases ho.dom b hb with h1| ⟨h1,h2⟩
  ·exact .inl h1
  ·right
   have h1' :(H j).next<=b:=h1
   have h2' :b<(H j).next+1:=h2
   omega
 have horig:a4Q H ops.size (H j).next=ob:=by
  rw[R6 T hcall (b:=(H j).next) (n:=j+1) (by omega) hlt (uzP _)]
  simp only[a4Q,Nat.lt_irrefl,if_false]
  rw[hH];simp[Heap.new]
 refine⟨h.ext.trans ho.ext,fun b hb=>?_,h.emb.back ho (fun b hb=>?_) (AH.wf T hcall hq m1),h.wd.trans ho.wd.beh,fun b hb hm=>h.same b hb (b6A ho.ext hm),h.wf⟩
 ·rcases hd b hb with h1|h1
  ·rcases h.dom b h1 with h3| ⟨i,hi,h4⟩
   ·exact .inl h3
   ·exact .inr ⟨i,.inr hi,h4⟩
  ·exact .inr ⟨j,.inl rfl,hlt,by omega,by omega⟩
 ·rw[AH.obj hb]
  by_cases hbn:b=(H j).next
  ·left
   subst hbn
   simp only[Heap.new,if_true]
   unfold Cur
   split
   ·rename_i hbq
    rw[h.same _ hbq (hfr _ (uzP _) (by omega)),horig]
   ·rw[if_pos (by omega),horig]
  ·have hm:=(hd b hb).resolve_right hbn
   exact .inr ⟨hm,(AH.obj hm).symm,rfl⟩
theorem Hp.idle(h:Hp P S ops H m0 w0 D q m w){j:Nat}:Hp P S ops H m0 w0 (fun i=>i=j\/D i) q m w:=
 ⟨h.ext,fun b hb=>by
  rcases h.dom b hb with h3| ⟨i,hi,h4⟩
  ·exact .inl h3
  ·exact .inr ⟨i,.inr hi,h4⟩,h.emb,h.wd,h.same,h.wf⟩
end
end
section
variable {P:Program} {call:z8} {p:Pers} {ops:Array Oper} {ah:List (List Nat)} {E L:Nat->a7} {H:Nat->Heap} {V:Nat->Value} {R:Nat->Bool}
variable {S:Stay} {m0:Map} {w0:World}
open Classical in
theorem c8E(ρz:Option Nat)(nz:Nat)(T:Trace P call p ops ah 0 ops.toList E L H V R){Y:YP}(hcall:CallsOK P Y call)(hY:Y S.lp)(hap:b2O ops ah)(hf:K6 m0 (H 0).next (H ops.size).next)(hgl:K7 m0)
  {D:Nat->Prop} {q:Nat} {m:Map} {a:Act} {w:World} (c:Ctl P p ops ah E L D q) (s:Sl p ops E L D m a) (h:Hp P S ops H m0 w0 D q m w)
  {j:Nat} {o:Oper} (hj:ops[j]? =some o) (hD:¬D j) (hah:∀i,(ah.getD j []).elem i=true->D i) {Q:Exit->Act->World->Prop} {K:Act->World->Prop}
  (hK:∀q1 m1 a1 w1,Ctl P p ops ah E L (fun i=>i=j\/D i) q1->Sl p ops E L (fun i=>i=j\/D i) m1 a1->Hp P S ops H m0 w0 (fun i=>i=j\/D i) q1 m1 w1->K a1 w1):wpOpIn (FZ ρz) nz P ops Q j K a w:=by
 have hst:=T.st hj
 have hlt:=K1 hj
 have hc' :=c.step T hj hD hah
 have hwant:Region.wanted o (yielded ops a.tmps)=R j:=by
  rcases hst.guard with⟨hg,hr⟩| ⟨jj,w',t,hg,ht,hw⟩
  ·rw[hr];simp[Region.wanted,hg]
  ·refine want_sim' hg ht (s.at T hap c.closed hj hD hah (t:=t) ?_) hw
   simp[Oper.looksAt,hg,ht]
 unfold wpOpIn
 rw[hj]
 simp only[hwant]
 cases hr:R j with
 |false=>
  simp only[vgz,if_false]
  obtain⟨hv,hh⟩:=hst.idle hr
  have hs' :Sl p ops E L (fun i=>i=j\/D i) m (a.put o.dst undef):=s.step T hap c.closed (Ext.refl m) hj hD (by rw[hv];exact .tuple _ _ rfl (fun i x y hx=>by simp at hx))
  refine⟨fun _ _=>trivial,hK _ m _ w hc' hs' ?_⟩
  unfold a4I
  split
  ·rename_i hk
   obtain⟨hq,hnw⟩:=c.ahead T hj hD hah hk
   refine h.write T hcall hj hq hnw ?_
   rw[hh]
   exact Out.refl (h.shows T hcall hq (Nat.le_of_lt hlt) hnw).2.2
  ·exact h.idle
 |true=>
  simp only[if_true]
  have hran:=hst.ran hr
  let ρ:Rho:=fun x=>if x∈o.op.operands then D4 p (E j) (L j) x else unk
  have hρ:∀x,VR m (ρ x) (a.eval x):=by
   intro x
   show VR m (if x∈o.op.operands then D4 p (E j) (L j) x else unk) _
   split
   ·rename_i hx
    cases x with
    |tmp t=>
     refine s.at T hap c.closed hj hD hah (t:=t) ?_
     unfold Oper.looksAt
     refine List.mem_append_left _ (List.mem_filterMap.2 ⟨.tmp t,by simpa using hx,rfl⟩)
    |const v=>
     simp only[D4,Act.eval]
     split
     ·rename_i hv;exact VR.selfV hv
     ·exact .unk v
    |global g=>exact(hgl.ext h.ext).rel g
    |func f=>exact VR.func_of (VL.nil m) (VL.nil m)
   ·exact .unk _
  have hres:F0 P o ρ=At P p E L j o:=b5i o fun x hx=>if_pos hx
  have goOn:∀v' m1 w1 q1,q1=a4I P p E L o j q->VR m1 (V j) v' ->Ext m m1->Hp P S ops H m0 w0 (fun i=>i=j\/D i) q1 m1 w1->K (a.put o.dst v') w1:=fun v' m1 w1 q1 hq hv hx hh=>
   hK q1 m1 _ w1 (hq▸hc') (s.step T hap c.closed hx hj hD hv) hh
  have look:∀n,q<=n->n<=ops.size->NW P p ops E L q n->D7 (At P p E L j o)≠.write->C7 (At P p E L j o) (H n)=some (V j,H n)->o.wpIn (FZ ρz) nz P a w K Q:=by
   intro n hq hn hnw hk hcop
   refine b1d hcall (by exact hY) ρz nz (h.shows T hcall hq hn hnw).2.2 o a hρ (v:=V j) (h1:=H n) (by rw[hres,R0 hk];exact hcop) (fun x h1 h2=>by omega) (hgl.ext h.ext) fun v' w1 m1 hv ho=>?_
   exact goOn v' m1 w1 q (by unfold a4I;rw[if_neg hk]) hv ho.ext (h.read T hcall hq hn hnw ho)
  cases hk:D7 (At P p E L j o)with
  |write=>
   obtain⟨hq,hnw⟩:=c.ahead T hj hD hah hk
   refine b1d hcall (by exact hY) ρz nz (h.shows T hcall hq (Nat.le_of_lt hlt) hnw).2.2 o a hρ (v:=V j) (h1:=H (j+1)) (by rw[hres];exact hran) (h.fresh T hcall hf hj hD) (hgl.ext h.ext) fun v' w1 m1 hv ho=>?_
   exact goOn v' m1 w1 (j+1) (by unfold a4I;rw[if_pos hk]) hv ho.ext (h.write T hcall hj hq hnw ho)
  |pure=>
   have hkn:D7 (At P p E L j o)≠.write:=by rw[hk];simp
   rw[R0 hkn]at hran
   exact look q (uzP _) c.qle (fun i x h1 h2=>by omega) hkn ((a3J hk hran).2 _)
  |alloc=>
   have hkn:D7 (At P p E L j o)≠.write:=by rw[hk];simp
   rw[R0 hkn]at hran
   obtain⟨ob,hH,hall⟩:=a7Y hk hran
   have hG:Heap.Wf ⟨fun _=> .gone,(H j).next⟩:=fun _ _=>rfl
   have hE:=h.emb.view (G:=⟨fun _=> .gone,(H j).next⟩) (fun b _=> .inl rfl) hG
   refine b1d hcall (by exact hY) ρz nz hE o a hρ (v:=V j) (h1:=Heap.new ⟨fun _=> .gone,(H j).next⟩ ob) (by rw[hres,R0 hkn];exact hall _ rfl) ?_ (hgl.ext h.ext) fun v' w1 m1 hv ho=>?_
   ·have:=h.fresh T hcall hf hj hD
    rw[hH]at this;exact this
   ·exact goOn v' m1 w1 q (by unfold a4I;rw[if_neg hkn]) hv ho.ext (h.alloc T hcall hf c.qle hj hD hH ho)
  |read=>
   have hkn:D7 (At P p E L j o)≠.write:=by rw[hk];simp
   rw[R0 hkn]at hran
   have hHj:=a3K hk hran
   rw[hHj]at hran
   rcases vMz j q with hjq|hjq
   ·
    rcases c.qw with h0| ⟨i,x,hqi,hi,hki,hDi⟩
    ·omega
    ·have hij:i≠j:=fun hij=>hD (hij▸hDi)
     have hno:(ah.getD i []).elem j=false:=by
      cases hq:(ah.getD i []).elem j with
      |false=>rfl
      |true=>exact absurd (c.closed i hDi j hq) hD
     have:=T.rw0 (by omega) hj hi hk hki hno hr
     rw[<-hqi]at this
     exact look q (uzP _) c.qle (fun i x h1 h2=>by omega) hkn this
   ·
    by_cases hnw:NW P p ops E L q j
    ·exact look j hjq (Nat.le_of_lt hlt) hnw hkn hran
    ·
     have hex:∀n,q<=n->n<=j->NW P p ops E L q n\/∃i x,q<=i/\i<n/\ops[i]? =some x/\D7 (At P p E L i x)=.write/\NW P p ops E L q i:=by
      intro n
      induction n with
      |zero=>intro h1 _;exact .inl fun i x h2 h3=>by omega
      |succ n ih=>
       intro h1 h2
       rcases vMz n q with h3|h3
       ·exact .inl fun i x h4 h5=>by omega
       ·rcases ih h3 (by omega)with h4| ⟨i,x,h4,h5,h6⟩
        ·obtain⟨y,hy⟩:=a0q (ops:=ops) (j:=n) (by omega)
         by_cases hw:D7 (At P p E L n y)=.write
         ·exact .inr ⟨n,y,h3,by omega,hy,hw,h4⟩
         ·left
          intro i x h5 h6 h7
          rcases vMz i n with h8|h8
          ·exact h4 i x h5 h8 h7
          ·have:i=n:=by omega
           subst this
           rw[hy]at h7;obtain rfl:=uzA h7;exact hw
        ·exact .inr ⟨i,x,h4,by omega,h6⟩
     rcases hex j hjq (uzP _)with h1| ⟨i,x,h1,h2,h3,h4,h5⟩
     ·exact absurd h1 hnw
     ·have hno:(ah.getD j []).elem i=false:=by
       cases hq:(ah.getD j []).elem i with
       |false=>rfl
       |true=>
        have:=(c.wq i x h3 h4).1 (hah i hq)
        omega
      exact look i h1 (by omega) h5 hkn (T.wr0 h2 h3 hj h4 hk hno hr)
end
def cnt(f:Nat->Bool):Nat->Nat
 |0=>0
 |n+1=>cnt f n+if f n then 1 else 0
theorem b0G{f g:Nat->Bool}:∀{n:Nat},(∀i,i<n->f i=g i)->cnt f n=cnt g n
 |0,_=>rfl
 |n+1,h=>by simp only[cnt];rw[h n (by omega),b0G fun i hi=>h i (by omega)]
theorem b4q{f g:Nat->Bool}{j:Nat}(hf:f j=true)(hg:g j=false)(hn:∀i,i≠j->f i=g i):∀{n:Nat},j<n->cnt f n=cnt g n+1
 |0,h=>by omega
 |n+1,h=>by
  simp only[cnt]
  rcases vMz j n with h1|h1
  ·rw[b4q hf hg hn h1,hn n (by omega)];omega
  ·have:j=n:=by omega
   subst this
   rw[hf,hg,b0G (g:=g) fun i hi=>hn i (by omega)];simp
theorem b4r{f:Nat->Bool}:∀{n:Nat},cnt f n=0->∀i,i<n->f i=false
 |0,_,i,h=>by omega
 |n+1,h,i,hi=>by
  simp only[cnt]at h
  rcases vMz i n with h1|h1
  ·exact b4r (by omega) i h1
  ·have:i=n:=by omega
   subst this
   cases hf:f i with
   |false=>rfl
   |true=>rw[hf]at h;simp at h
theorem d8y{f:Nat->Bool}:∀{n:Nat},cnt f n<=n
 |0=>uzP _
 |n+1=>by simp only[cnt];have:=d8y (f:=f) (n:=n);split<;>omega
section
variable {P:Program} {call:z8} {p:Pers} {ops:Array Oper} {ah:List (List Nat)} {E L:Nat->a7} {H:Nat->Heap} {V:Nat->Value} {R:Nat->Bool}
variable {S:Stay} {m0:Map} {w0:World}
theorem a5I(h:a2L ops ah=true){j:Nat}{o:Oper}(hj:ops[j]? =some o):
  (∀i,(ah.getD j []).elem i=true->∃e∈o.after,Region.binds .any e=true/\(e.on=i\/(ah.getD e.on []).elem i=true))/\∀e∈o.after,Region.binds .any e=true->e.on<j:=by
 unfold a2L at h
 have h1:=List.all_eq_true.1 h j (List.mem_range.2 (K1 hj))
 rw[hj]at h1
 simp only[vjz]at h1
 refine⟨fun i hi=>?_,fun e he hb=>?_⟩
 ·have h2:=List.all_eq_true.1 h1.1 i (List.elem_iff.1 hi)
  simp only[vjz]at h2
  obtain⟨e,he,h3⟩:=List.any_eq_true.1 h2.2
  simp only[vjz,Bool.or_eq_true,beq_iff_eq]at h3
  exact⟨e,by simpa using he,h3.1,h3.2⟩
 ·have h2:=List.all_eq_true.1 h1.2 e (by simpa using he)
  simp only[hb,Bool.not_true,Bool.false_or,Nat.blt_eq]at h2
  exact h2
abbrev Don(listed:Array Bool):Nat->Prop:=fun i=>listed.getD i false=true
theorem e1D{listed:Array Bool}{j:Nat}(hj:j<listed.size):Don (listed.setIfInBounds j true)=fun i=>i=j\/Don listed i:=by
 funext i
 apply propext
 unfold Don
 simp only[Array.getD_eq_getD_getElem?]
 by_cases h:i=j
 ·subst h
  rw[Array.getElem?_setIfInBounds_self_of_lt hj];simp
 ·rw[Array.getElem?_setIfInBounds_ne (fun h1=>h h1.symm)];simp[h]
theorem d9a(ρz:Option Nat)(nz:Nat)(T:Trace P call p ops ah 0 ops.toList E L H V R){Y:YP}(hcall:CallsOK P Y call)(hY:Y S.lp)(hap:b2O ops ah)(hao:a2L ops ah=true)(hf:K6 m0 (H 0).next (H ops.size).next)(hgl:K7 m0){Q:Exit->Act->World->Prop}
  (hQ:∀D q m a w,(∀j,j<ops.size->D j)->Ctl P p ops ah E L D q->Sl p ops E L D m a->Hp P S ops H m0 w0 D q m w->Q .normal a w):
  ∀(fuel:Nat) (listed:Array Bool) (q:Nat) (m:Map) (a:Act) (w:World),listed.size=ops.size->cnt (fun i=> !listed.getD i false) ops.size<=fuel->
   Ctl P p ops ah E L (Don listed) q->Sl p ops E L (Don listed) m a->Hp P S ops H m0 w0 (Don listed) q m w->wpAnyIn (FZ ρz) nz P .any ops Q fuel listed a w:=by
 have gd:∀(listed:Array Bool) j,j<listed.size->listed.getD j true=listed.getD j false:=fun listed j hj=>by
  simp only[Array.getD_eq_getD_getElem?,Array.getElem?_eq_getElem hj,vFz]
 have full:∀(listed:Array Bool),listed.size=ops.size->Region.ready .any ops listed=[]->∀j,j<ops.size->Don listed j:=by
  intro listed hsz hr j
  induction j using Nat.strongRecOn with
  |ind j ih=>
   intro hj
   cases hq:listed.getD j false with
   |true=>exact hq
   |false=>
    exfalso
    obtain⟨o,ho⟩:=a0q hj
    have hm:j∈Region.ready .any ops listed:=mem_ready.2 ⟨by rw[gd listed j (by omega)];exact hq,o,ho,fun e he hb=>ih e.on ((a5I hao ho).2 e he hb) (Nat.lt_trans ((a5I hao ho).2 e he hb) hj)⟩
    rw[hr]at hm;simp at hm
 intro fuel
 induction fuel with
 |zero=>
  intro listed q m a w hsz hcn c s h
  have hall:∀j,j<ops.size->Don listed j:=fun j hj=>by
   have h:=b4r (Nat.le_zero.1 hcn) j hj
   show listed.getD j false=true
   cases hq:listed.getD j false with
   |true=>rfl
   |false=>simp only[hq]at h;simp at h
  refine⟨?_,hQ _ q m a w hall c s h⟩
  apply List.eq_nil_iff_forall_not_mem.2
  intro j hj
  obtain⟨h1,o,ho,_⟩:=mem_ready.1 hj
  have:=hall j (K1 ho)
  rw[gd listed j (by rw[hsz];exact K1 ho)]at h1
  have h2:listed.getD j false=true:=this
  rw[h1]at h2;simp at h2
 |succ fuel ih=>
  intro listed q m a w hsz hcn c s h
  refine⟨fun hr=>hQ _ q m a w (full listed hsz hr) c s h,fun j hj=>?_⟩
  obtain⟨h1,o,ho,h3⟩:=mem_ready.1 hj
  have hlt:=K1 ho
  rw[gd listed j (by omega)]at h1
  have hD:¬Don listed j:=by unfold Don;rw[h1];simp
  have hah:∀i,(ah.getD j []).elem i=true->Don listed i:=fun i hi=>by
   obtain⟨e,he,hb,h4⟩:=(a5I hao ho).1 i hi
   have h5:Don listed e.on:=h3 e he hb
   rcases h4 with h4|h4
   ·exact h4▸h5
   ·exact c.closed _ h5 i h4
  refine c8E ρz nz T hcall hY hap hf hgl c s h ho hD hah fun q1 m1 a1 w1 c1 s1 h1' =>?_
  have hds:=e1D (listed:=listed) (j:=j) (by omega)
  refine ih _ q1 m1 a1 w1 (by simpa using hsz) ?_ (by rw[hds];exact c1) (by rw[hds];exact s1) (by rw[hds];exact h1')
  have:=b4q (f:=fun i=> !listed.getD i false) (g:=fun i=> !(listed.setIfInBounds j true).getD i false) (j:=j) (by simp only[h1];rfl) (by
   have:Don (listed.setIfInBounds j true) j:=by rw[hds];exact .inl rfl
   have h2:(listed.setIfInBounds j true).getD j false=true:=this
   simp only[h2];rfl) (fun i hi=>by
   simp only[Array.getD_eq_getD_getElem?]
   rw[Array.getElem?_setIfInBounds_ne (fun h=>hi h.symm)]) hlt
  omega
end
theorem d9b{P:Program}{S:Stay}{call:z8}{Y:YP}(hcall:CallsOK P Y call)(hY:Y S.lp)(ρz:Option Nat)(nz:Nat)(p:Pers)(ops:Array Oper)(ah:List (List Nat))(hao:a2L ops ah=true)(hap:a5c ops ah=true)(hfo:P.follows .mixedOrders=true)
  {Q:Exit->Act->World->Prop} {id:Nat} {e1:a7} {h1:Heap} {m:Map} {e l:a7} {h:Heap} {a:Act} {w:World}
  (hr:M2 call (W4 P p ops ah ops.toList 0 e l [] []) h=some (e1,h1)) (hs:Slots p m e l a) (hE:Emb P S m h w) (hf:K6 m h.next h1.next)
  (hQ:∀a1 w1 m1 l1,Slots p m1 e1 l1 a1->Out P S m h w m1 h1 w1->Q .normal a1 w1):(Code.region id ops true).wpIn (FZ ρz) nz P Q a w:=by
 obtain⟨E,L,H,V,R,rfl,rfl,rfl,hE1,hH1,T,_,_,_⟩:=b5H ops.toList 0 e l [] [] h _ hr
 simp only[vsz,Array.length_toList]at hE1 hH1
 subst hE1 hH1
 have hnone:∀i,¬Don (Array.replicate ops.size false) i:=fun i hi=>by
  unfold Don at hi
  simp only[Array.getD_eq_getD_getElem?,Array.getElem?_replicate]at hi
  split at hi<;>simp at hi
 refine wpIn_region_any hfo (d9a (S:=S) (m0:=m) (w0:={ w with drawn:=w.drawn+1 }) ρz nz T hcall hY (d0p hap) hao hf hs.glob ?_ ops.size _ 0 m a _ (by simp) d8y ?_ ?_ ?_)
 ·intro D q m1 a1 w1 hall c s hp
  have hnw:NW P p ops E L q ops.size:=fun i x h1 h2 h3 h4=>by
   have:=(c.wq i x h3 h4).1 (hall i h2);omega
  have hwf:=e0A T (hp.wf q (uzP _)) c.qle (uzP _) hnw
  have hmb:∀b,b<(H 0).next->m b=none->m1 b=none:=fun b hb hm=>by
   cases hq:m1 b with
   |none=>rfl
   |some K=>
    exfalso
    rcases hp.dom b (by simp[hq])with h3| ⟨i,_,hi,h4,_⟩
    ·exact h3 hm
    ·have:=T.nexts hcall (vJz i) (Nat.le_of_lt hi);omega
  have hnq:=T.nexts hcall (vJz q) c.qle
  refine hQ a1 w1 m1 (L ops.size) ⟨fun t=>s.rel t ops.size (uzP _) fun i x hi _=>⟨fun _=>K1 hi,fun h=>hall i h⟩,s.size,s.defers,hs.glob.ext hp.ext⟩
   ⟨hp.emb.same (fun b hb=>?_) hwf,hp.ext,fun b hb=>?_,T.nexts hcall (vJz _) (uzP _),⟨hp.wd.os,hp.wd.tape,hp.wd.output,hp.wd.size,hp.wd.block⟩,fun b hb hm=>?_⟩
  ·rw[AH.obj hb]
   by_cases hlt:b<(H ops.size).next
   ·exact a7I T hcall c.qle (uzP _) hnw hlt
   ·rw[hwf b (vGz hlt)]
    have:=T.nexts hcall c.qle (uzP _)
    unfold Cur
    rw[if_neg (by omega),if_neg hlt]
  ·rcases hp.dom b hb with h3| ⟨i,_,hi,h4,h5⟩
   ·exact .inl h3
   ·have h6:=T.nexts hcall (vJz i) (Nat.le_of_lt hi)
    have h7:=T.nexts hcall (i:=i+1) (n:=ops.size) hi (uzP _)
    exact .inr ⟨by omega,by omega⟩
  ·have h2:=a7I T hcall c.qle (uzP _) hnw (uzN hb (T.nexts hcall (vJz _) (uzP _)))
   rw[h2]
   unfold Cur
   rw[if_pos (by omega),hp.same b (by omega) (hmb b hb hm),R6 T hcall hb (vJz _) (uzP _)]
   rfl
 ·exact⟨fun j hj=>absurd hj (hnone j),fun j hj=>absurd hj (hnone j),fun j o _ _=>⟨fun hj=>absurd hj (hnone j),fun hj=>by omega⟩,.inl rfl⟩
 ·refine⟨fun t n hn hc=>?_,hs.size,hs.defers⟩
  rw[a2w T (vJz n) hn fun i o _ h2 hi hd=>hnone i ((hc i o hi hd).2 h2)]
  exact hs.rel t
 ·refine⟨Ext.refl m,fun b hb=> .inl hb,(hE.same (fun b hb=>?_) (AH.wf T hcall (vJz _) m)).of_heap rfl,Wd.refl S _,fun b hb _=>?_,fun n hn=>?_⟩
  ·rw[AH.obj hb]
   unfold Cur
   split
   ·rfl
   ·rename_i h0
    rw[hE.wf b (vGz h0)]
    split
    ·rename_i h2
     exact absurd (hf b (vGz h0) h2) hb
    ·rfl
  ·rw[R6 T hcall hb (vJz _) (uzP _)];rfl
  ·rw[Nat.le_zero.1 hn];exact hE.wf
def LeO{α:Type}(x y:Option α):Prop:=∀r,x=some r->y=some r
theorem LeO.refl{α:Type}(x:Option α):LeO x x:=fun _ h=>h
def LeC(c d:z8):Prop:=∀f a h,LeO (c f a h) (d f a h)
theorem a1H{c d:z8}(hc:LeC c d)(o:COp)(h:Heap):LeO (I0 c o h) (I0 d o h):=by
 intro r hr
 unfold I0 at hr ⊢
 split at hr
 ·exact hc _ _ _ _ hr
 ·exact hc _ _ _ _ hr
 ·exact hc _ _ _ _ hr
 ·exact hr
theorem a1k{c d:z8}(hc:LeC c d)(l:Reg):∀h,LeO (M2 c l h) (M2 d l h):=by
 induction l with
 |done e=>intro h r hr;exact hr
 |op o k ih=>
  intro h r hr
  simp only[M2]at hr ⊢
  cases hx:I0 c o h with
  |none=>rw[hx]at hr;exact absurd hr (by simp)
  |some y=>rw[hx]at hr;rw[a1H hc _ _ _ hx];exact ih _ _ _ hr
 |opg g w o k ih=>
  intro h r hr
  simp only[M2]at hr ⊢
  cases hw:U3 g w with
  |none=>rw[hw]at hr;exact absurd hr (by simp)
  |some b=>
   rw[hw]at hr
   cases b with
   |true=>
    simp only at hr ⊢
    cases hx:I0 c o h with
    |none=>rw[hx]at hr;exact absurd hr (by simp)
    |some y=>rw[hx]at hr;rw[a1H hc _ _ _ hx];exact ih _ _ _ hr
   |false=>exact ih _ _ _ hr
 |snap k ih=>intro h r hr;simp only[M2]at hr ⊢;exact ih _ _ _ hr
 |chk g hj o v k ih=>
  intro h r hr
  simp only[M2]at hr ⊢
  split at hr
  ·rename_i hx;rw[if_pos hx];exact ih _ _ hr
  ·exact absurd hr (by simp)
theorem a0n{f g:a7->Heap->Option (X×a7×Heap)}(hf:∀e h,LeO (f e h) (g e h)):∀n m,n<=m->∀e h,LeO (Y2 f n e h) (Y2 g m e h):=by
 intro n
 induction n with
 |zero=>intro m _ e h r hr;exact absurd hr (by simp[Y2])
 |succ n ih=>
  intro m hm e h r hr
  obtain⟨m,rfl⟩:∃j,m=j+1:=⟨m-1,by omega⟩
  simp only[Y2]at hr ⊢
  cases hx:f e h with
  |none=>rw[hx]at hr;exact absurd hr (by simp)
  |some y=>
   rw[hx]at hr;rw[hf _ _ _ hx]
   obtain⟨x,e',h'⟩:=y
   cases x with
   |normal=>exact ih m (by omega) _ _ _ hr
   |exit i=>exact hr
   |ret=>exact hr
def c7G(x y:YF):Prop:=∀a h,LeO (x a h) (y a h)
def LeY(c d:Nat->YF->z8):Prop:=∀b y y',c7G y y' ->LeC (c b y) (d b y')
theorem a1v{fa fb ga gb:a7->Heap->Option (X×a7×Heap)}(ha:∀e h,LeO (fa e h) (ga e h))(hb:∀e h,LeO (fb e h) (gb e h))(b:Nat)(ps:List Nat)(e1:a7):c7G (M0 fa fb b ps e1) (M0 ga gb b ps e1):=by
 intro a h r hr
 unfold M0 at hr ⊢
 split at hr
 ·rename_i hc
  rw[if_pos hc]
  split at hr
  ·rename_i e2 h2 hx
   rw[ha _ _ _ hx]
   simp only
   split at hr
   ·rename_i hq
    rw[if_pos hq]
    split at hr
    ·rename_i x e3 h3 hy
     rw[hb _ _ _ hy];exact hr
    ·simp at hr
   ·simp at hr
  ·simp at hr
 ·simp at hr
theorem a7X{c d:Nat->YF->z8}(hc:LeY c d){y y' :YF}(hy:c7G y y')(b:Nat)(g:Value)(h:Heap):LeO (Z6 c y b g h) (Z6 d y' b g h):=by
 intro r hr
 unfold Z6 at hr ⊢
 split at hr
 ·exact hc _ _ _ hy _ _ _ _ hr
 ·simp at hr
theorem a2W{c d:z8}{cy dy:Nat->YF->z8}(hc:LeC c d)(hcy:LeY cy dy){n m:Nat}(hn:n<=m)(x:CC):∀e h,LeO (D3 c cy n x e h) (D3 d dy m x e h):=by
 induction x with
 |skip=>intro e h r hr;exact hr
 |region ops=>
  intro e h r hr
  simp only[D3,uzD]at hr ⊢
  obtain⟨a,ha,rfl⟩:=hr
  exact⟨a,a1k hc _ _ _ ha,rfl⟩
 |seq a b iha ihb=>
  intro e h r hr
  simp only[D3]at hr ⊢
  cases hx:D3 c cy n a e h with
  |none=>rw[hx]at hr;exact absurd hr (by simp)
  |some y=>
   rw[hx]at hr;rw[iha _ _ _ hx]
   obtain⟨x,e',h'⟩:=y
   cases x with
   |normal=>exact ihb _ _ _ hr
   |exit i=>exact hr
   |ret=>exact hr
 |cond t a b iha ihb=>
  intro e h r hr
  simp only[D3]at hr ⊢
  split at hr
  ·exact iha _ _ _ hr
  ·exact ihb _ _ _ hr
  ·exact absurd hr (by simp)
 |block id b ih=>
  intro e h r hr
  simp only[D3]at hr ⊢
  cases hx:D3 c cy n b e h with
  |none=>rw[hx]at hr;exact absurd hr (by simp)
  |some y=>
   rw[hx]at hr;rw[ih _ _ _ hx]
   exact hr
 |loop b ih=>intro e h;exact a0n (fun e h=>ih e h) n m hn e h
 |exit id=>intro e h r hr;exact hr
 |ret=>intro e h r hr;exact hr
 |bad=>intro e h r hr;exact hr
 |dfr pre g caps post iha ihb=>
  intro e h r hr
  simp only[D3]at hr ⊢
  cases hx:D3 c cy n pre e h with
  |none=>rw[hx]at hr;exact absurd hr (by simp)
  |some y=>
   rw[hx]at hr;rw[iha _ _ _ hx]
   obtain⟨x,e',h'⟩:=y
   cases x with
   |normal=>
    simp only at hr ⊢
    cases hy:D3 c cy n post e' h' with
    |none=>rw[hy]at hr;exact absurd hr (by simp)
    |some z=>
     rw[hy]at hr;rw[ihb _ _ _ hy]
     obtain⟨x2,e2,h2⟩:=z
     cases x2 with
     |exit i=>exact hr
     |_=>
      simp only[uzD]at hr ⊢
      obtain⟨a,ha,rfl⟩:=hr
      exact⟨a,hc _ _ _ _ ha,rfl⟩
   |exit i=>exact hr
   |ret=>exact hr
 |rng pre id g ps asg body post ih1 ih2 ih3 ih4=>
  intro e h r hr
  simp only[D3]at hr ⊢
  cases hx:D3 c cy n pre e h with
  |none=>rw[hx]at hr;exact absurd hr (by simp)
  |some y=>
   rw[hx]at hr;rw[ih1 _ _ _ hx]
   obtain⟨x,e',h'⟩:=y
   cases x with
   |normal=>
    simp only at hr ⊢
    cases hy:Z6 cy (M0 (D3 c cy n asg) (D3 c cy n body) h'.next ps e') h'.next (g e') (h'.new (.loop 0 none))with
    |none=>rw[hy]at hr;exact absurd hr (by simp)
    |some z=>
     rw[hy]at hr;rw[a7X hcy (a1v ih2 ih3 _ _ _) _ _ _ _ hy]
     obtain⟨v,h2⟩:=z
     simp only at hr ⊢
     cases hl:a1n id (h2.obj h'.next)with
     |none=>rw[hl]at hr;exact absurd hr (by simp)
     |some x2=>
      rw[hl]at hr
      cases x2 with
      |normal=>exact ih4 _ _ _ hr
      |exit i=>exact hr
      |ret=>exact hr
   |exit i=>exact hr
   |ret=>exact hr
theorem a0B(CP:CProg)(n:Nat)(f:FuncId)(args:List Value)(h:Heap):Q3 CP (n+1) (.fn f) args h=match CP f with
  |none=>none
  |some fn=>match D3 (Q3 CP n) (cyF CP n) n fn.body (T6 args) h with
   |some (.normal,e,h')=>(G3 e h' fn.results).map fun v=>(v,h')
   |some (.ret,e,h')=>(G3 e h' fn.results).map fun v=>(v,h')
   |_=>none:=by rw[Q3];rfl
theorem a2s(CP:CProg)(n:Nat)(b:Nat)(args:List Value)(h:Heap):Q3 CP (n+1) (.yl b) args h=ylF CP b args h:=by rw[Q3]
structure LeP(C D:CProg):Prop where
 fn:D.fn=C.fn
 yl:∀b y,C.yl=some (b,y)->∃y',D.yl=some (b,y')/\c7G y y'
theorem LeP.refl(C:CProg):LeP C C:=⟨rfl,fun b y h=>⟨y,h,fun _ _ _ h=>h⟩⟩
theorem LeP.put{C D:CProg}(h:LeP C D)(b:Nat){y y' :YF}(hy:c7G y y'):LeP (C.put b y) (D.put b y'):=⟨h.fn,fun c z hz=>by
 obtain⟨rfl,rfl⟩:=Prod.mk.inj (uzA hz)
 exact⟨y',rfl,hy⟩⟩
theorem e0C{C D:CProg}(h:LeP C D)(b:Nat)(args:List Value)(hh:Heap):LeO (ylF C b args hh) (ylF D b args hh):=by
 intro r hr
 unfold ylF at hr ⊢
 split at hr
 ·rename_i c y hy
  obtain⟨y',h1,h2⟩:=h.yl c y hy
  rw[h1]
  simp only
  split at hr
  ·rename_i hb;rw[if_pos hb];exact h2 _ _ _ hr
  ·simp at hr
 ·simp at hr
theorem b0R:∀n {C D:CProg},LeP C D->LeC (Q3 C n) (Q3 D (n+1))/\LeC (Q3 C n) (Q3 D n):=by
 intro n
 induction n with
 |zero=>intro C D h;exact⟨fun f a h r hr=>absurd hr (by simp[Q3]),fun f a h r hr=>absurd hr (by simp[Q3])⟩
 |succ n ih=>
  intro C D hP
  have go:∀k,(k=n+1\/k=n)->LeC (Q3 C n) (Q3 D k)->LeY (cyF C n) (cyF D k)->LeC (Q3 C (n+1)) (Q3 D (k+1)):=by
   intro k hk h1 h2 t a h r hr
   cases t with
   |yl b=>rw[a2s]at hr ⊢;exact e0C hP _ _ _ _ hr
   |fn f=>
    rw[a0B]at hr ⊢
    rw[show D f=C f from congrFun hP.fn f]
    cases hf:C f with
    |none=>rw[hf]at hr;exact absurd hr (by simp)
    |some fn=>
     rw[hf]at hr
     simp only at hr ⊢
     cases hx:D3 (Q3 C n) (cyF C n) n fn.body (T6 a) h with
     |none=>rw[hx]at hr;exact absurd hr (by simp)
     |some y=>rw[hx]at hr;rw[a2W h1 h2 (by omega) _ _ _ _ hx];exact hr
  exact⟨go (n+1) (.inl rfl) (ih hP).1 fun b y y' hy=>(ih (hP.put b hy)).1,go n (.inr rfl) (ih hP).2 fun b y y' hy=>(ih (hP.put b hy)).2⟩
theorem evF_mono'{n m:Nat}(h:n<=m){C D:CProg}(hP:LeP C D):LeC (Q3 C n) (Q3 D m):=by
 induction h with
 |refl=>exact(b0R n hP).2
 |step h ih=>intro f a h r hr;exact(b0R _ (LeP.refl D)).1 _ _ _ _ (ih _ _ _ _ hr)
theorem T5(CP:CProg){n m:Nat}(h:n<=m):LeC (Q3 CP n) (Q3 CP m):=evF_mono' h (LeP.refl CP)
theorem a7K{n m:Nat}(h:n<=m){C D:CProg}(hP:LeP C D):LeY (cyF C n) (cyF D m):=fun b y y' hy=>evF_mono' h (hP.put b hy)
theorem F5(CP:CProg){n m:Nat}(h:n<=m)(x:CC)(e:a7)(hh:Heap):LeO (D3 (Q3 CP n) (cyF CP n) n x e hh) (D3 (Q3 CP m) (cyF CP m) m x e hh):=a2W (T5 CP h) (a7K h (LeP.refl CP)) h x e hh
section
variable (CP:CProg)
abbrev B5:=X->a7->Heap->Prop
def u9(f:FuncId)(args:List Value)(h:Heap)(Q:Value->Heap->Prop):Prop:=
 ∃n v h',Q3 CP n (.fn f) args h=some (v,h')/\Q v h'
def H1(r:Reg)(h:Heap)(Q:B5):Prop:=
 ∃n e' h',M2 (Q3 CP n) r h=some (e',h')/\Q .normal e' h'
def I1(c:CC)(e:a7)(h:Heap)(Q:B5):Prop:=
 ∃n x e' h',D3 (Q3 CP n) (cyF CP n) n c e h=some (x,e',h')/\Q x e' h'
def a1X(b:CC)(Q:B5):B5
 | .normal,e,h=>I1 CP b e h Q
 |x,e,h=>Q x e h
def a0f(id:Nat)(Q:B5):B5
 | .exit i,e,h=>if i=id then Q .normal e h else Q (.exit i) e h
 |x,e,h=>Q x e h
def a4R(v:Option Value)(h:Heap)(Q:Value->Heap->Prop):Prop:=
 match v with
 |some v=>Q v h
 |none=>False
def a1t(rs:List RV)(Q:Value->Heap->Prop):B5
 | .normal,e,h=>a4R (G3 e h rs) h Q
 | .ret,e,h=>a4R (G3 e h rs) h Q
 | .exit _,_,_=>False
def a0G(k:Value->Reg)(Q:B5):Value->Heap->Prop:=fun v h=>H1 CP (k v) h Q
def a2l(r:Option (Value×Heap))(k:Value->Reg)(Q:B5):Prop:=
 match r with
 |some (v,h)=>H1 CP (k v) h Q
 |none=>False
def a3G(b:Option Bool)(o:COp)(k:Value->Reg)(h:Heap)(Q:B5):Prop:=
 match b with
 |some true=>H1 CP (.op o k) h Q
 |some false=>H1 CP (k (.tuple #[])) h Q
 |none=>False
theorem u9.mono{CP:CProg}{f:FuncId}{args:List Value}{h:Heap}{Q Q' :Value->Heap->Prop}(c:u9 CP f args h Q)(hq:∀v h,Q v h->Q' v h):u9 CP f args h Q' :=
 let ⟨n,v,h',e,q⟩:=c;⟨n,v,h',e,hq _ _ q⟩
theorem I1.mono{CP:CProg}{c:CC}{e:a7}{h:Heap}{Q Q' :B5}(r:I1 CP c e h Q)(hq:∀x e h,Q x e h->Q' x e h):I1 CP c e h Q' :=
 let ⟨n,x,e',h',k,q⟩:=r;⟨n,x,e',h',k,hq _ _ _ q⟩
theorem v9{CP:CProg}{f:FuncId}{args:List Value}{h:Heap}{v:Value}{h' :Heap}(c:u9 CP f args h fun x g=>x=v/\g=h')(Q:Value->Heap->Prop):u9 CP f args h Q↔Q v h' :=by
 obtain⟨n,x,g,he,rfl,rfl⟩:=c
 constructor
 ·rintro⟨m,x2,g2,he2,hq⟩
  have h1:=T5 CP (Nat.le_max_left n m) _ args h _ he
  have h2:=T5 CP (Nat.le_max_right n m) _ args h _ he2
  rw[h1]at h2
  simp only[uzC,uzB]at h2
  obtain⟨rfl,rfl⟩:=h2
  exact hq
 ·exact fun hq=>⟨n,_,_,he,hq⟩
theorem a8{f:FuncId}{fn:CFn}(hf:CP f=some fn)(args:List Value)(h:Heap)(Q:Value->Heap->Prop):
  u9 CP f args h Q↔I1 CP fn.body (T6 args) h (a1t fn.results Q):=by
 constructor
 ·rintro⟨n,v,h',hx,hq⟩
  cases n with
  |zero=>simp[Q3]at hx
  |succ n=>
   rw[a0B,hf]at hx
   simp only at hx
   cases hy:D3 (Q3 CP n) (cyF CP n) n fn.body (T6 args) h with
   |none=>rw[hy]at hx;simp at hx
   |some y=>
    obtain⟨x,e,h''⟩:=y
    rw[hy]at hx
    cases x with
    |normal=>
     simp only[uzD,uzB]at hx
     obtain⟨u,hu,rfl,rfl⟩:=hx
     exact⟨n,_,_,_,hy,by simp only[a1t,hu,a4R];exact hq⟩
    |ret=>
     simp only[uzD,uzB]at hx
     obtain⟨u,hu,rfl,rfl⟩:=hx
     exact⟨n,_,_,_,hy,by simp only[a1t,hu,a4R];exact hq⟩
    |exit i=>simp at hx
 ·rintro⟨n,x,e,h',hx,hq⟩
  have fin:∀o:Option Value,a4R o h' Q->∃u,o=some u/\Q u h' :=fun o ho=>by
   cases o with
   |none=>exact ho.elim
   |some u=>exact⟨u,rfl,ho⟩
  cases x with
  |normal=>
   obtain⟨u,hu,hq⟩:=fin _ hq
   exact⟨n+1,u,h',by rw[a0B,hf];simp only[hx,hu];rfl,hq⟩
  |ret=>
   obtain⟨u,hu,hq⟩:=fin _ hq
   exact⟨n+1,u,h',by rw[a0B,hf];simp only[hx,hu];rfl,hq⟩
  |exit i=>exact hq.elim
theorem c7O(e:a7)(h:Heap)(Q:B5):I1 CP .skip e h Q↔Q .normal e h:=
 ⟨fun⟨_,_,_,_,hx,hq⟩=>by simp only[D3,uzC,uzB]at hx;obtain⟨rfl,rfl,rfl⟩:=hx;exact hq,fun q=>⟨0,_,_,_,rfl,q⟩⟩
theorem d0e(e:a7)(h:Heap)(Q:B5):I1 CP .ret e h Q↔Q .ret e h:=
 ⟨fun⟨_,_,_,_,hx,hq⟩=>by simp only[D3,uzC,uzB]at hx;obtain⟨rfl,rfl,rfl⟩:=hx;exact hq,fun q=>⟨0,_,_,_,rfl,q⟩⟩
theorem c7N(id:Nat)(e:a7)(h:Heap)(Q:B5):I1 CP (.exit id) e h Q↔Q (.exit id) e h:=
 ⟨fun⟨_,_,_,_,hx,hq⟩=>by simp only[D3,uzC,uzB]at hx;obtain⟨rfl,rfl,rfl⟩:=hx;exact hq,fun q=>⟨0,_,_,_,rfl,q⟩⟩
theorem b2R(r:a7->Reg)(e:a7)(h:Heap)(Q:B5):I1 CP (.region r) e h Q↔H1 CP (r e) h Q:=by
 constructor
 ·rintro⟨n,x,e',h',hx,hq⟩
  simp only[D3,uzD,uzB]at hx
  obtain⟨⟨a,b⟩,ha,rfl,rfl,rfl⟩:=hx
  exact⟨n,_,_,ha,hq⟩
 ·rintro⟨n,e',h',hx,hq⟩
  exact⟨n,.normal,e',h',by simp[D3,hx],hq⟩
def e4k(g:FuncId)(cs:List Value)(Q:B5):B5
 | .exit _,_,_=>False
 | .normal,e2,h2=>u9 CP g cs h2 fun _ h3=>Q .ret e2 h3
 | .ret,e2,h2=>u9 CP g cs h2 fun _ h3=>Q .ret e2 h3
def e4l(g:FuncId)(caps:a7->List Value)(post:CC)(Q:B5):B5
 | .normal,e1,h1=>I1 CP post e1 h1 (e4k CP g (caps e1) Q)
 | .ret,e1,h1=>Q .ret e1 h1
 | .exit _,_,_=>False
theorem a5F(pre:CC)(g:FuncId)(caps:a7->List Value)(post:CC)(e:a7)(h:Heap)(Q:B5)(hr:I1 CP pre e h (e4l CP g caps post Q)):I1 CP (.dfr pre g caps post) e h Q:=by
 obtain⟨n,x,e1,h1,hx,hq⟩:=hr
 cases x with
 |exit i=>exact hq.elim
 |ret=>exact⟨n,_,_,_,by simp only[D3,hx],hq⟩
 |normal=>
  obtain⟨m,x2,e2,h2,hy,hq⟩:=hq
  have fin:(x2=.normal\/x2=.ret)->u9 CP g (caps e1) h2 (fun _ h3=>Q .ret e2 h3)->I1 CP (.dfr pre g caps post) e h Q:=fun hx2 hc=>by
   obtain⟨k,v,h3,hz,hq⟩:=hc
   refine⟨max (max n m) k,.ret,e2,h3,?_,hq⟩
   have l1:n<=max (max n m) k:=by omega
   have l2:m<=max (max n m) k:=by omega
   have l3:k<=max (max n m) k:=by omega
   simp only[D3]
   rw[F5 CP l1 _ _ _ _ hx]
   simp only
   rw[F5 CP l2 _ _ _ _ hy]
   rcases hx2 with rfl|rfl
   ·simp only[T5 CP l3 _ _ _ _ hz,vlz]
   ·simp only[T5 CP l3 _ _ _ _ hz,vlz]
  cases x2 with
  |exit i=>exact hq.elim
  |normal=>exact fin (.inl rfl) hq
  |ret=>exact fin (.inr rfl) hq
theorem d0f(a b:CC)(e:a7)(h:Heap)(Q:B5):I1 CP (.seq a b) e h Q↔I1 CP a e h (a1X CP b Q):=by
 constructor
 ·rintro⟨n,x,e',h',hx,hq⟩
  simp only[D3]at hx
  cases hy:D3 (Q3 CP n) (cyF CP n) n a e h with
  |none=>rw[hy]at hx;simp at hx
  |some y=>
   obtain⟨x1,e1,h1⟩:=y
   rw[hy]at hx
   cases x1 with
   |normal=>exact⟨n,_,_,_,hy,n,_,_,_,hx,hq⟩
   |exit i=>simp only[uzC,uzB]at hx;obtain⟨rfl,rfl,rfl⟩:=hx;exact⟨n,_,_,_,hy,hq⟩
   |ret=>simp only[uzC,uzB]at hx;obtain⟨rfl,rfl,rfl⟩:=hx;exact⟨n,_,_,_,hy,hq⟩
 ·rintro⟨n,x,e1,h1,hx,hq⟩
  cases x with
  |normal=>
   obtain⟨m,x2,e2,h2,hy,hq⟩:=hq
   refine⟨max n m,x2,e2,h2,?_,hq⟩
   simp only[D3]
   rw[F5 CP (Nat.le_max_left n m) _ _ _ _ hx]
   exact F5 CP (Nat.le_max_right n m) _ _ _ _ hy
  |exit i=>exact⟨n,_,_,_,by simp only[D3,hx],hq⟩
  |ret=>exact⟨n,_,_,_,by simp only[D3,hx],hq⟩
theorem c7M(c:a7->Value)(a b:CC)(e:a7)(h:Heap)(Q:B5):
  I1 CP (.cond c a b) e h Q↔match c e with
   | .bool true=>I1 CP a e h Q
   | .bool false=>I1 CP b e h Q
   |_=>False:=by
 constructor
 ·rintro⟨n,x,e',h',hx,hq⟩
  simp only[D3]at hx
  split at hx
  ·rename_i heq;simp only[heq];exact⟨n,_,_,_,hx,hq⟩
  ·rename_i heq;simp only[heq];exact⟨n,_,_,_,hx,hq⟩
  ·exact absurd hx (by simp)
 ·intro r
  split at r
  ·rename_i heq;obtain⟨n,x,e',h',hx,hq⟩:=r;exact⟨n,_,_,_,by simp only[D3,heq];exact hx,hq⟩
  ·rename_i heq;obtain⟨n,x,e',h',hx,hq⟩:=r;exact⟨n,_,_,_,by simp only[D3,heq];exact hx,hq⟩
  ·exact r.elim
def b4t(v:Value)(a b:CC)(e:a7)(h:Heap)(Q:B5):Prop:=
 match v with
 | .bool true=>I1 CP a e h Q
 | .bool false=>I1 CP b e h Q
 |_=>False
theorem b5T(c:a7->Value)(a b:CC)(e:a7)(h:Heap)(Q:B5):I1 CP (.cond c a b) e h Q↔b4t CP (c e) a b e h Q:=
 c7M CP c a b e h Q
theorem b6t(a b:CC)(e:a7)(h:Heap)(Q:B5):b4t CP (.bool true) a b e h Q↔I1 CP a e h Q:=Iff.rfl
theorem b4u(a b:CC)(e:a7)(h:Heap)(Q:B5):b4t CP (.bool false) a b e h Q↔I1 CP b e h Q:=Iff.rfl
theorem b5S(id:Nat)(b:CC)(e:a7)(h:Heap)(Q:B5):I1 CP (.block id b) e h Q↔I1 CP b e h (a0f id Q):=by
 constructor
 ·rintro⟨n,x,e',h',hx,hq⟩
  simp only[D3]at hx
  cases hy:D3 (Q3 CP n) (cyF CP n) n b e h with
  |none=>rw[hy]at hx;simp at hx
  |some y=>
   obtain⟨x1,e1,h1⟩:=y
   rw[hy]at hx
   cases x1 with
   |normal=>simp only[uzC,uzB]at hx;obtain⟨rfl,rfl,rfl⟩:=hx;exact⟨n,_,_,_,hy,hq⟩
   |ret=>simp only[uzC,uzB]at hx;obtain⟨rfl,rfl,rfl⟩:=hx;exact⟨n,_,_,_,hy,hq⟩
   |exit i=>
    by_cases hi:i=id
    ·simp only[hi,if_true,uzC,uzB]at hx;obtain⟨rfl,rfl,rfl⟩:=hx
     exact⟨n,_,_,_,hy,by simp only[a0f,hi,if_true];exact hq⟩
    ·simp only[hi,if_false,uzC,uzB]at hx;obtain⟨rfl,rfl,rfl⟩:=hx
     exact⟨n,_,_,_,hy,by simp only[a0f,hi,if_false];exact hq⟩
 ·rintro⟨n,x,e',h',hx,hq⟩
  cases x with
  |normal=>exact⟨n,_,_,_,by simp only[D3,hx],hq⟩
  |ret=>exact⟨n,_,_,_,by simp only[D3,hx],hq⟩
  |exit i=>
   by_cases hi:i=id
   ·simp only[a0f,hi,if_true]at hq
    exact⟨n,_,_,_,by simp only[D3,hx,hi,if_true],hq⟩
   ·simp only[a0f,hi,if_false]at hq
    exact⟨n,_,_,_,by simp only[D3,hx,hi,if_false],hq⟩
def a8d(I:a7->Heap->Prop)(Q:B5):B5
 | .normal,e,h=>I e h
 |x,e,h=>Q x e h
theorem A6(b:CC)(Q:B5)(I:Nat->a7->Heap->Prop)
  (round:∀d e h,I d e h->I1 CP b e h (a8d (fun e h=>∃d',d' <d/\I d' e h) Q)):
  ∀d e h,I d e h->I1 CP (.loop b) e h Q:=by
 intro d
 induction d using Nat.strongRecOn with
 |_ d ih=>
  intro e h hI
  obtain⟨n,x,e1,h1,hx,hq⟩:=round d e h hI
  cases x with
  |normal=>
   obtain⟨d',hlt,hI'⟩:=hq
   obtain⟨m,x2,e2,h2,hy,hq2⟩:=ih d' hlt e1 h1 hI'
   refine⟨max n m+1,x2,e2,h2,?_,hq2⟩
   simp only[D3,Y2]
   rw[F5 CP (Nat.le_succ_of_le (Nat.le_max_left n m)) _ _ _ _ hx]
   simp only
   simp only[D3]at hy
   exact a0n (fun e h=>F5 CP (Nat.le_succ_of_le (Nat.le_max_right n m)) b e h) m (max n m) (Nat.le_max_right n m) e1 h1 _ hy
  |exit i=>
   refine⟨n+1,_,_,_,?_,hq⟩
   simp only[D3,Y2]
   rw[F5 CP (vLz n) _ _ _ _ hx]
  |ret=>
   refine⟨n+1,_,_,_,?_,hq⟩
   simp only[D3,Y2]
   rw[F5 CP (vLz n) _ _ _ _ hx]
theorem Z2(b:CC)(Q:B5)(e:a7)(h:Heap)(r:I1 CP b e h (a8d (fun e h=>I1 CP (.loop b) e h Q) Q)):I1 CP (.loop b) e h Q:=by
 obtain⟨n,x,e1,h1,hx,hq⟩:=r
 cases x with
 |normal=>
  obtain⟨m,x2,e2,h2,hy,hq2⟩:=hq
  refine⟨max n m+1,x2,e2,h2,?_,hq2⟩
  simp only[D3,Y2]
  rw[F5 CP (Nat.le_succ_of_le (Nat.le_max_left n m)) _ _ _ _ hx]
  simp only
  simp only[D3]at hy
  exact a0n (fun e h=>F5 CP (Nat.le_succ_of_le (Nat.le_max_right n m)) b e h) m (max n m) (Nat.le_max_right n m) e1 h1 _ hy
 |exit i=>
  refine⟨n+1,_,_,_,?_,hq⟩
  simp only[D3,Y2]
  rw[F5 CP (vLz n) _ _ _ _ hx]
 |ret=>
  refine⟨n+1,_,_,_,?_,hq⟩
  simp only[D3,Y2]
  rw[F5 CP (vLz n) _ _ _ _ hx]
theorem c7Q(e:a7)(h:Heap)(Q:B5):H1 CP (.done e) h Q↔Q .normal e h:=
 ⟨fun⟨_,_,_,hx,hq⟩=>by simp only[M2,uzC,uzB]at hx;obtain⟨rfl,rfl⟩:=hx;exact hq,fun q=>⟨0,_,_,rfl,q⟩⟩
def a3o(b:Nat)(args:List Value)(h:Heap)(Q:Value->Heap->Prop):Prop:=match ylF CP b args h with
 |some (v,h')=>Q v h'
 |none=>False
def a7D(fv:Value)(args:List Value)(h:Heap)(Q:Value->Heap->Prop):Prop:=
 match fv with
 | .func (.func g) first captured=>u9 CP g (first.toList++args++captured.toList) h Q
 | .func (.yield b) _ _=>a3o CP b args h Q
 |_=>False
theorem b0E(b:Nat)(first captured:Array Value)(args:List Value)(h:Heap)(Q:Value->Heap->Prop):
  a7D CP (.func (.yield b) first captured) args h Q↔a3o CP b args h Q:=Iff.rfl
theorem b0D(g:FuncId)(first captured:Array Value)(args:List Value)(h:Heap)(Q:Value->Heap->Prop):
  a7D CP (.func (.func g) first captured) args h Q↔u9 CP g (first.toList++args++captured.toList) h Q:=Iff.rfl
theorem a5H{o:COp}{f:FuncId}{args:List Value}(ho:∀c h,I0 c o h=c (.fn f) args h)(k:Value->Reg)(h:Heap)(Q:B5):
  H1 CP (.op o k) h Q↔u9 CP f args h (a0G CP k Q):=by
 constructor
 ·rintro⟨n,e',h',hx,hq⟩
  simp only[M2,ho]at hx
  cases hc:Q3 CP n (.fn f) args h with
  |none=>rw[hc]at hx;simp at hx
  |some y=>rw[hc]at hx;exact⟨n,_,_,hc,n,_,_,hx,hq⟩
 ·rintro⟨n,v,h1,hc,m,e',h',hx,hq⟩
  refine⟨max n m,e',h',?_,hq⟩
  simp only[M2,ho]
  rw[T5 CP (Nat.le_max_left n m) _ _ _ _ hc]
  exact a1k (T5 CP (Nat.le_max_right n m)) _ _ _ hx
theorem c7P{o:COp}(ho:∀c h,I0 c o h=C7 o h)(k:Value->Reg)(h:Heap)(Q:B5):
  H1 CP (.op o k) h Q↔a2l CP (C7 o h) k Q:=by
 constructor
 ·rintro⟨n,e',h',hx,hq⟩
  simp only[M2,ho]at hx
  cases hc:C7 o h with
  |none=>rw[hc]at hx;simp at hx
  |some y=>rw[hc]at hx;exact⟨n,_,_,hx,hq⟩
 ·intro r
  cases hc:C7 o h with
  |none=>rw[hc]at r;exact r.elim
  |some y=>
   rw[hc]at r
   obtain⟨n,e',h',hx,hq⟩:=r
   exact⟨n,e',h',by simp only[M2,ho,hc];exact hx,hq⟩
theorem b5U(f:Value)(args:List Value)(k:Value->Reg)(h:Heap)(Q:B5):
  H1 CP (.op (.callv f args) k) h Q↔a7D CP f args h (a0G CP k Q):=by
 cases f with
 |func fn first captured=>
  cases fn with
  |func g=>exact a5H CP (fun _ _=>rfl) k h Q
  |yield b=>
   constructor
   ·rintro⟨n,e',h',hx,hq⟩
    cases n with
    |zero=>simp[M2,I0,Q3]at hx
    |succ n=>
     simp only[M2,I0,a2s]at hx
     show a3o CP b args h _
     unfold a3o
     cases hy:ylF CP b args h with
     |none=>rw[hy]at hx;simp at hx
     |some z=>rw[hy]at hx;exact⟨n+1,e',h',hx,hq⟩
   ·intro r
    have r:a3o CP b args h (a0G CP k Q):=r
    unfold a3o at r
    cases hy:ylF CP b args h with
    |none=>rw[hy]at r;exact r.elim
    |some z=>
     rw[hy]at r
     obtain⟨n,e',h',hx,hq⟩:=r
     refine⟨n+1,e',h',?_,hq⟩
     simp only[M2,I0,a2s,hy]
     exact a1k (T5 CP (vLz n)) _ _ _ hx
  |_=>exact⟨fun⟨n,e',h',hx,_⟩=>by simp[M2,I0,C7]at hx,fun r=>r.elim⟩
 |_=>exact⟨fun⟨n,e',h',hx,_⟩=>by simp[M2,I0,C7]at hx,fun r=>r.elim⟩
theorem e0O(o:COp)(k:Value->Reg)(h:Heap)(Q:B5):
  H1 CP (.op o k) h Q↔match o with
   | .call f args=>u9 CP f args h (a0G CP k Q)
   | .callv f args=>a7D CP f args h (a0G CP k Q)
   |o=>a2l CP (C7 o h) k Q:=by
 cases o with
 |call f args=>exact a5H CP (fun _ _=>rfl) k h Q
 |callv f args=>exact b5U CP f args k h Q
 |_=>exact c7P CP (fun _ _=>rfl) k h Q
theorem d0h(g:Value)(w:Bool)(o:COp)(k:Value->Reg)(h:Heap)(Q:B5):
  H1 CP (.opg g w o k) h Q↔a3G CP (U3 g w) o k h Q:=by
 unfold H1 a3G
 simp only[M2]
 cases hw:U3 g w with
 |none=>simp
 |some b=>cases b<;>simp only[H1,M2]
theorem b4N(o:COp)(k:Value->Reg)(h:Heap)(Q:B5):a3G CP (some true) o k h Q↔H1 CP (.op o k) h Q:=Iff.rfl
theorem b2j(o:COp)(k:Value->Reg)(h:Heap)(Q:B5):a3G CP (some false) o k h Q↔H1 CP (k (.tuple #[])) h Q:=Iff.rfl
theorem c7R(k:Heap->Reg)(h:Heap)(Q:B5):H1 CP (.snap k) h Q↔H1 CP (k h) h Q:=by
 unfold H1;simp only[M2]
theorem d0g(g:Option (Value×Bool))(hj:Option Heap)(o:COp)(v:Value)(k:Reg)(h:Heap)(Q:B5):H1 CP (.chk g hj o v k) h Q↔(W5 g (hj.getD h) o v/\H1 CP k h Q):=by
 unfold H1;simp only[M2]
 by_cases hc:W5 g (hj.getD h) o v<;>simp[hc]
theorem e2Z:(false==true)=false:=rfl
theorem e3a:(true==false)=false:=rfl
theorem b7r(x w:Bool):U3 (.bool x) w=some (x==w):=rfl
theorem b7s(w:Bool):U3 (.tuple #[]) w=some false:=rfl
theorem b2U(v:Value)(h:Heap)(k:Value->Reg)(Q:B5):a2l CP (some (v,h)) k Q↔H1 CP (k v) h Q:=Iff.rfl
theorem b5p(b:CC)(Q:B5)(e:a7)(h:Heap):a1X CP b Q .normal e h↔I1 CP b e h Q:=Iff.rfl
theorem e0f(b:CC)(Q:B5)(e:a7)(h:Heap):a1X CP b Q .ret e h↔Q .ret e h:=Iff.rfl
theorem c9x(b:CC)(Q:B5)(i:Nat)(e:a7)(h:Heap):a1X CP b Q (.exit i) e h↔Q (.exit i) e h:=Iff.rfl
theorem a8K(id:Nat)(Q:B5)(e:a7)(h:Heap):a0f id Q .normal e h↔Q .normal e h:=Iff.rfl
theorem b5Z(id:Nat)(Q:B5)(e:a7)(h:Heap):a0f id Q .ret e h↔Q .ret e h:=Iff.rfl
theorem b2W(id i:Nat)(Q:B5)(e:a7)(h:Heap):a0f id Q (.exit i) e h↔if i=id then Q .normal e h else Q (.exit i) e h:=Iff.rfl
theorem b2l(I:a7->Heap->Prop)(Q:B5)(e:a7)(h:Heap):a8d I Q .normal e h↔I e h:=Iff.rfl
theorem c9a(I:a7->Heap->Prop)(Q:B5)(e:a7)(h:Heap):a8d I Q .ret e h↔Q .ret e h:=Iff.rfl
theorem b6M(I:a7->Heap->Prop)(Q:B5)(i:Nat)(e:a7)(h:Heap):a8d I Q (.exit i) e h↔Q (.exit i) e h:=Iff.rfl
theorem d9V(rs:List RV)(Q:Value->Heap->Prop)(e:a7)(h:Heap):a1t rs Q .ret e h↔a4R (G3 e h rs) h Q:=Iff.rfl
theorem b5l(rs:List RV)(Q:Value->Heap->Prop)(e:a7)(h:Heap):a1t rs Q .normal e h↔a4R (G3 e h rs) h Q:=Iff.rfl
theorem c8N(v:Value)(h:Heap)(Q:Value->Heap->Prop):a4R (some v) h Q↔Q v h:=Iff.rfl
theorem d8q(k:Value->Reg)(Q:B5)(v:Value)(h:Heap):a0G CP k Q v h↔H1 CP (k v) h Q:=Iff.rfl
end
def sel:Bool->Value->Value->Value
 |true,a,_=>a
 |false,_,b=>b
theorem e9H(a b:Value):sel true a b=a:=rfl
theorem e9G(a b:Value):sel false a b=b:=rfl
theorem e0y(e:a7)(t s:Nat)(v:Value):(e.upd t v) s=sel (s==t) v (e s):=by
 by_cases h:s=t
 ·subst h;simp[a7.upd,sel]
 ·have h2:(s==t)=false:=by simp[h]
  rw[h2];simp[a7.upd,h,sel]
theorem e0z(e:a7)(t:Nat)(v:Value):(e.upd t v) t=v:=by simp[a7.upd]
theorem d9n(args:List Value)(t:Nat):T6 args t=args.getD t (.tuple #[]):=rfl
theorem a9(h:Heap)(b:Nat)(o:Obj):(h.upd b o).obj b=o:=by simp[Heap.upd]
theorem a6(h:Heap){b x:Nat}(o:Obj)(hne:x≠b):(h.upd b o).obj x=h.obj x:=by simp[Heap.upd,hne]
theorem f9(h:Heap)(o:Obj):(h.new o).obj h.next=o:=by simp[Heap.new]
theorem f4(h:Heap){x:Nat}(o:Obj)(hne:x≠h.next):(h.new o).obj x=h.obj x:=by simp[Heap.new,hne]
theorem a4V(h:Heap)(b:Nat)(p o:Obj):((h.upd b p).new o).obj h.next=o:=f9 (h.upd b p) o
theorem a3N(h:Heap)(b c:Nat)(p q o:Obj):(((h.upd b p).upd c q).new o).obj h.next=o:=f9 ((h.upd b p).upd c q) o
theorem N4(h:Heap)(p o:Obj):((h.new p).new o).obj (h.next+1)=o:=f9 (h.new p) o
theorem a8R(h:Heap)(q p o:Obj):(((h.new q).new p).new o).obj (h.next+1+1)=o:=f9 ((h.new q).new p) o
theorem a4U(h:Heap)(b:Nat)(q p o:Obj):(((h.new q).upd b p).new o).obj (h.next+1)=o:=f9 ((h.new q).upd b p) o
theorem b4V(h:Heap){x:Nat}(p o:Obj)(hne:x≠h.next+1):((h.new p).new o).obj x=(h.new p).obj x:=f4 _ _ hne
theorem b4W(h:Heap){x:Nat}(q p o:Obj)(hne:x≠h.next+1+1):(((h.new q).new p).new o).obj x=((h.new q).new p).obj x:=f4 _ _ hne
theorem b4X(h:Heap){x:Nat}(r q p o:Obj)(hne:x≠h.next+1+1+1):((((h.new r).new q).new p).new o).obj x=(((h.new r).new q).new p).obj x:=f4 _ _ hne
theorem r9(h:Heap)(b:Nat)(o:Obj):(h.upd b o).next=h.next:=rfl
theorem j0(h:Heap)(o:Obj):(h.new o).next=h.next+1:=rfl
theorem a8J(a:Addr):a.add 0=a:=rfl
theorem a3r(b o n:Nat):(⟨b,o,none⟩:Addr).add n=⟨b,o+n,none⟩:=by
 unfold Addr.add
 split
 ·rename_i h;subst h;rfl
 ·rfl
theorem b0U(c:List Value)(e:TypeId)(g:How)(o:Nat):(Obj.cells c e g).get o=c[o]? :=rfl
theorem N8(c:List Value)(e:TypeId)(g:How)(o n:Nat):(Obj.cells c e g).read o n=if o+n<=c.length then some ((c.drop o).take n)else none:=rfl
theorem e0q(c:List Value)(e:TypeId)(o n:Nat):(Obj.cells c e .ro).src o n=if o+n<=c.length/\((c.drop o).take n).all E9=true then some ((c.drop o).take n)else none:=rfl
theorem e2j(c:List Value)(e:TypeId)(o n:Nat):(Obj.cells c e .fix).src o n=if o+n<=c.length then some ((c.drop o).take n)else none:=rfl
theorem a1z(c:List Value)(e:TypeId)(o n:Nat):(Obj.cells c e .grow).src o n=if o+n<=c.length then some ((c.drop o).take n)else none:=rfl
theorem c9S(c:List Value)(e:TypeId)(o:Nat)(vs:List Value):(Obj.cells c e .fix).write o vs=if o+vs.length<=c.length then some (.cells (setAt c o vs) e .fix)else none:=rfl
theorem a2D(c:List Value)(e:TypeId)(o:Nat)(vs:List Value):(Obj.cells c e .grow).write o vs=if o+vs.length<=c.length then some (.cells (setAt c o vs) e .grow)else none:=rfl
theorem c8G(c:List Value)(e t:TypeId):(Obj.cells c e .ro).elemOk t=true:=rfl
theorem b6z(c:List Value)(e t:TypeId):(Obj.cells c e .fix).elemOk t=true:=rfl
theorem b4D(c:List Value)(e t:TypeId):(Obj.cells c e .grow).elemOk t=(e==t):=rfl
theorem e0s(c:List Value)(e:TypeId):(Obj.cells c e .ro).stiff=true:=rfl
theorem c9K(c:List Value)(e:TypeId):(Obj.cells c e .fix).stiff=true:=rfl
theorem P9{n:Int}(h0: -9223372036854775808<=n)(h1:n<=9223372036854775807):IntKind.i64.wrap n=n:=by
 show(if(true && decide (n % 18446744073709551616>=9223372036854775808))=true then n % 18446744073709551616-18446744073709551616 else n % 18446744073709551616)=n
 simp only[Bool.true_and,Bool.false_and,decide_eq_true_eq,vgz,if_false]
 split<;>omega
theorem a8D{n:Int}(h0: -2147483648<=n)(h1:n<=2147483647):IntKind.i32.wrap n=n:=by
 show(if(true && decide (n % 4294967296>=2147483648))=true then n % 4294967296-4294967296 else n % 4294967296)=n
 simp only[Bool.true_and,Bool.false_and,decide_eq_true_eq,vgz,if_false]
 split<;>omega
theorem e2q{n:Int}(h0: -128<=n)(h1:n<=127):IntKind.i8.wrap n=n:=by
 show(if(true && decide (n % 256>=128))=true then n % 256-256 else n % 256)=n
 simp only[Bool.true_and,Bool.false_and,decide_eq_true_eq,vgz,if_false]
 split<;>omega
theorem e2r{n:Int}(h0:0<=n)(h1:n<=255):IntKind.u8.wrap n=n:=by
 show(if(false && decide (n % 256>=128))=true then n % 256-256 else n % 256)=n
 simp only[Bool.true_and,Bool.false_and,decide_eq_true_eq,vgz,if_false]
 omega
theorem b5M{n:Int}(h0:0<=n)(h1:n<=4294967295):IntKind.u32.wrap n=n:=by
 show(if(false && decide (n % 4294967296>=2147483648))=true then n % 4294967296-4294967296 else n % 4294967296)=n
 simp only[Bool.true_and,Bool.false_and,decide_eq_true_eq,vgz,if_false]
 omega
theorem U4{n:Int}(h0:0<=n)(h1:n<=18446744073709551615):IntKind.u64.wrap n=n:=by
 show(if(false && decide (n % 18446744073709551616>=9223372036854775808))=true then n % 18446744073709551616-18446744073709551616 else n % 18446744073709551616)=n
 simp only[Bool.true_and,Bool.false_and,decide_eq_true_eq,vgz,if_false]
 omega
def ints(k:IntKind)(l:List Int):List Value:=l.map (.int k)
theorem C6(k:IntKind)(l:List Int):(ints k l).length=l.length:=by simp[ints]
theorem C5(k:IntKind)(l:List Int){i:Nat}{x:Int}(h:l[i]? =some x):(ints k l)[i]? =some (.int k x):=by simp[ints,h]
theorem H7(k:IntKind)(l:List Int)(i:Nat)(x:Int):(ints k l).set i (.int k x)=ints k (l.set i x):=by simp[ints,List.map_set]
structure Old(h h' :Heap):Prop where
 next:h.next<=h'.next
 obj:∀b,b<h.next->h'.obj b=h.obj b
theorem Old.refl(h:Heap):Old h h:=⟨uzP _,fun _ _=>rfl⟩
theorem Old.trans{a b c:Heap}(h:Old a b)(k:Old b c):Old a c:=⟨uzR h.next k.next,fun x hx=>by rw[k.obj x (uzN hx h.next),h.obj x hx]⟩
theorem u5{CP:CProg}{r r' :Reg}(h:Heap)(Q:B5)(e:r=r'):H1 CP r h Q=H1 CP r' h Q:=by rw[e]
theorem u4{CP:CProg}{c c' :CC}(e:a7)(h:Heap)(Q:B5)(q:c=c'):I1 CP c e h Q=I1 CP c' e h Q:=by rw[q]
theorem l5{CP:CProg}{r r' :Option (Value×Heap)}(k:Value->Reg)(Q:B5)(e:r=r'):a2l CP r k Q=a2l CP r' k Q:=by rw[e]
theorem l8{CP:CProg}{b b' :Option Bool}(o:COp)(k:Value->Reg)(h:Heap)(Q:B5)(e:b=b'):a3G CP b o k h Q=a3G CP b' o k h Q:=by rw[e]
theorem r8{CP:CProg}{v v' :Value}(a b:CC)(e:a7)(h:Heap)(Q:B5)(q:v=v'):b4t CP v a b e h Q=b4t CP v' a b e h Q:=by rw[q]
theorem s9{CP:CProg}{f:FuncId}{args args' :List Value}(h:Heap)(Q:Value->Heap->Prop)(e:args=args'):u9 CP f args h Q=u9 CP f args' h Q:=by rw[e]
theorem u6{v v' :Option Value}(h:Heap)(Q:Value->Heap->Prop)(e:v=v'):a4R v h Q=a4R v' h Q:=by rw[e]
theorem w9{o o' :COp}(k:Value->Reg)(e:o=o'):Reg.op o k=Reg.op o' k:=by rw[e]
theorem u7{g g' :Value}{w:Bool}{o:COp}(k:Value->Reg)(e:g=g'):Reg.opg g w o k=Reg.opg g' w o k:=by rw[e]
def U8(ρz:Option Nat)(nz:Nat)(P:Program)(c:Code)(Q:Exit->Act->World->Prop)(a:Act)(w:World):Prop:=
 ∀(b:Frame) (k:List Item) (cs:List Frame),b.roundOf=(FZ ρz).round->(FZ ρz).fn b.fn->(FZ ρz).room (cs.length+1+nz)->∃e a' w',Q e a' w' /\ArrivesIn (Machine.fenced P (FZ ρz)) P (lone (b.atR a (.code c:: .inLoop c::k)) cs w) b k cs e a' w'
theorem U8.loop{ρz:Option Nat}{nz:Nat}{P:Program}{c:Code}{Q:Exit->Act->World->Prop}{a:Act}{w:World}(h:U8 ρz nz P c Q a w):(Code.loop c).wpIn (FZ ρz) nz P Q a w:=by
 intro b k cs hro hb hr
 obtain⟨e,a',w',hq,harr⟩:=h b k cs hro hb hr
 exact⟨e,a',w',hq,.of_steps (.one (fenced_calm hb hr rfl) stepR_loop) harr⟩
theorem U8.round{ρz:Option Nat}{nz:Nat}{P:Program}{c:Code}{Q:Exit->Act->World->Prop}{a:Act}{w:World}(h:c.wpIn (FZ ρz) nz P (Exit.then (U8 ρz nz P c Q) Q) a w):U8 ρz nz P c Q a w:=by
 intro b k cs hro hb hr
 obtain⟨e,a₁,w₁,hq,harr⟩:=h b (.inLoop c::k) cs hro hb hr
 cases e with
 |normal=>
  obtain⟨e₂,a₂,w₂,hq₂,harr₂⟩:=hq b k cs hro hb hr
  exact⟨e₂,a₂,w₂,hq₂,.of_steps (StepsIn.trans harr (.one (fenced_calm hb hr rfl) stepR_inLoop)) harr₂⟩
 |exit id=>exact⟨_,a₁,w₁,hq,.pass (x:=.inLoop c) rfl (fun _ _=> .inl (by simp)) harr⟩
 |goto l=>exact⟨_,a₁,w₁,hq,.pass (x:=.inLoop c) rfl (fun _ _=> .inl (by simp)) harr⟩
 |ret=>exact⟨_,a₁,w₁,hq,.pass (x:=.inLoop c) rfl (fun _ _=> .inl (by simp)) harr⟩
 |panic ch=>exact⟨_,a₁,w₁,hq,.pass (x:=.inLoop c) rfl (fun _ _=> .inl (by simp)) harr⟩
 |outgrown=>exact⟨_,a₁,w₁,hq,.pass (x:=.inLoop c) rfl (fun _ _=> .inl (by simp)) harr⟩
theorem a3I{f:a7->Heap->Option (X×a7×Heap)}(hf:∀{e h x e1 h1},f e h=some (x,e1,h1)->h.next<=h1.next):∀(n:Nat) {e h x e1 h1},Y2 f n e h=some (x,e1,h1)->h.next<=h1.next
 |0,_,_,_,_,_,hc=>by simp[Y2]at hc
 |n+1,e,h,x,e1,h1,hc=>by
  simp only[Y2]at hc
  split at hc
  ·rename_i e' h' he
   exact uzR (hf he) (a3I hf n hc)
  ·exact hf hc
theorem a1w{fa fb:a7->Heap->Option (X×a7×Heap)}(ha:∀{e h x e1 h1},fa e h=some (x,e1,h1)->h.next<=h1.next)(hb:∀{e h x e1 h1},fb e h=some (x,e1,h1)->h.next<=h1.next){b:Nat}{ps:List Nat}{e1:a7}{args:List Value}{h h1:Heap}{v:Value}
  (hc:M0 fa fb b ps e1 args h=some (v,h1)):h.next<=h1.next:=by
 unfold M0 at hc
 split at hc
 ·split at hc
  ·rename_i e2 h2 hx
   split at hc
   ·split at hc
    ·rename_i x e3 h3 hy
     split at hc
     ·simp only[uzC,uzB]at hc
      rw[<-hc.2]
      have h1:=ha hx
      have h2:=hb hy
      exact uzR h1 h2
     ·simp at hc
    ·simp at hc
   ·simp at hc
  ·simp at hc
 ·simp at hc
def a9d(call:z8):Prop:=∀t args h v h1,call t args h=some (v,h1)->h.next<=h1.next
def a0u(cy:Nat->YF->z8):Prop:=∀b y,(∀args h v h1,y args h=some (v,h1)->h.next<=h1.next)->a9d (cy b y)
theorem CallsOK.rises{P:Program}{Y:YP}{call:z8}(h:CallsOK P Y call):a9d call:=fun t args hh v h1 hc=>by
 cases t with
 |fn f=>exact(h.fn f args hh v h1 hc).next
 |yl b=>exact(h.yl b args hh v h1 hc).next
theorem a7N{call:z8}(hcall:a9d call){o:COp}{h h1:Heap}{v:Value}(hc:I0 call o h=some (v,h1)):h.next<=h1.next:=by
 unfold I0 at hc
 split at hc
 ·exact hcall _ _ _ _ _ hc
 ·exact hcall _ _ _ _ _ hc
 ·exact hcall _ _ _ _ _ hc
 ·exact b4y hc
theorem c8K{call:z8}(hcall:a9d call)(r:Reg):∀{h h1:Heap} {e1:a7},M2 call r h=some (e1,h1)->h.next<=h1.next:=by
 induction r with
 |done e=>intro h h1 e1 hc;simp only[M2,uzC,uzB]at hc;rw[hc.2];exact uzP _
 |op o k ih=>
  intro h h1 e1 hc
  simp only[M2]at hc
  split at hc
  ·rename_i v h' he;exact uzR (a7N hcall he) (ih v hc)
  ·simp at hc
 |opg g w o k ih=>
  intro h h1 e1 hc
  simp only[M2]at hc
  split at hc
  ·split at hc
   ·rename_i v h' he;exact uzR (a7N hcall he) (ih v hc)
   ·simp at hc
  ·exact ih _ hc
  ·simp at hc
 |snap k ih=>intro h h1 e1 hc;exact ih h hc
 |chk g hj o v k ih=>
  intro h h1 e1 hc
  simp only[M2]at hc
  split at hc
  ·exact ih hc
  ·simp at hc
theorem H6{call:z8}(hcall:a9d call){cy:Nat->YF->z8}(hcy:a0u cy){N:Nat}(c:CC):∀{e h x e1 h1},D3 call cy N c e h=some (x,e1,h1)->h.next<=h1.next:=by
 induction c with
 |skip=>intro e h x e1 h1 hc;simp only[D3,uzC,uzB]at hc;rw[hc.2.2];exact uzP _
 |exit id=>intro e h x e1 h1 hc;simp only[D3,uzC,uzB]at hc;rw[hc.2.2];exact uzP _
 |ret=>intro e h x e1 h1 hc;simp only[D3,uzC,uzB]at hc;rw[hc.2.2];exact uzP _
 |bad=>intro e h x e1 h1 hc;simp[D3]at hc
 |region r=>
  intro e h x e1 h1 hc
  simp only[D3,uzD]at hc
  obtain⟨⟨e',h'⟩,hr,heq⟩:=hc
  simp only[uzB]at heq
  rw[<-heq.2.2]
  exact c8K hcall _ hr
 |seq a b iha ihb=>
  intro e h x e1 h1 hc
  simp only[D3]at hc
  split at hc
  ·rename_i e' h' he;exact uzR (iha he) (ihb hc)
  ·exact iha hc
 |cond c a b iha ihb=>
  intro e h x e1 h1 hc
  simp only[D3]at hc
  split at hc
  ·exact iha hc
  ·exact ihb hc
  ·simp at hc
 |block id b ih=>
  intro e h x e1 h1 hc
  simp only[D3]at hc
  split at hc
  ·rename_i i e' h' he
   split at hc
   ·simp only[uzC,uzB]at hc;rw[<-hc.2.2];exact ih he
   ·simp only[uzC,uzB]at hc;rw[<-hc.2.2];exact ih he
  ·exact ih hc
 |loop b ih=>
  intro e h x e1 h1 hc
  simp only[D3]at hc
  exact a3I (fun h=>ih h) N hc
 |dfr pre g caps post iha ihb=>
  intro e h x e1 h1 hc
  simp only[D3]at hc
  split at hc
  ·rename_i e' h' he
   split at hc
   ·rename_i e2 h2 he2
    simp only[uzD,uzB]at hc
    obtain⟨r,hr,_,_,rfl⟩:=hc
    exact uzR (iha he) (uzR (ihb he2) (hcall _ _ _ _ _ hr))
   ·rename_i e2 h2 he2
    simp only[uzD,uzB]at hc
    obtain⟨r,hr,_,_,rfl⟩:=hc
    exact uzR (iha he) (uzR (ihb he2) (hcall _ _ _ _ _ hr))
   ·simp at hc
  ·rename_i e' h' he
   simp only[uzC,uzB]at hc
   rw[<-hc.2.2];exact iha he
  ·simp at hc
 |rng pre id g ps asg body post ih1 ih2 ih3 ih4=>
  intro e h x e1 h1 hc
  simp only[D3]at hc
  split at hc
  ·rename_i e' h' he
   split at hc
   ·rename_i v h2 hi
    have n1:=ih1 he
    have n2:h'.next<=h2.next:=by
     unfold Z6 at hi
     split at hi
     ·exact uzR (vLz _) (hcy _ _ (fun args h v h1 hr=>a1w (fun h=>ih2 h) (fun h=>ih3 h) hr) _ _ _ _ _ hi)
     ·simp at hi
    split at hc
    ·have n3:=ih4 hc
     exact uzR n1 (uzR n2 n3)
    ·simp only[uzC,uzB]at hc
     rw[<-hc.2.2]
     exact uzR n1 n2
    ·simp at hc
   ·simp at hc
  ·rename_i e' h' he
   simp only[uzC,uzB]at hc
   rw[<-hc.2.2];exact ih1 he
  ·simp at hc
theorem O3{P:Program}{b:Frame}{a:Act}{k:List Item}{cs:List Frame}{w:World}{c:Code}:step P (lone (b.atR a (.code (.scope c)::k)) cs w)=.next (lone (b.atR a (.code c:: .inScope c::k)) cs w):=
 step_lone_go (by simp[stepG,stepG.exec,Frame.atR])
theorem a9a{P:Program}{b:Frame}{a:Act}{k:List Item}{cs:List Frame}{w:World}{c:Code}:step P (lone (b.atR a (.inScope c::k)) cs w)=.next (lone (b.atR a k) cs w):=
 step_lone_go (by simp[stepG,stepG.exec,Frame.atR])
theorem a1Y{P:Program}{F:Fence}{n:Nat}{Q:Exit->Act->World->Prop}{a:Act}{w:World}{c:Code}(h:c.wpIn F n P (Exit.noGoto Q) a w):(Code.scope c).wpIn F n P Q a w:=by
 intro b k cs hro hb hr
 have h0:(lone (b.atR a (.code (.scope c)::k)) cs w).fenced P F:=fenced_calm hb hr rfl
 obtain⟨e,a₁,w₁,hq,harr⟩:=h b (.inScope c::k) cs hro hb hr
 cases e with
 |normal=>exact⟨.normal,a₁,w₁,hq,.head h0 O3 (StepsIn.trans harr (.one (fenced_calm hb hr rfl) a9a))⟩
 |exit id=>
  have hx:exitTo id (.inScope c::k)=exitTo id k:=by simp[exitTo]
  exact⟨.exit id,a₁,w₁,hq,fun k' hk=> .head h0 O3 (harr.1 k' (by rw[hx];exact hk)),
   fun hr' hk=>let ⟨k₁,h1,h2⟩:=harr.2 hr' (by rw[hx];exact hk);⟨k₁,h1,.head h0 O3 h2⟩⟩
 |goto l=>exact hq.elim
 |ret=>exact⟨_,a₁,w₁,hq,.of_steps (.one h0 O3) harr⟩
 |panic ch=>exact⟨_,a₁,w₁,hq,.of_steps (.one h0 O3) harr⟩
 |outgrown=>exact⟨_,a₁,w₁,hq,.of_steps (.one h0 O3) harr⟩
def a2t:X->Exit
 | .normal=> .normal
 | .exit id=> .exit id
 | .ret=> .ret
theorem Slots.drop{p:Pers}{m:Map}{e l:a7}{a:Act}(s:Slots p m e l a):Slots p m e (fun _=>unk) a:=
 ⟨fun t=>by
  have:=s.rel t
  unfold Y4 at this ⊢
  split
  ·rename_i h;rw[if_pos h]at this;exact this
  ·exact .unk _,s.size,s.defers,s.glob⟩
section
variable {P:Program}
theorem O6{S:Stay}{Y:YP}{call:z8}(hcall:CallsOK P Y call)(hY:Y S.lp){cy:Nat->YF->z8}(hcy:a0u cy)(ρz:Option Nat)(nz:Nat)(N:Nat)(p:Pers)(c:Code):∀{Q:Exit->Act->World->Prop} {x:X} {e1:a7} {h1:Heap} {m:Map} {e:a7} {h:Heap} {a:Act} {w:World},
  D3 call cy N (I8 P p c) e h=some (x,e1,h1)->Slots p m e (fun _=>unk) a->Emb P S m h w->K6 m h.next h1.next->
  (∀a1 w1 m1,Slots p m1 e1 (fun _=>unk) a1->Out P S m h w m1 h1 w1->Q (a2t x) a1 w1)->c.wpIn (FZ ρz) nz P Q a w:=by
 induction c with
 |skip=>
  intro Q x e1 h1 m e h a w hr hs hE hf hQ
  simp only[I8,D3,uzC,uzB]at hr
  obtain⟨rfl,rfl,rfl⟩:=hr
  exact wpIn_skip (hQ a w m hs (Out.refl hE))
 |exit id=>
  intro Q x e1 h1 m e h a w hr hs hE hf hQ
  simp only[I8,D3,uzC,uzB]at hr
  obtain⟨rfl,rfl,rfl⟩:=hr
  exact wpIn_exit (hQ a w m hs (Out.refl hE))
 |ret=>
  intro Q x e1 h1 m e h a w hr hs hE hf hQ
  simp only[I8,D3,uzC,uzB]at hr
  obtain⟨rfl,rfl,rfl⟩:=hr
  exact wpIn_ret (hQ a w m hs (Out.refl hE))
 |label l=>
  intro Q x e1 h1 m e h a w hr hs hE hf hQ
  simp only[I8,D3,uzC,uzB]at hr
  obtain⟨rfl,rfl,rfl⟩:=hr
  exact wpIn_label (hQ a w m hs (Out.refl hE))
 |scope b ih=>
  intro Q x e1 h1 m e h a w hr hs hE hf hQ
  refine a1Y (ih hr hs hE hf fun a1 w1 m1 hs1 ho=>?_)
  have:=hQ a1 w1 m1 hs1 ho
  cases x<;>exact this
 |region id ops d=>
  intro Q x e1 h1 m e h a w hr hs hE hf hQ
  cases d with
  |false=>
   simp only[I8,D3,uzD,uzB]at hr
   obtain⟨⟨e',h'⟩,hr,rfl,rfl,rfl⟩:=hr
   exact wpIn_region_list (a5t hcall hY ρz nz p ops ops.toList m e _ h a w hr hs hE hf fun a1 w1 m1 l1 hs1 ho=>hQ a1 w1 m1 hs1.drop ho)
  |true=>
   simp only[I8]at hr
   split at hr
   ·rename_i hok
    simp only[vjz]at hok
    simp only[D3,uzD,uzB]at hr
    obtain⟨⟨e',h'⟩,hr,rfl,rfl,rfl⟩:=hr
    exact d9b hcall hY ρz nz p ops (a5b ops) hok.1.1 hok.1.2 hok.2 hr hs hE hf fun a1 w1 m1 l1 hs1 ho=>hQ a1 w1 m1 hs1.drop ho
   ·simp[D3]at hr
 |seq a b iha ihb=>
  intro Q x e1 h1 m e h ac w hr hs hE hf hQ
  simp only[I8,D3]at hr
  split at hr
  ·rename_i e' h' he
   have hn:=H6 hcall.rises hcy _ hr
   refine wpIn_seq (iha he hs hE (hf.mono (uzP _) hn) fun a1 w1 m1 hs1 ho=>?_)
   exact ihb hr hs1 ho.emb (K6.out ho hf) fun a2 w2 m2 hs2 ho2=>hQ a2 w2 m2 hs2 (ho.trans ho2)
  ·rename_i hne
   refine wpIn_seq (iha hr hs hE hf fun a1 w1 m1 hs1 ho=>?_)
   have:=hQ a1 w1 m1 hs1 ho
   cases x with
   |normal=>exact absurd hr (hne _ _)
   |exit id=>exact this
   |ret=>exact this
 |cond c a b iha ihb=>
  intro Q x e1 h1 m e h ac w hr hs hE hf hQ
  simp only[I8,D3]at hr
  have hv:=hs.eval c
  split at hr
  ·rename_i hc
   rw[hc]at hv
   exact wpIn_cond_true hv.bool_inv (iha hr hs hE hf hQ)
  ·rename_i hc
   rw[hc]at hv
   exact wpIn_cond_false hv.bool_inv (ihb hr hs hE hf hQ)
  ·simp at hr
 |block id b ih=>
  intro Q x e1 h1 m e h a w hr hs hE hf hQ
  simp only[I8,D3]at hr
  split at hr
  ·rename_i i e' h' he
   have hh:h' =h1/\e' =e1/\(i=id/\x=.normal\/i≠id/\x=.exit i):=by
    split at hr
    ·rename_i hi
     simp only[uzC,uzB]at hr
     exact⟨hr.2.2,hr.2.1,.inl ⟨hi,hr.1.symm⟩⟩
    ·rename_i hi
     simp only[uzC,uzB]at hr
     exact⟨hr.2.2,hr.2.1,.inr ⟨hi,hr.1.symm⟩⟩
   obtain⟨rfl,rfl,hx⟩:=hh
   refine wpIn_block (ih he hs hE hf fun a1 w1 m1 hs1 ho=>?_)
   have:=hQ a1 w1 m1 hs1 ho
   show(if i=id then Q .normal a1 w1 else Q (.exit i) a1 w1)
   rcases hx with⟨hi,rfl⟩| ⟨hi,rfl⟩
   ·rw[if_pos hi];exact this
   ·rw[if_neg hi];exact this
  ·rename_i hne
   refine wpIn_block (ih hr hs hE hf fun a1 w1 m1 hs1 ho=>?_)
   have:=hQ a1 w1 m1 hs1 ho
   cases x with
   |normal=>exact this
   |exit i=>exact absurd hr (hne _ _ _)
   |ret=>exact this
 |loop b ih=>
  intro Q x e1 h1 m e h a w hr hs hE hf hQ
  simp only[I8,D3]at hr
  refine U8.loop ?_
  have key:∀(n:Nat) {m:Map} {e:a7} {h:Heap} {a:Act} {w:World},Y2 (D3 call cy N (I8 P p b)) n e h=some (x,e1,h1)->Slots p m e (fun _=>unk) a->Emb P S m h w->K6 m h.next h1.next->
    (∀a1 w1 m1,Slots p m1 e1 (fun _=>unk) a1->Out P S m h w m1 h1 w1->Q (a2t x) a1 w1)->U8 ρz nz P b Q a w:=by
   intro n
   induction n with
   |zero=>intro m e h a w hr;simp[Y2]at hr
   |succ n ihn=>
    intro m e h a w hr hs hE hf hQ
    simp only[Y2]at hr
    split at hr
    ·rename_i e' h' he
     have hn:=a3I (fun h=>H6 hcall.rises hcy _ h) n hr
     refine U8.round (ih he hs hE (hf.mono (uzP _) hn) fun a1 w1 m1 hs1 ho=>?_)
     exact ihn hr hs1 ho.emb (K6.out ho hf) fun a2 w2 m2 hs2 ho2=>hQ a2 w2 m2 hs2 (ho.trans ho2)
    ·rename_i hne
     refine U8.round (ih hr hs hE hf fun a1 w1 m1 hs1 ho=>?_)
     have:=hQ a1 w1 m1 hs1 ho
     cases x with
     |normal=>exact absurd hr (hne _ _)
     |exit id=>exact this
     |ret=>exact this
  exact key N hr hs hE hf hQ
 |_=>
  intros
  rename_i hr _ _ _ _
  simp[I8,D3]at hr
def e1Z(tmps:Array Value):ResultVar->Sem Value
 | .tmp t=>pure (tmps.getD t undef)
 | .cell a t=>do loadVar t (<-asAddr (tmps.getD a undef))
theorem b7e(F:Func)(tmps:Array Value):results F tmps=(do
  let vs <-F.results.mapM (e1Z tmps)
  pure (if h:vs.size=1 then vs[0]else .tuple vs)):=rfl
theorem a0s{S:Stay}{m:Map}{h:Heap}{w:World}(hE:Emb P S m h w){r:ResultVar}{c:RV}(hr:a8T P r=some c){p:Pers}(hp:p.has c.slot=true){e:a7}{a:Act}(s:Slots p m e (fun _=>unk) a){v:Value}(hv:a3U e h c=some v):
  ∃v',(e1Z a.tmps r).run P w=.ok v' w/\VR m v v' :=by
 have hat:∀t,p.has t=true->VR m (e t) (a.tmps.getD t undef):=fun t ht=>by
  have:=s.rel t
  unfold Y4 at this
  rw[if_pos ht]at this;exact this
 cases r with
 |tmp t=>
  simp only[a8T,uzC]at hr
  subst hr
  simp only[a3U,uzC]at hv
  subst hv
  exact⟨_,rfl,hat t hp⟩
 |cell x t=>
  simp only[a8T]at hr
  split at hr
  case isFalse=>simp at hr
  rename_i ht
  obtain rfl:=uzA hr
  simp only[a3U,uzD]at hv
  obtain⟨⟨u,h2⟩,hc,rfl⟩:=hv
  obtain⟨d,i,hu,hi⟩:=G9 ht
  have hx:=hat x hp
  simp only[C7]at hc
  split at hc
  case h_2=>simp at hc
  rename_i b o hex
  rw[hex]at hx
  obtain⟨b',o',L,heq,hb,hx'⟩:=hx.ptr_inv
  obtain⟨rfl,rfl, -⟩:=Addr.mk.inj heq
  unfold a3s at hc
  by_cases hagg:a0h P t=true
  ·rw[if_pos hagg]at hc
   simp only[uzD,uzB]at hc
   obtain⟨cs,hcs,rfl,rfl⟩:=hc
   obtain⟨hl,cs',hv,hcell⟩:=a1r hE hb hcs
   have hl' :cs'.length=P.cellsOf t:=by rw[<-hv.1];exact hl
   refine⟨_,?_,VR.agg_of (a:=cs.toArray) (a' :=cs'.toArray) (by simpa using hv)⟩
   have:=J3 (P:=P) hcell
   rw[hl']at this
   simp only[e1Z,hx',asAddr,loadVar,Sem.run_bind,Sem.run_pure,Result.andThen_ok,run_isAgg' w hu,hagg,if_true,run_sizeOf' w hi,this]
  ·simp only[hagg,vgz,if_false,uzD,uzB]at hc
   obtain⟨cv,hcv,rfl,rfl⟩:=hc
   obtain⟨v',hcell,hv⟩:=c7f hE hb hcv
   refine⟨_,?_,hv⟩
   simp only[e1Z,hx',asAddr,loadVar,Sem.run_bind,Sem.run_pure,Result.andThen_ok,run_isAgg' w hu,hagg,vgz,if_false,run_load,hcell]
theorem Z9{S:Stay}{m:Map}{h:Heap}{w:World}(hE:Emb P S m h w){F:Func}{rs:List RV}(hF:F.results.toList.mapM (a8T P)=some rs)(h3:rs.length<=3){p:Pers}(hp:(rs.all fun r=>p.has r.slot)=true){e:a7}{a:Act}(s:Slots p m e (fun _=>unk) a){v:Value}(hv:G3 e h rs=some v):
  ∃v',(results F a.tmps).run P w=.ok v' w/\VR m v v' :=by
 obtain⟨l,hl⟩:∃l,F.results=l.toArray/\F.results.toList=l:=⟨F.results.toList,by simp,rfl⟩
 rw[hl.2]at hF
 have hcons:∀{r:ResultVar} {l:List ResultVar} {rs:List RV},(r::l).mapM (a8T P)=some rs->∃c cs,rs=c::cs/\a8T P r=some c/\l.mapM (a8T P)=some cs:=fun h=>by
  simp only[List.mapM_cons,Option.bind_eq_bind,vhz,Option.pure_def,uzC]at h
  obtain⟨c,hc,cs,hcs,rfl⟩:=h
  exact⟨c,cs,rfl,hc,hcs⟩
 have hnil:∀{rs:List RV},([]:List ResultVar).mapM (a8T P)=some rs->rs=[]:=fun h=>by
  simp only[List.mapM_nil,Option.pure_def,uzC]at h
  exact h.symm
 rw[b7e,hl.1]
 match l,hF with
 | [],hF=>
  obtain rfl:=hnil hF
  simp only[G3,a3T,List.map_nil,vlz,uzC]at hv
  subst hv
  exact⟨.tuple #[],by simp,.tuple _ _ rfl (fun i x y hx=>by simp at hx)⟩
 | [r],hF=>
  obtain⟨c,cs,rfl,h1,hF⟩:=hcons hF
  obtain rfl:=hnil hF
  simp only[List.all_cons,List.all_nil,Bool.and_true]at hp
  obtain⟨v1,k1,q1⟩:=a0s hE h1 hp s hv
  exact⟨v1,by simp[Sem.run_bind,k1],q1⟩
 | [r,r2],hF=>
  obtain⟨c,cs,rfl,h1,hF⟩:=hcons hF
  obtain⟨c2,cs,rfl,h2,hF⟩:=hcons hF
  obtain rfl:=hnil hF
  simp only[List.all_cons,List.all_nil,Bool.and_true,vjz]at hp
  simp only[G3,List.map_cons,List.map_nil]at hv
  cases e1:a3U e h c with
  |none=>rw[e1]at hv;simp[a3T]at hv
  |some u1=>
   cases e2:a3U e h c2 with
   |none=>rw[e1,e2]at hv;simp[a3T]at hv
   |some u2=>
    rw[e1,e2]at hv
    simp only[a3T,vlz,uzC]at hv
    subst hv
    obtain⟨v1,k1,q1⟩:=a0s hE h1 hp.1 s e1
    obtain⟨v2,k2,q2⟩:=a0s hE h2 hp.2 s e2
    refine⟨.tuple #[v1,v2],by simp[Sem.run_bind,k1,k2],.tuple _ _ rfl ?_⟩
    have hvl:=VL.cons q1 (VL.cons q2 (VL.nil m))
    exact fun i x y hx hy=>hvl.2 i x y (by simpa using hx) (by simpa using hy)
 | [r,r2,r3],hF=>
  obtain⟨c,cs,rfl,h1,hF⟩:=hcons hF
  obtain⟨c2,cs,rfl,h2,hF⟩:=hcons hF
  obtain⟨c3,cs,rfl,h3',hF⟩:=hcons hF
  obtain rfl:=hnil hF
  simp only[List.all_cons,List.all_nil,Bool.and_true,vjz]at hp
  simp only[G3,List.map_cons,List.map_nil]at hv
  cases e1:a3U e h c with
  |none=>rw[e1]at hv;simp[a3T]at hv
  |some u1=>
   cases e2:a3U e h c2 with
   |none=>rw[e1,e2]at hv;simp[a3T]at hv
   |some u2=>
    cases e3:a3U e h c3 with
    |none=>rw[e1,e2,e3]at hv;simp[a3T]at hv
    |some u3=>
     rw[e1,e2,e3]at hv
     simp only[a3T,vlz,uzC]at hv
     subst hv
     obtain⟨v1,k1,q1⟩:=a0s hE h1 hp.1 s e1
     obtain⟨v2,k2,q2⟩:=a0s hE h2 hp.2.1 s e2
     obtain⟨v3,k3,q3⟩:=a0s hE h3' hp.2.2 s e3
     refine⟨.tuple #[v1,v2,v3],by simp[Sem.run_bind,k1,k2,k3],.tuple _ _ rfl ?_⟩
     have hvl:=VL.cons q1 (VL.cons q2 (VL.cons q3 (VL.nil m)))
     exact fun i x y hx hy=>hvl.2 i x y (by simpa using hx) (by simpa using hy)
 |r::r2::r3::r4::l,hF=>
  obtain⟨c,cs,rfl,h1,hF⟩:=hcons hF
  obtain⟨c2,cs,rfl,h2,hF⟩:=hcons hF
  obtain⟨c3,cs,rfl,h3',hF⟩:=hcons hF
  obtain⟨c4,cs,rfl,h4,hF⟩:=hcons hF
  simp only[uzM]at h3
  omega
theorem a3b(p:Pers)(D:List Deferred):D4 { p with ds:=D }=D4 p:=by
 funext e l x
 cases x<;>rfl
theorem c7s(p:Pers)(D:List Deferred):M4 { p with ds:=D }=M4 p:=by
 funext e l d v
 cases d<;>rfl
theorem b4Z(P:Program)(p:Pers)(D:List Deferred):a2f P { p with ds:=D }=a2f P p:=by
 funext all o e l k
 unfold a2f
 rw[a3b]
 rfl
theorem c8Q(p:Pers)(D:List Deferred):a0D { p with ds:=D }=a0D p:=by
 funext all o e l
 unfold a0D
 rw[a3b]
theorem b5E(P:Program)(p:Pers)(D:List Deferred)(all:Array Oper):∀(ops:List Oper) (e l:a7),a0O P { p with ds:=D } all ops e l=a0O P p all ops e l
 | [],e,l=>rfl
 |o::rest,e,l=>by
  simp only[a0O,b4Z,c7s,b5E P p D all rest]
theorem b1r(P:Program)(p:Pers)(D:List Deferred)(all:Array Oper)(ah:List (List Nat)):∀(ops:List Oper) (i:Nat) (e l:a7) (hist:List Hist) (snaps:List (Nat×Heap)),W4 P { p with ds:=D } all ah ops i e l hist snaps=W4 P p all ah ops i e l hist snaps
 | [],i,e,l,hist,snaps=>rfl
 |o::rest,i,e,l,hist,snaps=>by
  simp only[W4,b4Z,c7s,a3b,c8Q,b1r P p D all ah rest]
theorem c7C(p:Pers)(D:List Deferred)(c:Code):I8 P { p with ds:=D } c=I8 P p c:=by
 induction c with
 |seq a b iha ihb=>simp only[I8,iha,ihb]
 |cond x a b iha ihb=>simp only[I8,iha,ihb,a3b]
 |block id b ih=>simp only[I8,ih]
 |loop b ih=>simp only[I8,ih]
 |scope b ih=>simp only[I8,ih]
 |region id ops d=>cases d<;>simp only[I8,b5E,b1r]
 |_=>rfl
theorem b6I{c:Code}{g:FuncId}{caps:Array Operand}{t:Nat}(h:d9o c=some (g,caps,t)):∃id ops mk df ts first,c=.region id ops false/\ops.toList=[mk,df]/\mk.op=.makeFunc (.func g) first caps/\first= #[]/\mk.guard=none/\mk.dst=some t/\df.op=.defer ⟨.value (.tmp t),#[],ts⟩/\df.guard=none/\df.dst=none:=by
 unfold d9o at h
 split at h
 ·rename_i id ops
  split at h
  ·rename_i mk df hl
   split at h
   ·rename_i g' first caps' t1 t2 args ts h1 h2 h3 h4 h5 h6
    split at h
    ·rename_i hc
     simp only[vjz]at hc
     obtain⟨⟨ha,hb⟩,ht⟩:=hc
     simp only[uzC,uzB]at h
     obtain⟨rfl,rfl,rfl⟩:=h
     have hb' :args= #[]:=by simpa using hb
     subst hb'
     have:t1=t2:=Nat.eq_of_beq_eq_true ht
     subst this
     exact⟨id,ops,mk,df,ts,first,rfl,hl,h1,by simpa using ha,h2,h3,h4,h5,h6⟩
    ·simp at h
   ·simp at h
  ·simp at h
 ·simp at h
theorem c6X{S:Stay}{Y:YP}{call:z8}(hcall:CallsOK P Y call)(hY:Y S.lp){cy:Nat->YF->z8}(hcy:a0u cy)(N:Nat)(p:Pers)(hds:p.ds=[]){Q:Exit->Act->World->Prop}:∀(c:Code) {pre post:Code} {g:FuncId} {caps:Array Operand} {t:Nat},a0t c=some (pre,(g,caps,t),post)->Nat.blt t p.size=true->p.has t=false->
  ∀{x:X} {e1:a7} {h1:Heap} {m:Map} {e:a7} {h:Heap} {a:Act} {w:World},
  D3 call cy N (I8 P p pre) e h=some (x,e1,h1)->Slots p m e (fun _=>unk) a->Emb P S m h w->K6 m h.next h1.next->
  (x≠.normal->∀a1 w1 m1,Slots p m1 e1 (fun _=>unk) a1->Out P S m h w m1 h1 w1->Q (a2t x) a1 w1)->
  (x=.normal->∀a1 w1 m1 c',Slots { p with ds:=[⟨.fn (.func g) c',#[]⟩] } m1 e1 (fun _=>unk) a1->Out P S m h w m1 h1 w1->VL m1 (caps.toList.map (D4 p e1 (fun _=>unk))) c'.toList->post.wpIn (FZ none) 0 P Q a1 w1)->
  c.wpIn (FZ none) 0 P Q a w:=by
 intro c
 induction c with
 |seq a b iha ihb=>
  intro pre post g caps t hsp hlt hnot x e1 h1 m e h ac w hr hs hE hf hQ1 hQ2
  simp only[a0t]at hsp
  split at hsp
  ·rename_i r hd
   simp only[uzC,uzB]at hsp
   obtain⟨rfl,rfl,rfl⟩:=hsp
   simp only[I8,D3,uzC,uzB]at hr
   obtain⟨rfl,rfl,rfl⟩:=hr
   obtain⟨id,ops,mk,df,ts,first,rfl,hl,k1,rfl,k2,k3,k4,k5,k6⟩:=b6I hd
   refine wpIn_seq (wpIn_region_list ?_)
   rw[hl]
   unfold wpListIn
   rw[if_pos (by simp[Region.wanted,k2])]
   have hres:F0 P mk (D4 p e (fun _=>unk))=.makeFunc g [] (caps.toList.map (D4 p e (fun _=>unk))):=by
    unfold F0
    rw[k1]
    simp only[D9,k1]
    rfl
   refine b1d hcall hY none 0 hE mk ac hs.eval (v:=.func (.func g) #[] (caps.toList.map (D4 p e (fun _=>unk))).toArray) (h1:=h) (by rw[hres];rfl) (fun b hb hb2=>by omega) hs.glob fun v' w1 m1 hv ho=>?_
   obtain⟨a',c',rfl,q1,q2⟩:=hv.func_inv
   have ea:a' = #[]:=Array.toList_eq_nil_iff.1 q1.of_nil
   subst ea
   have htlt:t<p.size:=of_decide_eq_true (by simpa [Nat.blt_eq]using hlt)
   have hs1:Slots p m1 e (fun _=>unk) (ac.put (some t) (.func (.func g) #[] c')):=by
    have:=(hs.ext ho.ext).put (d:=some t) hlt hv
    unfold M4 at this
    simp only[hnot,vgz,if_false]at this
    exact this.drop
   rw[k3]
   unfold wpListIn
   rw[if_pos (by simp[Region.wanted,k5])]
   have hev:(ac.put (some t) (.func (.func g) #[] c')).eval (.tmp t)=.func (.func g) #[] c' :=by
    have hsz:=hs.size
    show(ac.put (some t) (.func (.func g) #[] c')).tmps.getD t undef=_
    simp only[Act.put]
    rw[Array.getD_eq_getD_getElem?,Array.getElem?_setIfInBounds_self_of_lt (by omega)]
    rfl
   have hrun:(execOp (ac.put (some t) (.func (.func g) #[] c')).eval df).run P w1=.ok (.defer ⟨.fn (.func g) c',#[]⟩) w1:=by
    unfold execOp
    rw[k4]
    simp only[resolve,hev,Deferred.ofValue,Sem.run_bind,Sem.run_pure,Result.andThen_ok]
    simp
   unfold Oper.wpIn
   rw[show(FZ none).round=none from rfl,Oper.semAt_none,hrun,Oper.uponIn_defer,k6]
   refine⟨fun _ _=>trivial,?_⟩
   unfold wpListIn
   refine hQ2 rfl _ w1 m1 c' ⟨fun t=>hs1.rel t,hs1.size,?_,hs1.glob⟩ ho q2
   show _::(ac.put (some t) (.func (.func g) #[] c')).defers=_
   rw[hs1.defers,hds]
  ·rename_i hd
   simp only[uzD,uzB]at hsp
   obtain⟨⟨pre',r',post'⟩,hsp,rfl,hr'⟩:=hsp
   simp only[uzB]at hr'
   obtain⟨rfl,rfl⟩:=hr'
   simp only[I8,D3]at hr
   split at hr
   ·rename_i e' h' he
    have hn:=H6 hcall.rises hcy _ hr
    refine wpIn_seq (O6 hcall hY hcy none 0 N p a he hs hE (hf.mono (uzP _) hn) fun a1 w1 m1 hs1 ho=>?_)
    exact ihb hsp hlt hnot hr hs1 ho.emb (K6.out ho hf) (fun hx a2 w2 m2 hs2 ho2=>hQ1 hx a2 w2 m2 hs2 (ho.trans ho2)) fun hx a2 w2 m2 c' hs2 ho2 hv=>hQ2 hx a2 w2 m2 c' hs2 (ho.trans ho2) hv
   ·rename_i hne
    refine wpIn_seq (O6 hcall hY hcy none 0 N p a hr hs hE hf fun a1 w1 m1 hs1 ho=>?_)
    have hx:x≠.normal:=by
     rintro rfl
     exact hne _ _ hr
    cases x with
    |normal=>exact absurd rfl hx
    |exit i=>exact hQ1 hx a1 w1 m1 hs1 ho
    |ret=>exact hQ1 hx a1 w1 m1 hs1 ho
 |_=>intro pre post g caps t hsp;simp[a0t]at hsp
def wpL(F:Fence)(n:Nat)(P:Program):List Code->(Exit->Act->World->Prop)->Act->World->Prop
 | [],Q,a,w=>Q .normal a w
 |c::cs,Q,a,w=>c.wpIn F n P (Exit.then (wpL F n P cs Q) Q) a w
theorem b1q(Q:Exit->Act->World->Prop):Exit.then (Q .normal) Q=Q:=by funext e a w;cases e<;>rfl
theorem a3Y(A B:Act->World->Prop)(Q:Exit->Act->World->Prop):Exit.then A (Exit.then B Q)=Exit.then A Q:=by funext e a w;cases e<;>rfl
theorem a8C{F:Fence}{n:Nat}:∀(x y:List Code) (Q:Exit->Act->World->Prop),wpL F n P (x++y) Q=wpL F n P x (Exit.then (wpL F n P y Q) Q)
 | [],y,Q=>rfl
 |c::cs,y,Q=>by
  funext a w
  simp only[vCz,wpL]
  rw[a8C cs y Q,a3Y]
theorem e2p{F:Fence}{n:Nat}(c:Code)(Q:Exit->Act->World->Prop):wpL F n P [c] Q=c.wpIn F n P Q:=by
 funext a w
 simp only[wpL]
 show c.wpIn F n P (Exit.then (Q .normal) Q) a w=_
 rw[b1q]
theorem e0o{F:Fence}{n:Nat}(c:Code):∀{pre post:List Code} {r:RngI},N6 c=some (pre,r,post)->∀{Q:Exit->Act->World->Prop} {a:Act} {w:World},
  wpL F n P pre (Exit.then ((Code.block r.id (.rangeFunc r.g r.ps r.asg r.body)).wpIn F n P (Exit.then (wpL F n P post Q) Q)) Q) a w->c.wpIn F n P Q a w:=by
 induction c with
 |block id b ih=>
  intro pre post r h Q a w hw
  unfold N6 at h
  split at h
  ·rename_i id' g ps asg body heq
   simp only[Code.block.injEq]at heq
   obtain⟨rfl,rfl⟩:=heq
   simp only[uzC,uzB]at h
   obtain⟨rfl,rfl,rfl⟩:=h
   have hw:(Code.block id (.rangeFunc g ps asg body)).wpIn F n P (Exit.then (Q .normal) Q) a w:=hw
   rw[b1q]at hw
   exact hw
  ·rename_i heq;simp at heq
  ·simp at h
 |seq x y ihx ihy=>
  intro pre post r h Q a w hw
  simp only[N6]at h
  cases hx:N6 x with
  |some z=>
   obtain⟨pre',r',post'⟩:=z
   rw[hx]at h
   simp only[uzC,uzB]at h
   obtain⟨rfl,rfl,rfl⟩:=h
   refine wpIn_seq (ihx hx ?_)
   rw[a3Y,a3Y]
   rw[a8C,e2p]at hw
   exact hw
  |none=>
   rw[hx]at h
   simp only[uzD]at h
   obtain⟨⟨pre',r',post'⟩,hy,heq⟩:=h
   simp only[uzB]at heq
   obtain⟨rfl,rfl,rfl⟩:=heq
   refine wpIn_seq (wpIn_mono hw fun e a w hq=>?_)
   cases e with
   |normal=>exact ihy hy hq
   |_=>exact hq
 |_=>intro pre post r h;simp[N6]at h
theorem a1G{S:Stay}{Y:YP}{call:z8}(hcall:CallsOK P Y call)(hY:Y S.lp){cy:Nat->YF->z8}(hcy:a0u cy)(ρz:Option Nat)(nz:Nat)(N:Nat)(p:Pers):∀(cs:List Code) {Q:Exit->Act->World->Prop} {x:X} {e1:a7} {h1:Heap} {m:Map} {e:a7} {h:Heap} {a:Act} {w:World},
  D3 call cy N (a1A P p cs) e h=some (x,e1,h1)->Slots p m e (fun _=>unk) a->Emb P S m h w->K6 m h.next h1.next->
  (∀a1 w1 m1,Slots p m1 e1 (fun _=>unk) a1->Out P S m h w m1 h1 w1->Q (a2t x) a1 w1)->wpL (FZ ρz) nz P cs Q a w
 | [],Q,x,e1,h1,m,e,h,a,w,hr,hs,hE,hf,hQ=>by
  simp only[a1A,D3,uzC,uzB]at hr
  obtain⟨rfl,rfl,rfl⟩:=hr
  exact hQ a w m hs (Out.refl hE)
 |c::cs,Q,x,e1,h1,m,e,h,a,w,hr,hs,hE,hf,hQ=>by
  simp only[a1A,D3]at hr
  simp only[wpL]
  split at hr
  ·rename_i e' h' he
   have hn:=H6 hcall.rises hcy _ hr
   refine O6 hcall hY hcy ρz nz N p c he hs hE (hf.mono (uzP _) hn) fun a1 w1 m1 hs1 ho=>?_
   exact a1G hcall hY hcy ρz nz N p cs hr hs1 ho.emb (K6.out ho hf) fun a2 w2 m2 hs2 ho2=>hQ a2 w2 m2 hs2 (ho.trans ho2)
  ·rename_i hne
   refine O6 hcall hY hcy ρz nz N p c hr hs hE hf fun a1 w1 m1 hs1 ho=>?_
   have:=hQ a1 w1 m1 hs1 ho
   cases x with
   |normal=>exact absurd hr (hne _ _)
   |exit id=>exact this
   |ret=>exact this
theorem b1j{o:Obj}(h:a3R o=true):o=.loop 0 none:=by
 unfold a3R at h
 split at h
 ·rfl
 ·simp at h
theorem d0w{o:Obj}(h:b2X o=true):o=.loop 1 none:=by
 unfold b2X at h
 split at h
 ·rfl
 ·simp at h
theorem a4L{p:Pers}(hds:p.ds=[]):∀(ps:List Nat) (args args' :List Value) {m:Map} {e:a7} {t:Array Value},(ps.all fun t=>Nat.blt t p.size && p.has t)=true->VL m args args' ->args.length=ps.length->
  Slots p m e (fun _=>unk) { tmps:=t,defers:=[] }->Slots p m (a3h e ps args) (fun _=>unk) { tmps:=(ps.zip args').foldl (fun t (x:Nat×Value)=>t.setIfInBounds x.1 x.2) t,defers:=[] }
 | [],args,args',m,e,t,_,hv,hl,hs=>by
  obtain rfl:args=[]:=List.length_eq_zero_iff.1 hl
  exact hs
 |q::ps,[],_,m,e,t,_,hv,hl,hs=>by simp at hl
 |q::ps,v::vs,l,m,e,t,hp,hv,hl,hs=>by
  obtain⟨v',vs',rfl,h1,h2⟩:=hv.of_cons
  simp only[List.all_cons,vjz]at hp
  obtain⟨⟨hlt,hhas⟩,hp⟩:=hp
  have:=hs.put (d:=some q) (by simpa [a0H]using hlt) h1
  unfold M4 at this
  simp only[hhas,if_true]at this
  simp only[a3h,List.zip_cons_cons,List.foldl_cons]
  exact a4L hds ps vs vs' hp h2 (by simpa using hl) this
def YlC(p:Pers)(b:Nat)(e1:a7)(ps:Array Tmp)(asg body:Code):YP:=fun lp=>∃I,lp b=some I/\I.r.params=ps/\I.r.assign=asg/\I.r.body=body/\Slots p I.m e1 (fun _=>unk) { tmps:=I.r.tmps,defers:=[] }
theorem X3{w:World}{r k:Nat}{o:Go.Obj}(h:k≠r):(w.putObj r o).heap[k]? =w.heap[k]? :=World.putObj_heap_other h
theorem e0b{Y Y' :YP}{call:z8}(hcall:CallsOK P Y call){cy:Nat->YF->z8}(hcy:a0u cy)(N:Nat)(p:Pers)(hds:p.ds=[]){b:Nat}{e1:a7}{ps:Array Tmp}{asg body:Code}(hps:(ps.toList.all fun t=>Nat.blt t p.size && p.has t)=true)
  (hy1:∀lp,Y' lp->Y lp) (hy2:∀lp,Y' lp->YlC p b e1 ps asg body lp) {args:List Value} {h h' :Heap} {v:Value} (hr:M0 (D3 call cy N (I8 P p asg)) (D3 call cy N (I8 P p body)) b ps.toList e1 args h=some (v,h')):YldOK P Y' b args h v h' :=by
 have hnext:h.next<=h'.next:=a1w (fun h=>H6 hcall.rises hcy _ h) (fun h=>H6 hcall.rises hcy _ h) hr
 refine⟨hnext,fun S m w args' hY hargs hE hf hgl=>?_⟩
 unfold M0 at hr
 split at hr
 case isFalse=>simp at hr
 rename_i hc
 obtain⟨hlen,hready⟩:=hc
 split at hr
 case h_2=>simp at hr
 rename_i e2 h2 hx
 split at hr
 case isFalse=>simp at hr
 rename_i hready2
 split at hr
 case h_2=>simp at hr
 rename_i x e3 h3 hb
 split at hr
 case isFalse=>simp at hr
 rename_i hbusy
 simp only[uzC,uzB]at hr
 obtain⟨rfl,rfl⟩:=hr
 have q0:=b1j hready
 have q2:=b1j hready2
 have q3:=d0w hbusy
 obtain⟨I,hI,hIps,hIa,hIb,hIs⟩:=hy2 _ hY
 obtain⟨hmb,hext,hsame⟩:=hE.lp b I hI
 have hob:=hE.obj b I.L hmb
 rw[q0]at hob
 obtain⟨r,hr1,hr2,hr3,hr4⟩:=hob
 obtain⟨sfn,stm,sps,sas,sbd⟩:=hsame 0 none q0 r hr1
 have n2:=H6 hcall.rises hcy _ hx
 have n3:=H6 hcall.rises hcy _ hb
 have n3:h2.next<=h3.next:=n3
 refine⟨I.L,r.fn,(r.params.zip args').foldl (fun tmps (t,a)=>tmps.setIfInBounds t a) r.tmps,r.assign,r.body,hmb,run_yield hr1 ?_,fun n=>?_⟩
 ·rw[sps,hIps]
  have:=hargs.1
  simp only[Array.length_toList]at this hlen
  omega
 refine roundIn_of_wpIn (F:=Fence.wide) trivial ?_
 rw[sas,hIa,sbd,hIb,stm,sps,hIps]
 have hs0:Slots p m (a3h e1 ps.toList args) (fun _=>unk) { tmps:=(ps.zip args').foldl (fun tmps (t,a)=>tmps.setIfInBounds t a) I.r.tmps,defers:=[] }:=by
  have:=a4L hds ps.toList args args'.toList hps hargs hlen (hIs.ext hext)
  rw[<-Array.foldl_toList,Array.toList_zip]
  exact this
 refine O6 hcall (hy1 _ hY) hcy (some I.L.blk) n N p asg hx hs0 hE (hf.mono (uzP _) n3) fun a1 w1 m1 hs1 ho1=>?_
 obtain⟨hmb1,_,hsame1⟩:=ho1.emb.lp b I hI
 have hob1:=ho1.emb.obj b I.L hmb1
 rw[q2]at hob1
 obtain⟨r1,k1,k2,k3,k4⟩:=hob1
 have hs1' :=hsame1 0 none q2 r1 k1
 have lt1:I.L.blk<w1.heap.size:=ho1.emb.lt b I.L hmb1 (by rw[q2];rfl)
 refine⟨_,run_beginRound k1 k2,?_⟩
 have o2:Out P S m1 h2 w1 m1 (h2.upd b (.loop 1 none)) (w1.putObj I.L.blk (.loop { r1 with state:=.busy })):=
  Out.upd ho1.emb b I.L (.loop 1 none) hmb1 (by rw[q2];rfl) (fun k hk=>X3 hk) World.putObj_size rfl rfl rfl ⟨_,World.putObj_heap_same lt1,rfl,k3,k4⟩
   (fun st pd _ J hJ q hq=>by
    rw[hI]at hJ
    obtain rfl:=uzA hJ
    rw[World.putObj_heap_same lt1]at hq
    simp only[uzC,Go.Obj.loop.injEq]at hq
    rw[<-hq];exact hs1')
 have hf1:K6 m1 h2.next h3.next:=K6.out ho1 (hf.mono (uzP _) (uzP _))
 refine O6 hcall (hy1 _ hY) hcy (some I.L.blk) n N p body hb hs1 o2.emb hf1 fun a3 w3 m3 hs3 ho3=>?_
 obtain⟨hmb3,_,hsame3⟩:=ho3.emb.lp b I hI
 have hob3:=ho3.emb.obj b I.L hmb3
 rw[q3]at hob3
 obtain⟨r3,j1,j2,j3,j4⟩:=hob3
 have hs3' :=hsame3 1 none q3 r3 j1
 have lt3:I.L.blk<w3.heap.size:=ho3.emb.lt b I.L hmb3 (by rw[q3];rfl)
 have fin:∀(jump:Option Code) (o:Obj),(o=.loop 0 none/\jump=none)\/(∃y,o=.loop 2 (some y)/\jump=pdL (some y)/\jump.isNone=false)->
   (Instr.endRound I.L.blk jump).run P w3=.ok (.bool jump.isNone) (w3.putObj I.L.blk (.loop { r3 with state:=if jump.isNone then .ready else .done,pending:=jump }))/\
   Out P S m h w m3 (h3.upd b o) (w3.putObj I.L.blk (.loop { r3 with state:=if jump.isNone then .ready else .done,pending:=jump })):=fun jump o hj=>by
  refine⟨run_endRound jump j1,(ho1.trans (o2.trans ho3)).trans ?_⟩
  refine Out.upd ho3.emb b I.L o hmb3 (by rw[q3];rfl) (fun k hk=>X3 hk) World.putObj_size rfl rfl rfl ?_ (fun st pd _ J hJ q hq=>by
   rw[hI]at hJ
   obtain rfl:=uzA hJ
   rw[World.putObj_heap_same lt3]at hq
   simp only[uzC,Go.Obj.loop.injEq]at hq
   rw[<-hq];exact hs3')
  rcases hj with⟨rfl,rfl⟩| ⟨y,rfl,rfl,hy⟩
  ·exact⟨_,World.putObj_heap_same lt3,rfl,rfl,j4⟩
  ·refine⟨_,World.putObj_heap_same lt3,?_,rfl,j4⟩
   show(if(pdL (some y)).isNone=true then LoopState.ready else LoopState.done)=_
   rw[hy];rfl
 cases x with
 |normal=>
  obtain⟨f1,f2⟩:=fin none (.loop 0 none) (.inl ⟨rfl,rfl⟩)
  exact⟨_,_,f1,_,m3,rfl,.bool true,f2⟩
 |ret=>
  obtain⟨f1,f2⟩:=fin (some .ret) (.loop 2 (some .ret)) (.inr ⟨.ret,rfl,rfl,rfl⟩)
  exact⟨_,_,f1,_,m3,rfl,.bool false,f2⟩
 |exit i=>
  obtain⟨f1,f2⟩:=fin (some (.exit i)) (.loop 2 (some (.exit i))) (.inr ⟨.exit i,rfl,rfl,rfl⟩)
  exact⟨_,_,f1,_,m3,rfl,.bool false,f2⟩
end
section
variable {P:Program}
def Stay.fr(S:Stay)(D:Nat):Stay:=⟨S.keep,fun k=>S.far k\/k=D,S.lp⟩
def Stay.ll(S:Stay)(b:Nat)(I:LoopI):Stay:=⟨S.keep,S.far,fun c=>if c=b then some I else S.lp c⟩
theorem a3t{w:World}{o:Go.Obj}{k:Nat}(h:k<w.heap.size):(w.alloc o).heap[k]? =w.heap[k]? :=by
 show(w.heap.push o)[k]? =_
 rw[Array.getElem?_push,if_neg (by omega)]
theorem Emb.enter{S:Stay}{m:Map}{h:Heap}{w:World}(e:Emb P S m h w)(o:Go.Obj):Emb P (S.fr w.heap.size) m h (w.alloc o):=by
 have hs:(w.alloc o).heap.size=w.heap.size+1:=World.size_alloc _ _
 refine⟨fun b L hb hl=>by have:=e.lt b L hb hl;omega,e.inj,fun b L hb=>?_,e.prot,fun b L hb hl hk=>?_,fun k hk=>?_,e.wf,fun b I hI=>?_⟩
 ·by_cases hl:(h.obj b).live=true
  ·exact(e.obj b L hb).of_block (a3t (e.lt b L hb hl))
  ·cases hx:h.obj b with
   |gone=>trivial
   |_=>rw[hx]at hl;exact absurd rfl hl
 ·rcases hk with hk|hk
  ·exact e.far b L hb hl hk
  ·have:=e.lt b L hb hl;omega
 ·rcases hk with hk|hk|hk
  ·have:=e.sLt k (.inl hk);omega
  ·have:=e.sLt k (.inr hk);omega
  ·omega
 ·obtain⟨q1,q2,q3⟩:=e.lp b I hI
  refine⟨q1,q2,fun st pd ho r hr=>q3 st pd ho r ?_⟩
  rw[a3t (e.lt b I.L q1 (by rw[ho];rfl))]at hr
  exact hr
theorem Out.leave{S:Stay}{m m1:Map}{h h1:Heap}{w w1:World}{o o1:Go.Obj}(e0:Emb P S m h w)(t:Out P (S.fr w.heap.size) m h (w.alloc o) m1 h1 w1):Out P S m h w m1 h1 (w1.putObj w.heap.size o1):=by
 have e:=t.emb
 have hs:(w.alloc o).heap.size=w.heap.size+1:=World.size_alloc _ _
 have sz:=t.wd.size
 have hne:∀b L,m1 b=some L->(h1.obj b).live=true->L.blk≠w.heap.size:=fun b L hb hl hk=>e.far b L hb hl (.inr hk)
 refine⟨⟨fun b L hb hl=>by rw[World.putObj_size];exact e.lt b L hb hl,e.inj,fun b L hb=>?_,e.prot,fun b L hb hl hk=>e.far b L hb hl (.inl hk),fun k hk=>?_,e.wf,fun b I hI=>?_⟩,t.ext,t.dom,t.next,⟨t.wd.os,t.wd.tape,t.wd.output,?_,fun k hk=>?_⟩,t.same⟩
 ·by_cases hl:(h1.obj b).live=true
  ·exact(e.obj b L hb).of_block (X3 (hne b L hb hl))
  ·cases hx:h1.obj b with
   |gone=>trivial
   |_=>rw[hx]at hl;exact absurd rfl hl
 ·rw[World.putObj_size]
  rcases hk with hk|hk
  ·exact e.sLt k (.inl hk)
  ·exact e.sLt k (.inr (.inl hk))
 ·obtain⟨q1,q2,q3⟩:=e.lp b I hI
  refine⟨q1,q2,fun st pd ho r hr=>q3 st pd ho r ?_⟩
  rw[X3 (hne b I.L q1 (by rw[ho];rfl))]at hr
  exact hr
 ·rw[World.putObj_size];omega
 ·have:=e0.sLt k hk
  have hk' :(S.fr w.heap.size).keep k\/(S.fr w.heap.size).far k:=by
   rcases hk with hk|hk
   ·exact .inl hk
   ·exact .inr (.inl hk)
  rw[X3 (by omega),t.wd.block k hk',a3t this]
theorem Out.unll{S:Stay}{b:Nat}{I:LoopI}(hb:S.lp b=none){m m1:Map}{h h1:Heap}{w w1:World}(o:Out P (S.ll b I) m h w m1 h1 w1):Out P S m h w m1 h1 w1:=
 ⟨⟨o.emb.lt,o.emb.inj,o.emb.obj,o.emb.prot,o.emb.far,o.emb.sLt,o.emb.wf,fun c J hJ=>by
  by_cases hc:c=b
  ·subst hc;rw[hb]at hJ;cases hJ
  ·exact o.emb.lp c J (by show(if c=b then some I else S.lp c)=_;rw[if_neg hc];exact hJ)⟩,o.ext,o.dom,o.next,⟨o.wd.os,o.wd.tape,o.wd.output,o.wd.size,o.wd.block⟩,o.same⟩
theorem Emb.ll{S:Stay}{b:Nat}{I:LoopI}{m:Map}{h:Heap}{w:World}(e:Emb P S m h w)(h1:m b=some I.L)(h2:Ext I.m m)(h3:w.heap[I.L.blk]? =some (.loop I.r)):Emb P (S.ll b I) m h w:=
 ⟨e.lt,e.inj,e.obj,e.prot,e.far,e.sLt,e.wf,fun c J hJ=>by
  have hJ:(if c=b then some I else S.lp c)=some J:=hJ
  by_cases hc:c=b
  ·rw[if_pos hc]at hJ
   obtain rfl:=uzA hJ
   subst hc
   refine⟨h1,h2,fun st pd _ r hr=>?_⟩
   rw[h3]at hr
   simp only[uzC,Go.Obj.loop.injEq]at hr
   subst hr
   exact⟨rfl,rfl,rfl,rfl,rfl⟩
  ·rw[if_neg hc]at hJ
   exact e.lp c J hJ⟩
theorem b5D(p:Pers)(D:List Deferred):∀cs:List Code,a1A P { p with ds:=D } cs=a1A P p cs
 | []=>rfl
 |c::cs=>by simp only[a1A];rw[c7C,b5D p D cs]
def YCl(Y:YP):Prop:=∀(lp lp' :Nat->Option LoopI) b,(∀c,c≠b->lp' c=lp c)->lp b=none->Y lp->Y lp'
theorem YCl.and{Y:YP}(h:YCl Y){p:Pers}{b:Nat}{e:a7}{ps:Array Tmp}{asg body:Code}:YCl fun lp=>Y lp/\YlC p b e ps asg body lp:=by
 rintro lp lp' b' h1 h2 ⟨h3,I,h4,h5⟩
 refine⟨h lp lp' b' h1 h2 h3,I,?_,h5⟩
 rw[h1 b fun hb=>by rw[hb,h2]at h4;cases h4]
 exact h4
theorem e2c{Y:YP}{call:z8}(hcall:CallsOK P Y call)(hYc:YCl Y){cy:Nat->YF->z8}(hcy:a0u cy)
  (hcyOK:∀b y Y',YCl Y' ->(∀args h v h',y args h=some (v,h')->YldOK P Y' b args h v h')->CallsOK P Y' (cy b y)) (N:Nat) (p:Pers) (hds:p.ds=[]) {F:Func} {R:Ending->World->Prop}
  {c:Code} {pre post:List Code} {r:RngI} (hsp:N6 c=some (pre,r,post)) (hps:(r.ps.toList.all fun t=>Nat.blt t p.size && p.has t)=true) {x:X} {e e1:a7} {h h1:Heap} (hx:x=.normal\/x=.ret)
  (he:D3 call cy N (.rng (a1A P p pre) r.id (fun e=>D4 p e (fun _=>unk) r.g) r.ps.toList (I8 P p r.asg) (I8 P p r.body) (a1A P p post)) e h=some (x,e1,h1))
  {S:Stay} (hY:Y S.lp) {m:Map} {a:Act} {w:World} (hs:Slots p m e (fun _=>unk) a) (hE:Emb P S m h w) (hf:K6 m h.next h1.next)
  (hQ:∀D a1 w1 m1,Slots { p with ds:=D } m1 e1 (fun _=>unk) a1->Out P S m h w m1 h1 w1->∃v,(results F a1.tmps).run P w1=.ok v w1/\R (.returned v) w1):
  c.wpIn Fence.wide 0 P (bodyPostM Fence.wide 0 P F R) a w:=by
 simp only[D3]at he
 refine e0o c hsp ?_
 split at he
 case h_3=>simp at he
 case h_2=>
  rename_i ea ha hea
  simp only[uzC,uzB]at he
  obtain⟨rfl,rfl,rfl⟩:=he
  refine a1G hcall hY hcy none 0 N p pre hea hs hE hf fun a1 w1 m1 hs1 ho=>?_
  show LeavesInM Fence.wide 0 P F a1.tmps R a1.defers .returning w1
  rw[hs1.defers,hds]
  exact hQ p.ds a1 w1 m1 hs1 ho
 rename_i ea ha hea
 split at he
 case h_2=>simp at he
 rename_i u h2 hit
 have hit0:=hit
 unfold Z6 at hit
 split at hit
 case h_2=>simp at hit
 rename_i gv f first cap hg
 have n2:ha.next+1<=h2.next:=hcy _ _ (fun args h v h1 hr=>a1w (fun h=>H6 hcall.rises hcy _ h) (fun h=>H6 hcall.rises hcy _ h) hr) _ _ _ _ _ hit
 have n3:h2.next<=h1.next:=by
  split at he
  ·have:=H6 hcall.rises hcy _ he;exact this
  ·simp only[uzC,uzB]at he
   obtain⟨_,_,rfl⟩:=he
   exact uzP _
  ·simp at he
 refine a1G hcall hY hcy none 0 N p pre hea hs hE (hf.mono (uzP _) (by omega)) fun a1 w1 m1 hs1 ho1=>?_
 have hf1:=K6.out ho1 hf
 have hfree:m1 ha.next=none:=hf1 _ (uzP _) (by omega)
 have hlpb:S.lp ha.next=none:=by
  cases hq:S.lp ha.next with
  |none=>rfl
  |some J=>have:=(ho1.emb.lp _ J hq).1;rw[hfree]at this;cases this
 show(Code.block r.id (.rangeFunc r.g r.ps r.asg r.body)).wpIn Fence.wide 0 P _ a1 w1
 refine wpIn_block (wpIn_rangeFunc fun fn _=>?_)
 have hgr:=hs1.eval r.g
 rw[hg]at hgr
 obtain⟨a',c',hfe,ha',hc'⟩:=hgr.func_inv
 let D:Nat:=w1.heap.size
 let w1' :=w1.alloc (.deferred (some []))
 let rec0:Loop:={ state:=.ready,pending:=none,fn,tmps:=a1.tmps,params:=r.ps,assign:=r.asg,body:=r.body,defers:=w1.heap.size }
 let w2:=w1'.alloc (.loop rec0)
 let L:Loc:=⟨w1.heap.size+1,0,0,0,false⟩
 have eE:Emb P (S.fr D) m1 ha w1' :=ho1.emb.enter _
 have hsz:w1'.heap.size=w1.heap.size+1:=World.size_alloc _ _
 have hrec:w2.heap[w1.heap.size+1]? =some (.loop rec0):=by
  have:=World.alloc_heap_new w1' (.loop rec0)
  rw[hsz]at this;exact this
 have oN:Out P (S.fr D) m1 ha w1' (m1.put ha.next L) (ha.new (.loop 0 none)) w2:=
  Out.new eE (.loop 0 none) (.loop rec0) L hfree hsz.symm rfl rfl rfl rfl fun w' hw=>⟨rec0,by rw[hsz]at hw;exact hw,rfl,rfl,rfl⟩
 let I:LoopI:=⟨L,rec0,m1⟩
 have hput:(m1.put ha.next L) ha.next=some L:=by simp[Map.put]
 have e2:Emb P ((S.fr D).ll ha.next I) (m1.put ha.next L) (ha.new (.loop 0 none)) w2:=oN.emb.ll hput oN.ext hrec
 have hY' :Y ((S.fr D).ll ha.next I).lp/\YlC p ha.next ea r.ps r.asg r.body ((S.fr D).ll ha.next I).lp:=by
  refine⟨hYc S.lp _ ha.next (fun c hc=>if_neg hc) hlpb hY,I,if_pos rfl,rfl,rfl,rfl,⟨fun t=>hs1.rel t,hs1.size,hds.symm,hs1.glob⟩⟩
 have ok:=(hcyOK ha.next _ _ (hYc.and (p:=p) (b:=ha.next) (e:=ea) (ps:=r.ps) (asg:=r.asg) (body:=r.body)) fun args h v h' hr=>e0b hcall hcy N p hds hps (fun lp h=>h.1) (fun lp h=>h.2) hr).fn f _ _ _ _ hit
 obtain⟨⟨G,hG,hGn,hGb⟩,_,hruns,_⟩:=ok
 have hrun:=hruns ((S.fr D).ll ha.next I) (m1.put ha.next L) w2 (a' ++ #[.func (.yield (w1.heap.size+1)) #[] #[]]++c') hY' (by
  simp only[Array.toList_append]
  exact VL.append (VL.append (ha'.ext oN.ext) (VL.cons (.yield ha.next L hput) (VL.nil _))) (hc'.ext oN.ext)) e2 (K6.out oN (hf1.mono (uzP _) n3)) (hs1.glob.ext oN.ext)
 refine⟨w1.heap.size+1,[{ target:=.collected w1.heap.size,args:= #[] }],w2,⟨.fn (.func f) c',a' ++ #[.func (.yield (w1.heap.size+1)) #[] #[]]⟩,w2,f,a' ++ #[.func (.yield (w1.heap.size+1)) #[] #[]]++c',w2,
  run_enterLoop_outer fn a1.tmps r.ps r.asg r.body,?_,fun _ _=>trivial,?_,(fun h=>by cases h),?_⟩
 ·have hx2:(resolve a1.eval (rangeCall r.g (w1.heap.size+1)) 0).run P w2=.ok ⟨.fn (.func f) c',a' ++ #[(Operand.const (.func (.yield (w1.heap.size+1)) #[] #[]))].map a1.eval⟩ w2:=by
   simp only[resolve,rangeCall,hfe,Deferred.ofValue,Sem.run_bind,Sem.run_pure,Result.andThen_ok]
  rw[List.map_toArray]at hx2
  exact hx2
 ·have hcf:(callFunc f (a' ++ #[.func (.yield (w1.heap.size+1)) #[] #[]]++c')).run P w2=.ok (.enter f (a' ++ #[.func (.yield (w1.heap.size+1)) #[] #[]]++c')) w2:=by
   simp only[callFunc,Sem.run_bind,run_program,Result.andThen_ok,hG,hGn,hGb,vgz,if_false,Sem.run_pure]
  have hi:(invoke (.fn (.func f) c') (a' ++ #[.func (.yield (w1.heap.size+1)) #[] #[]]))=callFunc f (a' ++ #[.func (.yield (w1.heap.size+1)) #[] #[]]++c'):=rfl
  exact(congrArg (fun z=>Sem.run P z w2) hi).trans hcf
 refine callsIn_wide.2 (hrun.mono fun en w3 hp=>?_)
 obtain⟨v',m3,rfl,hv3,o3⟩:=hp
 have hm3:m3 ha.next=some L:=o3.ext _ _ hput
 have hob:=o3.emb.obj _ L hm3
 let mark:Deferred:={ target:=.collected w1.heap.size,args:= #[] }
 have fin:∀a5 w5 m5,Slots { p with ds:=[mark] } m5 e1 (fun _=>unk) a5->Out P (S.fr D) m1 ha w1' m5 h1 w5->LeavesInM Fence.wide 0 P F a5.tmps R a5.defers .returning w5:=fun a5 w5 m5 hs5 ho5=>by
  rw[hs5.defers]
  have hD:w5.heap[w1.heap.size]? =some (.deferred (some [])):=by
   rw[ho5.wd.block w1.heap.size (.inr (.inr rfl))]
   exact World.alloc_heap_new w1 _
  refine⟨by simp,.inl ⟨w1.heap.size,_,rfl,run_takeDeferred hD,?_⟩⟩
  exact hQ [mark] a5 _ m5 hs5 (ho1.trans (Out.leave ho1.emb ho5))
 have turn:∀st pd,h2.obj ha.next=.loop st pd->st≠1->∃w4,(Instr.endLoop (w1.heap.size+1)).run P w3=.ok (pdL pd) w4/\Out P (S.fr D) m1 ha w1' m3 (h2.upd ha.next .gone) w4:=fun st pd hst hne=>by
  rw[hst]at hob
  obtain⟨r3,k1,k2,k3,k4⟩:=hob
  rw[<-k3]
  refine⟨_,run_endLoop k1 ?_,oN.trans (Out.unll (S:=S.fr D) hlpb (o3.trans (Out.upd o3.emb ha.next L .gone hm3 (by rw[hst];rfl) (fun k hk=>X3 hk) World.putObj_size rfl rfl rfl trivial)))⟩
  rw[k2]
  match st,hne with
  |0,_=>simp[stL]
  |1,hne=>exact absurd rfl hne
  |n+2,_=>simp[stL]
 have hsl:∀w4,Out P (S.fr D) m1 ha w1' m3 (h2.upd ha.next .gone) w4->Slots { p with ds:=[mark] } m3 ea (fun _=>unk) { a1 with defers:=[mark]++a1.defers }:=fun w4 o4=>by
  have:=hs1.ext o4.ext
  refine⟨fun t=>this.rel t,this.size,?_,this.glob⟩
  show[mark]++a1.defers=[mark]
  rw[hs1.defers,hds];rfl
 have normal:∀w4,a1n r.id (h2.obj ha.next)=some .normal->Out P (S.fr D) m1 ha w1' m3 (h2.upd ha.next .gone) w4->wpL Fence.wide 0 P post (bodyPostM Fence.wide 0 P F R) { a1 with defers:=[mark]++a1.defers } w4:=fun w4 hl o4=>by
  rw[hl]at he
  refine a1G (S:=S.fr D) hcall hY hcy none 0 N { p with ds:=[mark] } post (by rw[b5D];exact he) (hsl w4 o4) o4.emb (K6.out o4 hf1) fun a5 w5 m5 hs5 ho5=>?_
  rcases hx with rfl|rfl
  ·exact fin a5 w5 m5 hs5 (o4.trans ho5)
  ·exact fin a5 w5 m5 hs5 (o4.trans ho5)
 cases hl:a1n r.id (h2.obj ha.next)with
 |none=>rw[hl]at he;simp at he
 |some y=>
  have hl0:=hl
  unfold a1n at hl
  split at hl
  ·rename_i hst
   obtain⟨w4,k2,k3⟩:=turn 0 none hst (by decide)
   obtain rfl:=uzA hl
   refine⟨_,_,k2,?_⟩
   exact normal _ hl0 k3
  ·rename_i hst
   obtain⟨w4,k2,k3⟩:=turn 2 (some .ret) hst (by decide)
   obtain rfl:=uzA hl
   refine⟨_,_,k2,?_⟩
   rw[hl0]at he
   simp only[uzC,uzB]at he
   obtain⟨rfl,rfl,rfl⟩:=he
   exact wpIn_ret (fin _ _ m3 (hsl _ k3) k3)
  ·rename_i i hst
   split at hl
   case isFalse=>simp at hl
   rename_i hi
   obtain rfl:=uzA hl
   obtain⟨w4,k2,k3⟩:=turn 2 (some (.exit i)) hst (by decide)
   refine⟨_,_,k2,?_⟩
   refine wpIn_exit ?_
   show Exit.inBlock r.id _ (.exit i) _ _
   rw[Exit.inBlock,if_pos hi]
   exact normal _ hl0 k3
  ·simp at hl
def a5E(P:Program)(CP:CProg):Prop:=∀f fn,CP f=some fn->∃p F,P.funcs[f]? =some F/\z7 P p F=some fn
def a5D(P:Program)(CP:CProg):Prop:=CP.yl=none/\a5E P CP
def e4I(P:Program)(Y:YP)(CP:CProg):Prop:=∀b args h v h1,ylF CP b args h=some (v,h1)->YldOK P Y b args h v h1
theorem a5E.put{CP:CProg}(h:a5E P CP)(b:Nat)(y:YF):a5E P (CP.put b y):=h
theorem a5y{CP:CProg}{b c:Nat}{y:YF}{args:List Value}{h h1:Heap}{v:Value}(hr:ylF (CP.put b y) c args h=some (v,h1)):c=b/\y args h=some (v,h1):=by
 unfold ylF CProg.put at hr
 simp only at hr
 split at hr
 ·rename_i hc;exact⟨hc,hr⟩
 ·simp at hr
theorem b0S:∀(n:Nat) (CP:CProg),(∀b args h v h1,ylF CP b args h=some (v,h1)->h.next<=h1.next)->a9d (Q3 CP n):=by
 intro n
 induction n with
 |zero=>intro CP _ t args h v h1 hc;cases t<;>simp[Q3]at hc
 |succ n ih=>
  intro CP hy t args h v h1 hc
  cases t with
  |yl b=>rw[a2s]at hc;exact hy _ _ _ _ _ hc
  |fn f=>
   rw[a0B]at hc
   cases hcp:CP f with
   |none=>rw[hcp]at hc;simp at hc
   |some fn=>
    rw[hcp]at hc
    simp only at hc
    have hcy:a0u (cyF CP n):=fun b y hb=>ih (CP.put b y) fun c args h v h1 hr=>hb args h v h1 (a5y hr).2
    split at hc
    ·rename_i e1 h' he
     simp only[uzD,uzB]at hc
     obtain⟨u,hu,rfl,rfl⟩:=hc
     exact H6 (ih CP hy) hcy _ he
    ·rename_i e1 h' he
     simp only[uzD,uzB]at hc
     obtain⟨u,hu,rfl,rfl⟩:=hc
     exact H6 (ih CP hy) hcy _ he
    ·simp at hc
theorem c8J:∀(n:Nat) {CP:CProg} (hP:a5E P CP) {Y:YP},YCl Y->e4I P Y CP->CallsOK P Y (Q3 CP n):=by
 intro n
 induction n with
 |zero=>intro CP hP Y hYc hH;exact⟨fun f args h v h1 hc=>by simp[Q3]at hc,fun b args h v h1 hc=>by simp[Q3]at hc⟩
 |succ n ih0=>
  intro CP hP Y hYc hH
  refine⟨fun f args h v h1 hc=>?_,fun b args h v h1 hc=>hH _ _ _ _ _ (by rw[a2s]at hc;exact hc)⟩
  have ih:=ih0 hP hYc hH
  have hcy:a0u (cyF CP n):=fun b y hb=>b0S n (CP.put b y) fun c args h v h1 hr=>hb args h v h1 (a5y hr).2
  have hcyOK:∀b y Y',YCl Y' ->(∀args h v h',y args h=some (v,h')->YldOK P Y' b args h v h')->CallsOK P Y' (cyF CP n b y):=fun b y Y' hY' hy=>
   ih0 (hP.put b y) hY' fun c args h v h1 hr=>by
    obtain⟨rfl,hr2⟩:=a5y hr
    exact hy args h v h1 hr2
  rw[a0B]at hc
  cases hcp:CP f with
  |none=>rw[hcp]at hc;simp at hc
  |some fn=>
   rw[hcp]at hc
   simp only at hc
   obtain⟨p,F,hF,hfn⟩:=hP f fn hcp
   unfold z7 at hfn
   split at hfn
   case h_2=>simp at hfn
   rename_i c rs hb hrs
   split at hfn
   case isFalse=>simp at hfn
   rename_i hok
   simp only[vjz,Bool.not_eq_true',Nat.ble_eq]at hok
   obtain⟨⟨⟨⟨hsz,hhas⟩,h3⟩,hname⟩,hds⟩:=hok
   obtain rfl:=uzA hfn
   simp only at hc
   have hpds:p.ds=[]:=by simpa using hds
   have hx:∃x e1,D3 (Q3 CP n) (cyF CP n) n (d0u P p c) (T6 args) h=some (x,e1,h1)/\G3 e1 h1 rs=some v/\(x=.normal\/x=.ret):=by
    split at hc
    ·rename_i e1 h' he
     simp only[uzD,uzB]at hc
     obtain⟨u,hu,rfl,rfl⟩:=hc
     exact⟨_,e1,he,hu,.inl rfl⟩
    ·rename_i e1 h' he
     simp only[uzD,uzB]at hc
     obtain⟨u,hu,rfl,rfl⟩:=hc
     exact⟨_,e1,he,hu,.inr rfl⟩
    ·simp at hc
   obtain⟨x,e1,he,hres,hx⟩:=hx
   have hnext:=H6 ih.rises hcy _ he
   have init:∀(m:Map) (args' :Array Value),VL m args args'.toList->K7 m->Slots p m (T6 args) (fun _=>unk) { tmps:=args' ++Array.replicate (F.ntmps-args'.size) undef,defers:=[] }:=fun m args' hargs hgl=>by
    refine⟨fun t=>?_,?_,hpds.symm,hgl⟩
    ·unfold Y4
     split
     ·simp only[T6,vcz,Array.getD_eq_getD_getElem?]
      by_cases ht:t<args'.size
      ·have ht2:t<args.length:=by have:=hargs.1;simp only[Array.length_toList]at this;omega
       rw[Array.getElem?_append_left ht,Array.getElem?_eq_getElem ht,uzF ht2]
       simp only[vFz]
       exact hargs.2 t _ _ (uzF ht2) (by simp[ht])
      ·have ht2:args.length<=t:=by have:=hargs.1;simp only[Array.length_toList]at this;omega
       have hu:((args' ++Array.replicate (F.ntmps-args'.size) undef)[t]?).getD undef=undef:=by
        rw[Array.getElem?_append_right (vGz ht),Array.getElem?_replicate]
        split<;>rfl
       rw[hu,vmz ht2]
       exact .tuple _ _ rfl (fun i x y hx=>by simp at hx)
     ·exact .unk _
    ·simp only[Array.size_append,Array.size_replicate];omega
   unfold d0u at he
   split at he
   ·
    rename_i pre g caps t post hsp
    split at he
    case isFalse=>simp[D3]at he
    rename_i hpl
    simp only[vjz,Bool.not_eq_true']at hpl
    obtain⟨⟨hpl,htl⟩,htn⟩:=hpl
    refine⟨⟨F,hF,hname,by rw[hb];rfl⟩,hnext,fun S m w args' hY hargs hE hf hgl=>?_,fun hq=>?_⟩
    case refine_2=>
     unfold b2s at hq
     rw[hF]at hq
     simp only[hb,hsp]at hq
     simp at hq
    simp only[D3]at he
    have resS:∀(D:List Deferred) (m1:Map) (a1:Act) (w1:World),Slots { p with ds:=D } m1 e1 (fun _=>unk) a1->Emb P S m1 h1 w1->∃v',(results F a1.tmps).run P w1=.ok v' w1/\VR m1 v v' :=fun D m1 a1 w1 hs1 hE1=>
     Z9 hE1 hrs h3 (p:={ p with ds:=D }) hhas hs1 hres
    split at he
    ·rename_i ea ha hea
     have hna:=H6 ih.rises hcy _ hea
     have tail:∀(x2:X) (eb:a7) (hb2:Heap),D3 (Q3 CP n) (cyF CP n) n (I8 P p post) ea ha=some (x2,eb,hb2)->(x2=.normal\/x2=.ret)->(Q3 CP n (.fn g) (caps.toList.map (D4 p ea (fun _=>unk))) hb2).map (fun r=>(X.ret,eb,r.2))=some (x,e1,h1)->
       Calls P f args' w (a9c P S m h w v h1):=fun x2 eb hb2 heb hx2 hcl=>by
      simp only[uzD,uzB]at hcl
      obtain⟨⟨r,h1'⟩,hg,rfl,rfl,rfl⟩:=hcl
      have hnb:=H6 ih.rises hcy _ heb
      have ok:=ih.fn _ _ _ _ _ hg
      have hng:=ok.next
      refine calls_of_wp_defers hF hb (wpIn_wide.1 (c6X ih hY hcy n p hpds c hsp htl htn hea (init m args' hargs hgl) hE (hf.mono (uzP _) (uzR hnb hng)) (fun hne=>absurd rfl hne) fun _ a1 w1 m1 c' hs1 ho hcv=>?_))
      have heb' :D3 (Q3 CP n) (cyF CP n) n (I8 P { p with ds:=[⟨.fn (.func g) c',#[]⟩] } post) ea ha=some (x2,eb,hb2):=by rw[c7C];exact heb
      have hf1:=K6.out ho hf
      refine O6 ih hY hcy none 0 n { p with ds:=[⟨.fn (.func g) c',#[]⟩] } post heb' hs1 ho.emb (hf1.mono (uzP _) hng) fun a2 w2 m2 hs2 ho2=>?_
      have hd2:a2.defers=[⟨.fn (.func g) c',#[]⟩]:=hs2.defers
      have lv:Leaves P F a2.tmps (a9c P S m h w v h1') [⟨.fn (.func g) c',#[]⟩] .returning w2:=by
       obtain⟨⟨G,hG,hGn,hGb⟩,_,_,hrD⟩:=ok
       refine leaves_cons (by simp) (f:=g) (args:=c') ?_ ?_
       ·have hcf:(callFunc g (#[]++c')).run P w2=.ok (.enter g (#[]++c')) w2:=by
         simp only[callFunc,Sem.run_bind,run_program,Result.andThen_ok,hG,hGn,hGb,vgz,if_false,Sem.run_pure]
        simpa [invoke]using hcf
       ·refine(hrD hpl S m2 w2 c' .returning hY (hcv.ext ho2.ext) ho2.emb (K6.out ho2 hf1) (hs2.glob)).mono fun en u' w3 hp=>?_
        obtain⟨rfl,v',m3,rfl,hv3,ho3⟩:=hp
        obtain⟨v2,hrun,hv2⟩:=resS _ m3 a2 w3 (hs2.ext ho3.ext) ho3.emb
        exact⟨v2,hrun,v2,m3,rfl,hv2,(ho.trans ho2).trans ho3⟩
      rcases hx2 with rfl|rfl
      ·show Leaves P F a2.tmps _ a2.defers .returning w2
       rw[hd2];exact lv
      ·show Leaves P F a2.tmps _ a2.defers .returning w2
       rw[hd2];exact lv
     split at he
     ·rename_i eb hb2 heb
      exact tail _ _ _ heb (.inl rfl) he
     ·rename_i eb hb2 heb
      exact tail _ _ _ heb (.inr rfl) he
     ·simp at he
    ·rename_i ea ha hea
     simp only[uzC,uzB]at he
     obtain⟨rfl,rfl,rfl⟩:=he
     refine calls_of_wp_defers hF hb (wpIn_wide.1 (c6X ih hY hcy n p hpds c hsp htl htn hea (init m args' hargs hgl) hE hf (fun _ a1 w1 m1 hs1 ho=>?_) fun hn=>by simp at hn))
     obtain⟨v',hrun,hv⟩:=resS p.ds m1 a1 w1 hs1 ho.emb
     show Leaves P F a1.tmps _ a1.defers .returning w1
     rw[hs1.defers,hpds]
     exact⟨v',hrun,v',m1,rfl,hv,ho⟩
    ·simp at he
   ·rename_i hsd
    split at he
    ·
     rename_i pre r post hsp
     split at he
     case isFalse=>simp[D3]at he
     rename_i hps
     refine⟨⟨F,hF,hname,by rw[hb];rfl⟩,hnext,fun S m w args' hY hargs hE hf hgl=>?_,fun hq=>?_⟩
     case refine_2=>
      unfold b2s at hq
      rw[hF]at hq
      simp only[hb,hsp]at hq
      simp at hq
     exact callsIn_wide.1 (callsIn_of_wp_marks (F:=Fence.wide) (n:=0) hF hb trivial (e2c ih hYc hcy hcyOK n p hpds hsp hps hx he hY (init m args' hargs hgl) hE hf fun D a1 w1 m1 hs1 ho=>by
      obtain⟨v',hrun,hv⟩:=Z9 ho.emb hrs h3 (p:={ p with ds:=D }) hhas hs1 hres
      exact⟨v',hrun,v',m1,rfl,hv,ho⟩))
    ·have body:∀(S:Stay) (m:Map) (w:World) (args' :Array Value),Y S.lp->VL m args args'.toList->Emb P S m h w->K6 m h.next h1.next->K7 m->c.wp P (bodyPost P F (a9c P S m h w v h1)) { tmps:=args' ++Array.replicate (F.ntmps-args'.size) undef,defers:=[] } w:=fun S m w args' hY hargs hE hf hgl=>by
      refine(wpIn_wide (n:=0)).1 (O6 ih hY hcy none 0 n p c he (init m args' hargs hgl) hE hf fun a1 w1 m1 hs1 ho=>?_)
      obtain⟨v',hrun,hv⟩:=Z9 ho.emb hrs h3 hhas hs1 hres
      have hd:a1.defers=[]:=by rw[hs1.defers,hpds]
      rcases hx with rfl|rfl
      ·exact⟨hd,v',hrun,v',m1,rfl,hv,ho⟩
      ·exact⟨hd,v',hrun,v',m1,rfl,hv,ho⟩
     exact⟨⟨F,hF,hname,by rw[hb];rfl⟩,hnext,fun S m w args' hY hargs hE hf hgl=>calls_of_wp hF hb (body S m w args' hY hargs hE hf hgl),fun _ S m w args' u hY hargs hE hf hgl=>callsD_of_wp hF hb (body S m w args' hY hargs hE hf hgl)⟩
def f0k:YP:=fun _=>True
theorem a2S{CP:CProg}(hP:a5D P CP)(n:Nat):CallsOK P f0k (Q3 CP n):=
 c8J n hP.2 (fun _ _ _ _ _ _=>trivial) fun b args h v h1 hr=>by unfold ylF at hr;rw[hP.1]at hr;simp at hr
theorem d8C(CP:CProg)(n:Nat):a0u (cyF CP n):=fun b y hb=>b0S n (CP.put b y) fun c args h v h1 hr=>hb args h v h1 (a5y hr).2
theorem b6o{CP:CProg}(hP:a5D P CP){f:FuncId}{args:List Value}{h:Heap}{R:Value->Heap->Prop}(hc:u9 CP f args h R){S:Stay}{m:Map}{w:World}{args' :Array Value}(ha:VL m args args'.toList)(hE:Emb P S m h w)(hf:∀b,h.next<=b->m b=none)(hgl:K7 m:=by intro g hg;exact absurd hg (by simp[GLN])):
  Calls P f args' w fun e w1=>∃v v' h1 m1,e=.returned v' /\R v h1/\VR m1 v v' /\Out P S m h w m1 h1 w1:=by
 obtain⟨n,v,h1,he,hR⟩:=hc
 refine(((a2S hP n).fn f args h v h1 he).runs S m w args' trivial ha hE (fun b hb _=>hf b hb) hgl).mono fun e w1 hp=>?_
 obtain⟨v',m1,rfl,hv,ho⟩:=hp
 exact⟨v,v',h1,m1,rfl,hR,hv,ho⟩
end
theorem an{a b:Prop}(x:a)(y:b):a/\b:=⟨x,y⟩
def l9:=an (an (an (an @d0f (an @c7O @d0e)) (an @c7N (an @b2R @b5T))) (an (an @b5S (an @c7Q @e0O)) (an @d0h (an @c7R @d0g)))) (an (an (an @b5p (an @e0f @c9x)) (an @a8K (an @b5Z @b2W))) (an (an @d9V (an @b5l @d8q)) (an (an @b2l @c9a) (an @b6M @e0z))))
def m9:=an (an (an (an (an (an (an @b6t @b4u) (an @Option.getD_none.{0} @vFz.{0})) (an (an @b4N @b2j) (an @b7r @b7s))) (an (an (an @b0D @b2U) (an @e0y @e9H)) (an (an @e9G @d9n) (an @a9 @a6)))) (an (an (an (an @f9 @a4V) (an @a3N @N4)) (an (an @a8R @a4U) (an @f4 @b4V))) (an (an (an @b4W @b4X) (an @r9 @j0)) (an (an @a3r @N8) (an @e0q (an @e2j @a1z)))))) (an (an (an (an (an @b0U @c9S) (an @a2D @c8G)) (an (an @b6z @b4D) (an @e0s @c9K))) (an (an (an @c8N @vlz.{0,0}) (an @Option.map_none.{0,0} @Option.bind_some.{0,0})) (an (an @Option.bind_none.{0,0} @List.map_cons.{0,0}) (an @List.map_nil.{0,0} @List.getD_cons_zero.{0})))) (an (an (an (an @List.getD_cons_succ.{0} @List.getD_nil.{0}) (an @if_true.{1} @if_true.{0})) (an (an @if_false.{1} @if_false.{0}) (an @ite_true.{1} @ite_true.{0}))) (an (an (an @ite_false.{1} @ite_false.{0}) (an @uzM.{0} @vkz.{0})) (an (an @vsz @Nat.add_zero) (an @vwz.{0} (an @List.drop_succ_cons.{0} @List.take_succ_cons.{0}))))))) (an (an (an (an (an (an @List.take_zero.{0} @vbz.{0}) (an @vez.{0} @Bool.not_true)) (an (an @Bool.not_false @Option.isNone_some.{0}) (an @Option.isNone_none.{0} @decide_true))) (an (an (an @decide_false @beq_self_eq_true.{0}) (an @vgz @Bool.true_eq_false)) (an (an @if_pos.{1} @if_pos.{0}) (an @if_neg.{1} @if_neg.{0})))) (an (an (an (an @beq_iff_eq.{0} @BEq.rfl.{0}) (an @P9 @a8D)) (an (an @e2q @e2r) (an @b5M @U4))) (an (an (an @uzS @vAz) (an @C6 @uzL.{0,0})) (an (an @viz.{0} @e2Z) (an @e3a (an @List.all_cons.{0} @List.all_nil.{0})))))) (an (an (an (an (an @Bool.and_self @Bool.true_and) (an @Bool.and_true @List.size_toArray.{0})) (an (an @true_and @and_true) (an @true_or @or_true))) (an (an (an @bne_self_eq_false.{0} @List.getElem?_cons_zero.{0}) (an @vBz.{0} @List.getElem?_toArray.{0})) (an (an @setAt.eq_1 @setAt.eq_2) (an @a3T.eq_1 @a3T.eq_2)))) (an (an (an (an @a3T.eq_3 @y6.eq_1) (an @y6.eq_2 @W5.eq_def)) (an (an @C7.eq_def @bin.eq_def) (an @b5W.eq_def @un.eq_def))) (an (an (an @a3j.eq_def @flat.eq_def) (an @J6.eq_def @eqK.eq_def)) (an (an @G3.eq_def @a3U.eq_def) (an @E9.eq_def (an @a5J.eq_def @goInt.eq_def)))))))
theorem ro{f g:a7->Reg}(q:∀(e:a7),f e=g e)(CP:CProg)(e:a7)(h:Heap)(Q:B5):H1 CP (f e) h Q↔H1 CP (g e) h Q:=by rw[q]
theorem ro1{α:Type}{f g:a7->α->Reg}(q:∀(e:a7) (x0:α),f e x0=g e x0)(CP:CProg)(e:a7)(x0:α)(h:Heap)(Q:B5):H1 CP (f e x0) h Q↔H1 CP (g e x0) h Q:=by rw[q]
theorem O5{α β:Type}{f g:a7->α->β->Reg}(q:∀(e:a7) (x0:α) (x1:β),f e x0 x1=g e x0 x1)(CP:CProg)(e:a7)(x0:α)(x1:β)(h:Heap)(Q:B5):H1 CP (f e x0 x1) h Q↔H1 CP (g e x0 x1) h Q:=by rw[q]
theorem W2{α β γ:Type}{f g:a7->α->β->γ->Reg}(q:∀(e:a7) (x0:α) (x1:β) (x2:γ),f e x0 x1 x2=g e x0 x1 x2)(CP:CProg)(e:a7)(x0:α)(x1:β)(x2:γ)(h:Heap)(Q:B5):H1 CP (f e x0 x1 x2) h Q↔H1 CP (g e x0 x1 x2) h Q:=by rw[q]
theorem ro4{α β γ δ:Type}{f g:a7->α->β->γ->δ->Reg}(q:∀(e:a7) (x0:α) (x1:β) (x2:γ) (x3:δ),f e x0 x1 x2 x3=g e x0 x1 x2 x3)(CP:CProg)(e:a7)(x0:α)(x1:β)(x2:γ)(x3:δ)(h:Heap)(Q:B5):H1 CP (f e x0 x1 x2 x3) h Q↔H1 CP (g e x0 x1 x2 x3) h Q:=by rw[q]
theorem ro5{α β γ δ ε:Type}{f g:a7->α->β->γ->δ->ε->Reg}(q:∀(e:a7) (x0:α) (x1:β) (x2:γ) (x3:δ) (x4:ε),f e x0 x1 x2 x3 x4=g e x0 x1 x2 x3 x4)(CP:CProg)(e:a7)(x0:α)(x1:β)(x2:γ)(x3:δ)(x4:ε)(h:Heap)(Q:B5):H1 CP (f e x0 x1 x2 x3 x4) h Q↔H1 CP (g e x0 x1 x2 x3 x4) h Q:=by rw[q]
theorem ro6{α β γ δ ε ζ:Type}{f g:a7->α->β->γ->δ->ε->ζ->Reg}(q:∀(e:a7) (x0:α) (x1:β) (x2:γ) (x3:δ) (x4:ε) (x5:ζ),f e x0 x1 x2 x3 x4 x5=g e x0 x1 x2 x3 x4 x5)(CP:CProg)(e:a7)(x0:α)(x1:β)(x2:γ)(x3:δ)(x4:ε)(x5:ζ)(h:Heap)(Q:B5):H1 CP (f e x0 x1 x2 x3 x4 x5) h Q↔H1 CP (g e x0 x1 x2 x3 x4 x5) h Q:=by rw[q]
theorem ro7{α β γ δ ε ζ η:Type}{f g:a7->α->β->γ->δ->ε->ζ->η->Reg}(q:∀(e:a7) (x0:α) (x1:β) (x2:γ) (x3:δ) (x4:ε) (x5:ζ) (x6:η),f e x0 x1 x2 x3 x4 x5 x6=g e x0 x1 x2 x3 x4 x5 x6)(CP:CProg)(e:a7)(x0:α)(x1:β)(x2:γ)(x3:δ)(x4:ε)(x5:ζ)(x6:η)(h:Heap)(Q:B5):H1 CP (f e x0 x1 x2 x3 x4 x5 x6) h Q↔H1 CP (g e x0 x1 x2 x3 x4 x5 x6) h Q:=by rw[q]
theorem ro8{α β γ δ ε ζ η θ:Type}{f g:a7->α->β->γ->δ->ε->ζ->η->θ->Reg}(q:∀(e:a7) (x0:α) (x1:β) (x2:γ) (x3:δ) (x4:ε) (x5:ζ) (x6:η) (x7:θ),f e x0 x1 x2 x3 x4 x5 x6 x7=g e x0 x1 x2 x3 x4 x5 x6 x7)(CP:CProg)(e:a7)(x0:α)(x1:β)(x2:γ)(x3:δ)(x4:ε)(x5:ζ)(x6:η)(x7:θ)(h:Heap)(Q:B5):H1 CP (f e x0 x1 x2 x3 x4 x5 x6 x7) h Q↔H1 CP (g e x0 x1 x2 x3 x4 x5 x6 x7) h Q:=by rw[q]
structure Enc(α:Type) where
 sz:Nat
 enc:α->List Value
 len:∀a,(enc a).length=sz
 self:∀a,(enc a).all selfS=true
namespace Enc
def int(k:IntKind):Enc Int:=⟨1,fun n=>[.int k n],fun _=>rfl,fun _=>rfl⟩
def bool:Enc Bool:=⟨1,fun n=>[.bool n],fun _=>rfl,fun _=>rfl⟩
def str:Enc ByteArray:=⟨1,fun n=>[.string n],fun _=>rfl,fun _=>rfl⟩
def pair{α β:Type}(a:Enc α)(b:Enc β):Enc (α×β):=
 ⟨a.sz+b.sz,fun x=>a.enc x.1++b.enc x.2,fun x=>by simp[a.len,b.len],fun x=>by simp[List.all_append,a.self,b.self]⟩
end Enc
theorem a2b{α:Type}(l:List α)(a n i:Nat)(h:i<n):((l.drop a).take n)[i]? =l[a+i]? :=by
 rw[voz,if_pos h,vEz]
theorem a1m{ob:Obj}{o:Nat}{v:Value}(h:ob.read o 1=some [v]):ob.get o=some v:=by
 cases ob with
 |cells c t g=>
  simp only[Obj.read]at h
  split at h
  ·rename_i hle
   have h2:=uzA h
   have:((c.drop o).take 1)[0]? =some v:=by rw[h2];rfl
   rw[a2b _ _ _ _ (by omega)]at this
   exact this
  ·simp at h
 |_=>simp[Obj.read]at h
theorem a0r{ob:Obj}{o n i:Nat}{l:List Value}{v:Value}(h:ob.read o n=some l)(hi:i<n)(hv:l[i]? =some v):ob.get (o+i)=some v:=by
 cases ob with
 |cells c t g=>
  simp only[Obj.read]at h
  split at h
  ·rename_i hle
   have h2:=uzA h
   rw[<-h2,a2b _ _ _ _ hi]at hv
   exact hv
  ·simp at h
 |_=>simp[Obj.read]at h
def Enc.all{α:Type}(E:Enc α)(l:List α):List Value:=l.flatMap E.enc
section
variable {α:Type} (E:Enc α)
theorem Enc.all_nil:E.all []=[]:=rfl
theorem Enc.all_cons(x:α)(l:List α):E.all (x::l)=E.enc x++E.all l:=rfl
theorem Enc.all_append(l m:List α):E.all (l++m)=E.all l++E.all m:=by simp[Enc.all]
theorem Enc.all_len:∀(l:List α),(E.all l).length=l.length*E.sz
 | []=>by simp[Enc.all]
 |x::l=>by rw[Enc.all_cons,uzG,E.len,Enc.all_len l,uzM,vDz,Nat.one_mul,Nat.add_comm]
theorem Enc.all_at:∀(l:List α) (i:Nat) (x:α),l[i]? =some x->((E.all l).drop (i*E.sz)).take E.sz=E.enc x
 | [],i,x,h=>by simp at h
 |y::l,0,x,h=>by
  simp only[List.getElem?_cons_zero,uzC]at h
  subst h
  rw[Nat.zero_mul,vwz,Enc.all_cons,List.take_left' (E.len y)]
 |y::l,i+1,x,h=>by
  simp only[vBz]at h
  rw[Enc.all_cons,vDz,Nat.one_mul,Nat.add_comm,<-List.drop_drop,List.drop_left' (E.len y)]
  exact Enc.all_at l i x h
theorem Enc.all_set:∀(l:List α) (i:Nat) (x:α),i<l.length->setAt (E.all l) (i*E.sz) (E.enc x)=E.all (l.set i x):=by
 have hset:∀(vs c d:List Value) (o:Nat),o+vs.length<=c.length->setAt (c++d) o vs=setAt c o vs++d:=by
  intro vs
  induction vs with
  |nil=>intro c d o h;rfl
  |cons v vs ih=>
   intro c d o h
   simp only[uzM]at h
   simp only[setAt]
   rw[List.set_append_left _ _ (by omega),ih _ _ _ (by simp;omega)]
 have hpre:∀(vs c d:List Value) (o:Nat),setAt (c++d) (c.length+o) vs=c++setAt d o vs:=by
  intro vs
  induction vs with
  |nil=>intro c d o;rfl
  |cons v vs ih=>
   intro c d o
   simp only[setAt]
   rw[List.set_append_right _ _ (by omega),Nat.add_sub_cancel_left,Nat.add_assoc,ih]
 have hfull:∀(vs c:List Value),vs.length=c.length->setAt c 0 vs=vs:=by
  intro vs
  have:∀(vs c d:List Value),vs.length=d.length->setAt (c++d) c.length vs=c++vs:=by
   intro vs
   induction vs with
   |nil=>intro c d h;have:d=[]:=List.length_eq_zero_iff.1 h.symm;subst this;rfl
   |cons v vs ih=>
    intro c d h
    cases d with
    |nil=>simp at h
    |cons u d=>
     simp only[setAt]
     rw[List.set_append_right _ _ (uzP _),vKz,vbz]
     have h2:=ih (c++[v]) d (by simpa using h)
     simp only[uzG,vdz,vvz,List.singleton_append]at h2
     exact h2
  intro c h
  have:=this vs [] c h
  simpa using this
 intro l
 induction l with
 |nil=>intro i x h;simp at h
 |cons y l ih=>
  intro i x h
  cases i with
  |zero=>
   rw[Nat.zero_mul,Enc.all_cons,vbz,Enc.all_cons,hset _ _ _ _ (by rw[E.len,E.len];omega),hfull _ _ (by rw[E.len,E.len])]
  |succ i=>
   rw[Enc.all_cons,vez,Enc.all_cons,vDz,Nat.one_mul,Nat.add_comm,<-E.len y,hpre,E.len y,ih i x (by simpa using h)]
theorem c9y(vs c d:List Value)(o:Nat)(h:o+vs.length<=c.length):setAt (c++d) o vs=setAt c o vs++d:=by
 induction vs generalizing c o with
 |nil=>rfl
 |cons v vs ih=>
  simp only[uzM]at h
  simp only[setAt]
  rw[List.set_append_left _ _ (by omega),ih _ _ (by simp;omega)]
theorem a0F(c:List Value):∀(vs d:List Value),vs.length<=d.length->setAt (c++d) c.length vs=c++vs++d.drop vs.length:=by
 intro vs
 induction vs generalizing c with
 |nil=>intro d _;simp[setAt]
 |cons v vs ih=>
  intro d h
  cases d with
  |nil=>simp at h
  |cons u d=>
   simp only[uzM]at h
   simp only[setAt]
   rw[List.set_append_right _ _ (uzP _),vKz,vbz]
   have h2:=ih (c++[v]) d (by omega)
   simp only[uzG,vdz,vvz,List.singleton_append,vCz,vrz]at h2 ⊢
   rw[h2];simp
end
def N2(l:List Nat)(e e' :a7):Prop:=∀t∈l,e' t=e t
theorem N2.refl(l:List Nat)(e:a7):N2 l e e:=fun _ _=>rfl
theorem N2.upd{l:List Nat}{e e' :a7}(a:N2 l e e'){t:Nat}(ht:l.elem t=false)(v:Value):N2 l e (e'.upd t v):=fun s hs=>by
 rw[e0y]
 have:(s==t)=false:=by
  cases hq:(s==t)with
  |false=>rfl
  |true=>rw[eq_of_beq hq]at hs;rw[List.elem_eq_true_of_mem hs]at ht;exact ht
 rw[this];exact a s hs
theorem c7A(h:Heap)(v:Value)(t:TypeId)(c:Nat):D1 (h.new (.cells [v] t .grow)) 1 (.slice (some ⟨h.next,0,none⟩) 1 c)=some ([v],1):=by
 unfold D1
 simp only[if_true,f9,a1z]
 rfl
theorem O9{α:Type}(E:Enc α)(h:Heap)(x:α)(t:TypeId)(c:Nat):D1 (h.new (.cells (E.enc x) t .grow)) E.sz (.slice (some ⟨h.next,0,none⟩) 1 c)=some (E.all [x],[x].length):=by
 unfold D1
 simp only[if_true,f9,a1z,Nat.one_mul,vsz,E.len,uzP,vwz,Enc.all_cons,Enc.all_nil,vtz]
 rw[vnz (by rw[E.len];exact uzP _)]
 rfl
def E3{α:Type}(h:Heap)(t:TypeId)(E:Enc α)(v:Value)(l:List α)(b:Nat):Prop:=
 (v=.slice none 0 0/\l=[])\/
 ∃cap rest,v=.slice (some ⟨b,0,none⟩) l.length cap/\b<h.next/\h.obj b=.cells (E.all l++rest) t .grow/\l.length*E.sz+rest.length=cap*E.sz/\l.length<=cap
section
variable {α:Type} {h h' :Heap} {t:TypeId} {E:Enc α} {v:Value} {l:List α} {b:Nat}
theorem E3.nil(h:Heap)(t:TypeId)(E:Enc α)(b:Nat):E3 h t E (.slice none 0 0) [] b:=.inl ⟨rfl,rfl⟩
theorem E3.val(V:E3 h t E v l b):∃a cap,v=.slice a l.length cap/\l.length<=cap:=by
 rcases V with⟨rfl,rfl⟩| ⟨cap,rest,h1,_,_,_,h2⟩
 ·exact⟨none,0,rfl,uzP _⟩
 ·exact⟨_,cap,h1,h2⟩
theorem E3.keep(V:E3 h t E v l b)(hn:h.next<=h'.next)(ho:b<h.next->h'.obj b=h.obj b):E3 h' t E v l b:=by
 rcases V with V| ⟨cap,rest,h1,h2,h3,h4⟩
 ·exact .inl V
 ·exact .inr ⟨cap,rest,h1,uzN h2 hn,by rw[ho h2];exact h3,h4⟩
theorem E3.ne(V:E3 h t E v l b):∀x,h.next<=x->v=.slice none 0 0\/x≠b:=fun x hx=>by
 rcases V with⟨rfl,_⟩| ⟨_,_,_,h2,_⟩
 ·exact .inl rfl
 ·right;omega
theorem E3.at(V:E3 h t E v l b)(hl:0<l.length):∃cap rest,v=.slice (some ⟨b,0,none⟩) l.length cap/\b<h.next/\h.obj b=.cells (E.all l++rest) t .grow/\l.length*E.sz+rest.length=cap*E.sz/\l.length<=cap:=by
 rcases V with⟨rfl,rfl⟩|V
 ·simp at hl
 ·exact V
theorem E3.read(V:E3 h t E v l b){i:Nat}{x:α}(hx:l[i]? =some x):∃cap,v=.slice (some ⟨b,0,none⟩) l.length cap/\(h.obj b).read (0+i*E.sz) E.sz=some (E.enc x):=by
 have hi:=(List.getElem?_eq_some_iff.1 hx).1
 obtain⟨cap,rest,h1,_,h3,h4,h5⟩:=V.at (by omega)
 refine⟨cap,h1,?_⟩
 have hle:(i+1)*E.sz<=l.length*E.sz:=vzz _ hi
 rw[vDz,Nat.one_mul]at hle
 rw[h3,vsz,N8,if_pos (by rw[uzG,E.all_len];omega),<-E.all_at l i x hx,List.drop_append_of_le_length (by rw[E.all_len];omega),List.take_append_of_le_length (by rw[List.length_drop,E.all_len];omega)]
variable {CP:CProg}
theorem E3.app(V:E3 h t E v l b){size bytes:Nat}(hsz:E.sz=size){y:Value}{m:List α}(hy:D1 h size y=some (E.all m,m.length))
  (hb:(l.length+m.length)*bytes<=140737488355328) (hl:l.length+m.length<=9223372036854775807) {k:Value->Reg} {Q:B5}
  (hQ:∀v' h' b',E3 h' t E v' (l++m) b' ->h.next<=h'.next->(b' =b\/h.next<=b')->(∀x,x<h.next->(v=.slice none 0 0\/x≠b)->h'.obj x=h.obj x)->H1 CP (k v') h' Q):
  a2l CP (M8 t size bytes v y h) k Q:=by
 subst hsz
 unfold M8
 rw[hy]
 rcases V with⟨rfl,rfl⟩| ⟨cap,rest,rfl,h2,h3,h4,h5⟩
 ·simp only[vkz,vsz]at hb hl ⊢
  by_cases hm:m.length<=0
  ·obtain rfl:m=[]:=List.length_eq_zero_iff.1 (by omega)
   exact hQ _ _ b (.inl ⟨rfl,rfl⟩) (uzP _) (.inl rfl) (fun _ _ _=>rfl)
  ·rw[if_neg hm,if_pos ⟨hb,hl⟩]
   refine hQ _ _ h.next (.inr ⟨m.length,[],by simp,vpz _,by rw[f9];simp,by simp,by simp⟩) (vLz _) (.inr (uzP _)) (fun x hx _=>f4 _ _ (by omega))
 ·have hlen:=E.all_len l
  have hmlen:=E.all_len m
  by_cases hfit:l.length+m.length<=cap
  ·have hmul:(l.length+m.length)*E.sz<=cap*E.sz:=vzz _ hfit
   rw[vDz]at hmul
   simp only[if_pos hfit,if_true,h3,vsz]
   rw[a2D,if_pos (by rw[uzG,hlen,hmlen];omega),<-hlen,a0F _ _ _ (by rw[hmlen];omega)]
   refine hQ _ _ b (.inr ⟨cap,rest.drop (E.all m).length,by rw[uzG],h2,by rw[a9,E.all_append],?_,by rw[uzG];exact hfit⟩) (uzP _) (.inl rfl) (fun x _ hx=>a6 _ _ (hx.resolve_left (by simp)))
   rw[uzG,List.length_drop,hmlen,vDz];omega
  ·simp only[if_neg hfit,if_pos (show(l.length+m.length)*bytes<=140737488355328/\l.length+m.length<=9223372036854775807 from⟨hb,hl⟩),h3]
   rw[if_pos ⟨trivial,trivial,by rw[uzG,hlen];omega,h5⟩]
   refine hQ _ _ h.next (.inr ⟨l.length+m.length,[],by rw[uzG],vpz _,?_,by simp,by simp⟩) (vLz _) (.inr (uzP _)) (fun x hx hxb=>?_)
   ·rw[show h.next=(h.upd b .gone).next from rfl,f9,vtz,vwz,<-hlen,List.take_left,E.all_append]
   ·rw[f4 _ _ (by show x≠h.next;omega),a6 _ _ (hxb.resolve_left (by simp))]
theorem E3.cut{cap:Nat}{a:Option Addr}{n:Nat}(V:E3 h t E (.slice a n cap) l b)(j:Nat)(hj:j<=l.length):E3 h t E (.slice a j cap) (l.take j) b:=by
 rcases V with⟨hv,rfl⟩| ⟨cap',rest,hv,h2,h3,h4,h5⟩
 ·simp only[Value.slice.injEq]at hv
  obtain⟨rfl,rfl,rfl⟩:=hv
  simp only[vkz]at hj
  obtain rfl:j=0:=by omega
  exact .inl ⟨rfl,rfl⟩
 ·simp only[Value.slice.injEq]at hv
  obtain⟨rfl,rfl,rfl⟩:=hv
  have hjl:(l.take j).length=j:=by rw[vqz];omega
  have hd:l.length*E.sz=j*E.sz+(l.length-j)*E.sz:=by rw[<-vDz];congr 1;omega
  refine .inr ⟨cap,E.all (l.drop j)++rest,by rw[hjl],h2,?_,?_,by omega⟩
  ·rw[h3,<-vvz,<-E.all_append,List.take_append_drop]
  ·rw[hjl,uzG,E.all_len,List.length_drop];omega
end
end Go.Proofs.YtlakhgibjfmjjaaGreat.Can
namespace Go.Proofs.YtlakhgibjfmjjaaGreat.Can
open Go Go.ChangeShapes Go.WideShapes Go.Deep Go.RowKit
structure Ar(P:Program)(t:TypeId){α:Type}(E:Enc α)(good:α->Prop):Prop where
 cells:P.cellsOf t=E.sz
 out:∀{H:Type} {enc:TypeId×Value->H} {w:World} {base:Nat} {spare:Nat->Bool} {held:Bool} {fuel:Nat} {cs:List Value} {x:DataW H×List MemPlace},
  DataW.trod enc P w base spare held fuel t cs=some x->∃a,cs=E.enc a/\good a
namespace Ar
section
variable {P:Program} {t e:TypeId} {α β:Type} {d:Enc α} {b:Enc β} {good:α->Prop} {goodb:β->Prop}
theorem int{k:IntKind}(hu:P.underlying t=some (.int k))(hc:P.cellsOf t=1):Ar P t (Enc.int k) (fun n=>(Lit.int k n).wf=true):=
 ⟨hc,fun h=>by obtain⟨n,rfl,_,hw⟩:=DataW.trod_int hu h;exact⟨n,rfl,hw⟩⟩
theorem bool(hu:P.underlying t=some .bool)(hc:P.cellsOf t=1):Ar P t Enc.bool (fun _=>True):=
 ⟨hc,fun h=>by obtain⟨n,rfl,_⟩:=DataW.trod_bool hu h;exact⟨n,rfl,trivial⟩⟩
theorem str(hu:P.underlying t=some .string)(hc:P.cellsOf t=1):Ar P t Enc.str (fun s=>s.size<=maxLen):=
 ⟨hc,fun h=>by obtain⟨n,rfl,_,hw⟩:=DataW.trod_string hu h;exact⟨n,rfl,hw⟩⟩
structure Fs(P:Program)(fs:List Field)(off:Nat){α:Type}(d:Enc α)(good:α->Prop):Prop where
 out:∀{H:Type} {enc:TypeId×Value->H} {w:World} {base:Nat} {spare:Nat->Bool} {held:Bool} {n:Nat} {cs:List Value},cs.length=off+d.sz->
  (∀f∈fs,∃y,DataW.trod enc P w base spare held n f.type ((cs.drop f.offset).take (P.cellsOf f.type))=some y)->∃a,cs.drop off=d.enc a/\good a
theorem fs_one{f:Field}{off:Nat}(ho:f.offset=off)(h:Ar P f.type d good):Fs P [f] off d good:=by
 refine⟨?_⟩
 intro H enc w base spare held n cs hl hf
 obtain⟨y,hy⟩:=hf f (by simp)
 rw[ho,h.cells,vnz (by rw[List.length_drop];omega)]at hy
 exact h.out hy
theorem fs_cons{f:Field}{fs:List Field}{off:Nat}(ho:f.offset=off)(h:Ar P f.type d good)(hr:Fs P fs (off+d.sz) b goodb):Fs P (f::fs) off (d.pair b) (fun x=>good x.1/\goodb x.2):=by
 refine⟨?_⟩
 intro H enc w base spare held n cs hl hf
 have hl' :cs.length=off+(d.sz+b.sz):=hl
 obtain⟨y,hy⟩:=hf f (by simp)
 rw[ho,h.cells]at hy
 obtain⟨x,hx,gx⟩:=h.out hy
 obtain⟨z,hz,gz⟩:=hr.out (cs:=cs) (by omega) (fun f' hf' =>hf f' (List.mem_cons_of_mem _ hf'))
 refine⟨(x,z),?_,gx,gz⟩
 show _=d.enc x++b.enc z
 rw[<-hx,<-hz,<-List.drop_drop,List.take_append_drop]
theorem fsOne{nm tg pk:String}{em:Bool}{ty off bo:Nat}(h:Ar P ty d good):Fs P [{ name:=nm,type:=ty,offset:=off,embedded:=em,tag:=tg,pkgPath:=pk,byteOffset:=bo }] off d good:=fs_one rfl h
theorem fsCons{nm tg pk:String}{em:Bool}{ty off bo:Nat}{fs:List Field}(h:Ar P ty d good)(hr:Fs P fs (off+d.sz) b goodb):Fs P ({ name:=nm,type:=ty,offset:=off,embedded:=em,tag:=tg,pkgPath:=pk,byteOffset:=bo }::fs) off (d.pair b) (fun x=>good x.1/\goodb x.2):=fs_cons rfl h hr
theorem struct{fs:Array Field}(hu:P.underlying t=some (.struct fs))(hc:P.cellsOf t=d.sz)(h:Fs P fs.toList 0 d good):Ar P t d good:=by
 refine⟨hc,fun h' =>?_⟩
 obtain⟨xs,n,_,rfl,hl,hlen,hf⟩:=DataW.trod_struct hu h'
 have:=h.out (by rw[hl,hc,vsz]) (fun f hf' =>by
  obtain⟨i,hi,rfl⟩:=List.getElem_of_mem hf'
  have hi' :i<fs.size:=by simpa using hi
  have e:=hf i fs[i] (by rw[Array.getElem?_eq_getElem hi'])
  rw[uzF (by omega)]at e
  exact⟨_,e⟩)
 rw[vwz]at this
 exact this
theorem agg(h:Ar P t d good){cs:Array Value}{H:Type}{enc:TypeId×Value->H}{w:World}{base:Nat}{spare:Nat->Bool}{held:Bool}{dd:DataW H}{ps:List MemPlace}
  (hx:DataW.Trod enc P w base spare held t (.agg cs) dd ps):∃a,cs=(d.enc a).toArray/\good a:=by
 obtain⟨fuel,hf⟩:=hx
 obtain⟨a,ha,hg⟩:=h.out (cs:=cs.toList) (by simpa [Value.cells]using hf)
 exact⟨a,by rw[<-ha],hg⟩
end
end Ar
theorem W0{P:Program}{w:World}{base:Nat}{t e:TypeId}{a:Option Addr}{len cap:Nat}(ht:P.underlying t=some (.slice e))(h:Value.okWide P w .any base t (.slice a len cap)):∀x,a=some x->x.block<w.heap.size:=by
 intro x hx
 subst hx
 simp only[Value.okWide,ht,Cell.okWide,Cell.ok]at h
 obtain⟨_,_,_,_,row,cells,hs,_⟩:=h
 unfold World.shape? at hs
 split at hs
 ·rename_i c t' fr hb;exact(Array.getElem?_eq_some_iff.1 hb).1
 ·simp at hs
def a2y(v:Value):Value:=if selfS v then v else unk
def a2Z:Option Go.Obj->Obj
 |some (.cells c t _)=> .cells (c.toList.map a2y) t .ro
 |some _=> .cells [] 0 .ro
 |none=> .gone
def Y0(W:World):Heap:=⟨fun b=>a2Z W.heap[b]?,W.heap.size⟩
def b5F:Option Go.Obj->Nat
 |some (.cells c _ _)=>c.size
 |_=>0
def b2N(P:Program):Option Go.Obj->Nat
 |some (.cells _ t _)=>P.cellsOf t
 |_=>0
def a0I(P:Program)(W:World):Map:=fun b=>if b<W.heap.size then some ⟨b,0,b5F W.heap[b]?,b2N P W.heap[b]?,false⟩else none
theorem VR.plain{m:Map}(v:Value):VR m (a2y v) v:=by
 unfold a2y
 split
 ·rename_i h;exact VR.selfS h
 ·exact .unk v
theorem b6X{v:Value}(h:selfS v=true):a2y v=v:=by unfold a2y;rw[if_pos h]
def Kp(W:World):Stay:=⟨fun k=>k<W.heap.size,fun _=>False,fun _=>none⟩
theorem Emb.id(P:Program)(W:World):Emb P (Kp W) (a0I P W) (Y0 W) W:=by
 have hm:∀b L,a0I P W b=some L->b<W.heap.size/\L=⟨b,0,b5F W.heap[b]?,b2N P W.heap[b]?,false⟩:=fun b L h=>by
  unfold a0I at h
  split at h
  ·rename_i hb;exact⟨hb,(uzA h).symm⟩
  ·simp at h
 have hwr:∀b,((Y0 W).obj b).wr=false:=fun b=>by
  show(a2Z W.heap[b]?).wr=false
  unfold a2Z
  split<;>rfl
 refine⟨fun b L h _=>?_,fun b c L K h1 h2 _ _ he=>?_,fun b L h=>?_,fun b L h hw=>?_,fun b L h _ hf=>hf,fun k h=>h.elim (fun h=>h) False.elim,fun b hb=>?_,fun b I hI=>by cases hI⟩
 ·obtain⟨h1,rfl⟩:=hm b L h;exact h1
 ·obtain⟨_,rfl⟩:=hm b L h1;obtain⟨_,rfl⟩:=hm c K h2;exact he
 ·obtain⟨h1,rfl⟩:=hm b L h
  show a3q P _ _ W (a2Z W.heap[b]?)
  cases hq:W.heap[b]? with
  |none=>trivial
  |some o=>
   cases o with
   |cells c t fr=>
    refine .inr ⟨c,fr,by simp only[hq],rfl,by simp[b5F],?_,fun hro=>absurd rfl hro,rfl,rfl,fun hro=>absurd rfl hro,fun hro=>absurd hro (by simp)⟩
    refine⟨by simp,fun i x y hx hy=>?_⟩
    rw[uzJ]at hx
    simp only[vwz,uzL]at hy
    rw[vnz (uzP _)]at hy
    rw[hy]at hx
    simp only[vlz,uzC]at hx
    subst hx
    exact VR.plain y
   |_=>exact .inl ⟨rfl,rfl,rfl⟩
 ·rw[hwr b]at hw;exact absurd hw Bool.false_ne_true
 ·have hb' :W.heap.size<=b:=hb
  show a2Z W.heap[b]? =.gone
  rw[Array.getElem?_eq_none hb'];rfl
theorem b6H(P:Program)(W:World):∀b,(Y0 W).next<=b->a0I P W b=none:=fun b hb=>by
 have hb' :W.heap.size<=b:=hb
 unfold a0I;rw[if_neg (by omega)]
def a0d{α:Type}(h:Heap)(E:Enc α)(v:Value)(l:List α):Prop:=
 (v=.slice none 0 0/\l=[])\/
 ∃b o cap,v=.slice (some ⟨b,o,none⟩) l.length cap/\l.length<=cap/\b<h.next/\
  ∃c t,h.obj b=.cells c t .ro/\o+cap*E.sz<=c.length/\∀i x,l[i]? =some x->(c.drop (o+i*E.sz)).take E.sz=E.enc x
theorem e1y{W:World}{a:Addr}{v:Value}(h:W.cell? a=some v)(hs:selfS v=true):
  a.spot=none/\∃c t,(Y0 W).obj a.block=.cells c t .ro/\a.block<W.heap.size/\c[a.off]? =some v:=by
 unfold World.cell? at h
 split at h
 case h_2=>simp at h
 rename_i c' t fr hb
 split at h
 ·simp at h
 rename_i hsp
 refine⟨by simpa using hsp,c'.toList.map a2y,t,?_,(Array.getElem?_eq_some_iff.1 hb).1,?_⟩
 ·show a2Z W.heap[a.block]? =_
  rw[hb];rfl
 ·rw[uzJ,Array.getElem?_toList,h];simp[b6X hs]
theorem b4n{W:World}{a:Addr}{v:Value}(h:W.cell? a=some v):
  a.spot=none/\∃c t,(Y0 W).obj a.block=.cells c t .ro/\a.block<W.heap.size/\a.off<c.length:=by
 unfold World.cell? at h
 split at h
 case h_2=>simp at h
 rename_i c' t fr hb
 split at h
 ·simp at h
 rename_i hsp
 refine⟨by simpa using hsp,c'.toList.map a2y,t,?_,(Array.getElem?_eq_some_iff.1 hb).1,?_⟩
 ·show a2Z W.heap[a.block]? =_
  rw[hb];rfl
 ·have:=(Array.getElem?_eq_some_iff.1 h).1
  simpa using this
theorem c7l{α:Type}{p:Nat->α->Prop}:∀n,(∀i,i<n->∃a,p i a)->∃l:List α,l.length=n/\∀j a,l[j]? =some a->p j a
 |0,_=>⟨[],rfl,fun j a h=>by simp at h⟩
 |n+1,h=>by
  obtain⟨l,hl,hp⟩:=c7l n (fun i hi=>h i (by omega))
  obtain⟨a,ha⟩:=h n (by omega)
  refine⟨l++[a],by simp[hl],fun j x hj=>?_⟩
  by_cases c:j<l.length
  ·rw[vuz c]at hj;exact hp j x hj
  ·rw[vfz (by omega)]at hj
   by_cases c2:j-l.length=0
   ·have e:j=n:=by omega
    rw[c2]at hj
    simp at hj
    subst hj;subst e;exact ha
   ·rw[vmz (by simp;omega)]at hj;cases hj
theorem a3k{P:Program}{t e:TypeId}{α:Type}{E:Enc α}{good:α->Prop}(ht:P.underlying t=some (.slice e))(hE:Ar P e E good)(hsz:0<E.sz){H:Type}{enc:TypeId×Value->H}{w:World}{a:Option Addr}{len cap:Nat}{dd:DataW H}{ps:List MemPlace}
  (hlt:∀x,a=some x->x.block<w.heap.size)
  (hx:DataW.Trod enc P w 0 (fun _=>true) true t (.slice a len cap) dd ps):
  ∃(l:List α) (v:Value),a0d (Y0 w) E v l/\VR (a0I P w) v (.slice a len cap)/\l.length=len/\len<=cap/\cap<=maxLen/\∀x∈l,good x:=by
 obtain⟨fuel,hf⟩:=hx
 rcases open_slice ht hf with⟨hcs,_⟩| ⟨a',len',cap',m,n,D,Pl,hcs,_,hl,hm,hmm,_,hel⟩
 ·simp[Value.cells]at hcs
  obtain⟨rfl,rfl,rfl⟩:=hcs
  exact⟨[],.slice none 0 0,.inl ⟨rfl,rfl⟩,.nilSlice 0 0,rfl,uzP _,vJz _,fun x hx=>by cases hx⟩
 ·simp[Value.cells]at hcs
  obtain⟨rfl,rfl,rfl⟩:=hcs
  have hmm' :m=cap:=by rw[hmm];rfl
  subst hmm'
  have hlb:=hlt a' rfl
  rcases Nat.eq_zero_or_pos m with h0|hpos
  ·subst h0
   obtain rfl:len=0:=by omega
   obtain⟨c0,t0,hob⟩:∃c t,(Y0 w).obj a'.block=.cells c t .ro:=by
    show ∃c t,a2Z w.heap[a'.block]? =.cells c t .ro
    rw[Array.getElem?_eq_getElem hlb]
    unfold a2Z
    split
    ·exact⟨_,_,rfl⟩
    ·exact⟨_,_,rfl⟩
    ·rename_i h;simp at h
   exact⟨[],.slice (some ⟨a'.block,0,none⟩) 0 0,.inr ⟨_,_,0,rfl,uzP _,hlb,c0,t0,hob,by omega,fun i x hx=>by simp at hx⟩,
    .slice0 a'.block 0 ⟨a'.block,0,b5F w.heap[a'.block]?,b2N P w.heap[a'.block]?,false⟩ a' (by unfold a0I;rw[if_pos hlb]),rfl,uzP _,hm,fun x hx=>by cases hx⟩
  ·have A5:∀i j,i<m->j<E.sz->∃u,w.cell? (a'.add (i*E.sz+j))=some u:=fun i j hi hj=>by
    obtain⟨cs',h1,h2⟩:=hel i hi
    obtain⟨_,hcl,hcell⟩:=World.cells?_some h1
    rw[hE.cells]at hcl hcell
    have:=hcell j hj
    rw[Go.Deep.add_add]at this
    exact⟨_,by rw[this];exact uzF (by omega)⟩
   obtain⟨u0,hu0⟩:=A5 0 0 hpos hsz
   rw[Nat.zero_mul,Nat.add_zero,a8J]at hu0
   obtain⟨hspot,c0,t0,hob,_,_⟩:=b4n hu0
   obtain⟨ab,ao,as⟩:=a'
   simp only at hspot hob hlb
   subst hspot
   have hend:ao+m*E.sz<=c0.length:=by
    obtain⟨u1,hu1⟩:=A5 (m-1) (E.sz-1) (by omega) (by omega)
    rw[a3r]at hu1
    obtain⟨_,c1,t1,hob1,_,hlt1⟩:=b4n hu1
    simp only at hob1 hlt1
    rw[hob]at hob1
    simp only[Obj.cells.injEq]at hob1
    rw[<-hob1.1]at hlt1
    have:(m-1)*E.sz+E.sz=m*E.sz:=by
     obtain⟨q,rfl⟩:∃q,m=q+1:=⟨m-1,by omega⟩
     rw[Nat.add_sub_cancel,vDz,Nat.one_mul]
    omega
   obtain⟨l,hlen,hp⟩:=c7l (p:=fun i x=>(c0.drop (ao+i*E.sz)).take E.sz=E.enc x/\good x) len (fun i hi=>by
    obtain⟨cs',h1,h2⟩:=hel i (by omega)
    obtain⟨x,hk,hg⟩:=hE.out h2
    obtain⟨_,hcl,hcell⟩:=World.cells?_some h1
    rw[hE.cells]at hcl hcell
    refine⟨x,?_,hg⟩
    rw[<-hk]
    apply List.ext_getElem?
    intro j
    by_cases hj:j<E.sz
    ·rw[I5 _ _ _ _ hj]
     have h3:=hcell j hj
     rw[Go.Deep.add_add,a3r]at h3
     have hcj:cs'[j]? =some cs'[j]:=uzF (by omega)
     rw[hcj]at h3
     have hself:selfS cs'[j]=true:=by
      have:=E.self x
      rw[<-hk]at this
      exact List.all_eq_true.1 this _ (List.getElem_mem _)
     obtain⟨_,c1,t1,hob1,_,hget⟩:=e1y h3 hself
     simp only at hob1 hget
     rw[hob]at hob1
     simp only[Obj.cells.injEq]at hob1
     rw[<-hob1.1]at hget
     rw[Nat.add_assoc,hget,hcj]
    ·rw[vmz (by simp;omega),vmz (by omega)])
   refine⟨l,.slice (some ⟨ab,ao,none⟩) len m,.inr ⟨ab,ao,m,by rw[hlen],by omega,hlb,c0,t0,hob,hend,fun i x hx=>(hp i x hx).1⟩,?_,hlen,hl,hm,fun x hx=>?_⟩
   ·have:=VR.slice (m:=a0I P w) ab ao len m m ⟨ab,0,b5F w.heap[ab]?,b2N P w.heap[ab]?,false⟩ (by unfold a0I;rw[if_pos hlb]) hl (uzP _) (fun h=>absurd h Bool.false_ne_true)
    simpa using this
   ·obtain⟨j,hj⟩:=List.getElem?_of_mem hx
    exact(hp j x hj).2
theorem VR.enc{m:Map}{α:Type}(E:Enc α)(x:α):VR m (.agg (E.enc x).toArray) (.agg (E.enc x).toArray):=
 VR.selfV (show(E.enc x).all Can.selfS=true from E.self x)
structure Rd(α:Type) where
 sz:Nat
 rel:Heap->List Value->α->Prop
namespace Rd
def flat{α:Type}(E:Enc α)(good:α->Prop):Rd α:=⟨E.sz,fun _ cc a=>cc=E.enc a/\good a⟩
def slice{α:Type}(E:Enc α)(good:α->Prop):Rd (List α):=⟨1,fun h cc l=>∃v,cc=[v]/\a0d h E v l/\l.length<=maxLen/\∀x∈l,good x⟩
def pair{α β:Type}(a:Rd α)(b:Rd β):Rd (α×β):=⟨a.sz+b.sz,fun h cc x=>∃c d,cc=c++d/\a.rel h c x.1/\b.rel h d x.2⟩
end Rd
structure ArS(P:Program)(t:TypeId){α:Type}(R:Rd α):Prop where
 cells:P.cellsOf t=R.sz
 out:∀{H:Type} {enc:TypeId×Value->H} {w:World} {fuel:Nat} {cs:List Value} {x:DataW H×List MemPlace},
  DataW.trod enc P w 0 (fun _=>true) true fuel t cs=some x->(∀a n c,Value.slice (some a) n c∈cs->a.block<w.heap.size)->∃cc a,VL (a0I P w) cc cs/\R.rel (Y0 w) cc a
namespace ArS
section
variable {P:Program} {t e:TypeId} {α β:Type} {E:Enc α} {good:α->Prop} {a:Rd α} {b:Rd β}
theorem flat(h:Ar P t E good):ArS P t (Rd.flat E good):=
 ⟨h.cells,fun hx _=>by
  obtain⟨a,rfl,hg⟩:=h.out hx
  exact⟨_,a,VL.selfS (E.self a),rfl,hg⟩⟩
theorem slice(ht:P.underlying t=some (.slice e))(hc:P.cellsOf t=1)(hE:Ar P e E good)(hsz:0<E.sz):ArS P t (Rd.slice E good):=
 ⟨hc,fun {H enc w fuel cs x} hx hlt=>by
  obtain⟨a,n,c,rfl⟩:∃a n c,cs=[.slice a n c]:=by
   rcases open_slice ht hx with⟨hcs,_⟩| ⟨a',len',cap',m,n,D,Pl,hcs,_⟩
   ·exact⟨_,_,_,hcs⟩
   ·exact⟨_,_,_,hcs⟩
  obtain⟨l,v,h1,h2,h3,h4,h5,h6⟩:=a3k (a:=a) (len:=n) (cap:=c) ht hE hsz (fun y hy=>hlt y n c (by rw[hy];exact List.mem_singleton_self _)) ⟨fuel,by simpa [Value.cells]using hx⟩
  exact⟨[v],l,VL.cons h2 (VL.nil _),v,rfl,h1,by omega,h6⟩⟩
structure Fs(P:Program)(fs:List Field)(off:Nat){α:Type}(d:Rd α):Prop where
 out:∀{H:Type} {enc:TypeId×Value->H} {w:World} {n:Nat} {cs:List Value},cs.length=off+d.sz->(∀a n c,Value.slice (some a) n c∈cs->a.block<w.heap.size)->
  (∀f∈fs,∃y,DataW.trod enc P w 0 (fun _=>true) true n f.type ((cs.drop f.offset).take (P.cellsOf f.type))=some y)->∃cc a,VL (a0I P w) cc (cs.drop off)/\d.rel (Y0 w) cc a
theorem fs_one{f:Field}{off:Nat}(ho:f.offset=off)(h:ArS P f.type a):Fs P [f] off a:=by
 refine⟨?_⟩
 intro H enc w n cs hl hlt hf
 obtain⟨y,hy⟩:=hf f (by simp)
 rw[ho,h.cells,vnz (by rw[List.length_drop];omega)]at hy
 exact h.out hy fun a n c hm=>hlt a n c (List.mem_of_mem_drop hm)
theorem fs_cons{f:Field}{fs:List Field}{off:Nat}(ho:f.offset=off)(h:ArS P f.type a)(hr:Fs P fs (off+a.sz) b):Fs P (f::fs) off (a.pair b):=by
 refine⟨?_⟩
 intro H enc w n cs hl hlt hf
 have hl' :cs.length=off+(a.sz+b.sz):=hl
 obtain⟨y,hy⟩:=hf f (by simp)
 rw[ho,h.cells]at hy
 obtain⟨c1,x,hx,gx⟩:=h.out hy fun a n c hm=>hlt a n c (List.mem_of_mem_drop (List.mem_of_mem_take hm))
 obtain⟨c2,z,hz,gz⟩:=hr.out (cs:=cs) (by omega) hlt (fun f' hf' =>hf f' (List.mem_cons_of_mem _ hf'))
 refine⟨c1++c2,(x,z),?_,c1,c2,rfl,gx,gz⟩
 have:=VL.append hx hz
 rw[<-List.drop_drop,List.take_append_drop]at this
 exact this
theorem fsOne{nm tg pk:String}{em:Bool}{ty off bo:Nat}(h:ArS P ty a):Fs P [{ name:=nm,type:=ty,offset:=off,embedded:=em,tag:=tg,pkgPath:=pk,byteOffset:=bo }] off a:=fs_one rfl h
theorem fsCons{nm tg pk:String}{em:Bool}{ty off bo:Nat}{fs:List Field}(h:ArS P ty a)(hr:Fs P fs (off+a.sz) b):Fs P ({ name:=nm,type:=ty,offset:=off,embedded:=em,tag:=tg,pkgPath:=pk,byteOffset:=bo }::fs) off (a.pair b):=fs_cons rfl h hr
theorem struct{fs:Array Field}(hu:P.underlying t=some (.struct fs))(hc:P.cellsOf t=a.sz)(h:Fs P fs.toList 0 a):ArS P t a:=by
 refine⟨hc,fun h' hlt=>?_⟩
 obtain⟨xs,n,_,rfl,hl,hlen,hf⟩:=DataW.trod_struct hu h'
 have:=h.out (by rw[hl,hc,vsz]) hlt (fun f hf' =>by
  obtain⟨i,hi,rfl⟩:=List.getElem_of_mem hf'
  have hi' :i<fs.size:=by simpa using hi
  have e:=hf i fs[i] (by rw[Array.getElem?_eq_getElem hi'])
  rw[uzF (by omega)]at e
  exact⟨_,e⟩)
 rw[vwz]at this
 exact this
theorem agg(h:ArS P t a){cs:Array Value}{H:Type}{enc:TypeId×Value->H}{w:World}{dd:DataW H}{ps:List MemPlace}
  (hlt:∀a n c,Value.slice (some a) n c∈cs.toList->a.block<w.heap.size) (hx:DataW.Trod enc P w 0 (fun _=>true) true t (.agg cs) dd ps):∃cc x,VR (a0I P w) (.agg cc.toArray) (.agg cs)/\a.rel (Y0 w) cc x:=by
 obtain⟨fuel,hf⟩:=hx
 obtain⟨cc,x,hv,hr⟩:=h.out (cs:=cs.toList) (by simpa [Value.cells]using hf) hlt
 exact⟨cc,x,VR.agg_of (by simpa using hv),hr⟩
end
end ArS
section
variable {α:Type} {h h' :Heap} {E:Enc α} {v:Value} {l:List α}
theorem a0d.old(s:a0d h E v l)(hn:h.next<=h'.next)(ho:∀b,b<h.next->h'.obj b=h.obj b):a0d h' E v l:=by
 rcases s with s| ⟨b,o,cap,h1,h2,h3,h4⟩
 ·exact .inl s
 ·refine .inr ⟨b,o,cap,h1,h2,uzN h3 hn,?_⟩
  obtain⟨c,t,k1,k2⟩:=h4
  exact⟨c,t,by rw[ho b h3];exact k1,k2⟩
theorem a0d.val(s:a0d h E v l):∃a cap,v=.slice a l.length cap/\l.length<=cap:=by
 rcases s with⟨rfl,rfl⟩| ⟨b,o,cap,h1,h2,_⟩
 ·exact⟨none,0,rfl,uzP _⟩
 ·exact⟨_,cap,h1,h2⟩
theorem a0d.read{a:Option Addr}{n cap:Nat}(s:a0d h E (.slice a n cap) l){i:Nat}{x:α}(hx:l[i]? =some x):
  ∃b o,a=some ⟨b,o,none⟩/\b<h.next/\(h.obj b).read (o+i*E.sz) E.sz=some (E.enc x):=by
 rcases s with⟨_,rfl⟩| ⟨b,o,cap',h1,h2,h3,h4⟩
 ·simp at hx
 ·simp only[Value.slice.injEq]at h1
  obtain⟨rfl,rfl,rfl⟩:=h1
  have hi:=(List.getElem?_eq_some_iff.1 hx).1
  obtain⟨c,t,hob,hend,hat⟩:=h4
  refine⟨b,o,rfl,h3,?_⟩
  have:(i+1)*E.sz<=cap*E.sz:=vzz _ (by omega)
  rw[vDz,Nat.one_mul]at this
  rw[hob,Obj.read,if_pos (by omega),hat i x hx]
theorem a0d.get{k:IntKind}{l:List Int}{a:Option Addr}{n cap:Nat}(s:a0d h (Enc.int k) (.slice a n cap) l){i:Nat}{x:Int}(hx:l[i]? =some x):
  ∃b o,a=some ⟨b,o,none⟩/\b<h.next/\(h.obj b).get (o+i)=some (.int k x):=by
 obtain⟨b,o,h1,h2,h3⟩:=s.read hx
 exact⟨b,o,h1,h2,a1m (by simpa [Enc.int]using h3)⟩
theorem a0d.src(s:a0d h E v l):D1 h E.sz v=some (l.flatMap E.enc,l.length):=by
 rcases s with⟨rfl,rfl⟩| ⟨b,o,cap,rfl,h2,h3,h4⟩
 ·rfl
 ·unfold D1
  simp only[if_true]
  obtain⟨c,t,hob,hend,hat⟩:=h4
  have hle:l.length*E.sz<=cap*E.sz:=vzz _ h2
  have hcut:∀n,n<=l.length->(c.drop o).take (n*E.sz)=(l.take n).flatMap E.enc:=by
   intro n
   induction n with
   |zero=>intro _;simp
   |succ n ih=>
    intro hn
    have hx:l[n]? =some l[n]:=uzF (by omega)
    rw[List.take_add_one,hx,List.flatMap_append,<-ih (by omega),vDz,Nat.one_mul,List.take_add,List.drop_drop,hat n _ hx]
    simp
  have hall:(l.flatMap E.enc).all E9=true:=by
   rw[List.all_eq_true]
   intro x hx
   obtain⟨y,_,hy⟩:=List.mem_flatMap.1 hx
   exact a1y (List.all_eq_true.1 (E.self y) x hy)
  have hc:=hcut l.length (uzP _)
  rw[List.take_length]at hc
  rw[hob,Obj.src,hc,if_pos ⟨by omega,hall⟩]
  rfl
end
def Lst{α:Type}(h:Heap)(E:Enc α)(v:Value)(l:List α):Prop:=
 ∃a cap,v=.slice a l.length cap/\∀i x,l[i]? =some x->∃b o,a=some ⟨b,o,none⟩/\b<h.next/\(h.obj b).read (o+i*E.sz) E.sz=some (E.enc x)
theorem Lst.old{α:Type}{h h' :Heap}{E:Enc α}{v:Value}{l:List α}(s:Lst h E v l)(o:Old h h'):Lst h' E v l:=by
 obtain⟨a,cap,h1,h2⟩:=s
 refine⟨a,cap,h1,fun i x hx=>?_⟩
 obtain⟨b,off,k1,k2,k3⟩:=h2 i x hx
 exact⟨b,off,k1,uzN k2 o.next,by rw[o.obj b k2];exact k3⟩
theorem a0d.sl{α:Type}{h:Heap}{E:Enc α}{v:Value}{l:List α}(s:a0d h E v l):Lst h E v l:=by
 obtain⟨a,cap,rfl,_⟩:=s.val
 exact⟨a,cap,rfl,fun i x hx=>s.read hx⟩
theorem E3.sl{α:Type}{h:Heap}{t:TypeId}{E:Enc α}{v:Value}{l:List α}{b:Nat}(s:E3 h t E v l b):Lst h E v l:=by
 rcases s with⟨rfl,rfl⟩| ⟨cap,rest,rfl,h1,h2,h3,h4⟩
 ·exact⟨none,0,rfl,fun i x hx=>by simp at hx⟩
 ·refine⟨_,cap,rfl,fun i x hx=>⟨b,0,rfl,h1,?_⟩⟩
  obtain⟨_,_,hr⟩:=E3.read (.inr ⟨cap,rest,rfl,h1,h2,h3,h4⟩) hx
  exact hr
theorem Old.put{h hh:Heap}(o:Old h hh)(a b:Obj):Old h ((hh.new a).upd hh.next b):=
 ⟨uzR o.next (vLz _),fun x hx=>by have:=o.next;rw[a6 _ _ (by omega),f4 _ _ (by omega)];exact o.obj x hx⟩
theorem Old.more{h hh:Heap}(o:Old h hh)(a:Obj):Old h (hh.new a):=
 ⟨uzR o.next (vLz _),fun x hx=>by have:=o.next;rw[f4 _ _ (by omega)];exact o.obj x hx⟩
theorem I7{α:Type}{l:List α}{j:Nat}{x:α}(h:l[j]? =some x):l.take (j+1)=l.take j++[x]:=by
 rw[List.take_add_one,h];rfl
theorem a2u(x y:Int):(if y>x then y else x)=max x y:=by omega
theorem a7V(x y:Int):(if y<x then y else x)=min x y:=by omega
theorem K2(h:Heap)(o:Obj):∃h1,h1=h.new o/\Old h h1/\h1.next=h.next+1/\h1.obj h.next=o:=⟨_,rfl,(Old.refl h).more _,rfl,f9 _ _⟩
theorem T9(h:Heap)(a b:Obj):∃h1,h1=(h.new a).upd h.next b/\Old h h1/\h1.next=h.next+1/\h1.obj h.next=b:=⟨_,rfl,(Old.refl h).put _ _,rfl,a9 _ _ _⟩
end Go.Proofs.YtlakhgibjfmjjaaGreat.Can
