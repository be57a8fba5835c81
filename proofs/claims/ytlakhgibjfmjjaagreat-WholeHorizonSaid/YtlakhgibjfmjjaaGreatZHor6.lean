/- Part 6 of 6 of the proof of the row RowWholeHorizon: whatever the input, the law returns true. No condition. -/
import Derived.Test.YtlakhgibjfmjjaaGreatZHor5
import Derived.Below
import Derived.ChangeOld
import Derived.KernelRfl
import Derived.Maps.RangeRun
import Derived.OpenShut
import Derived.ProofKit
import Derived.ShutString
import Derived.SizedLaws
import Derived.Test.YtlakhgibjfmjjaaGreatProg
import Derived.Test.YtlakhgibjfmjjaaGreatRows
import Derived.WalkKit
set_option linter.unusedSimpArgs false
set_option linter.unusedVariables false
set_option linter.defProp false
namespace Go.Proofs.YtlakhgibjfmjjaaGreat.Can
open Go
attribute [local congr] RunR_congr RunC_congr afterR_congr guardR_congr condQ_congr CALL_congr finQ_congr op_congr opg_congr
section
variable {h h' : Heap} {a : SrvA} {v : SrvV} {ev : Value} {ex : Option Nat}
theorem SrvAt.ownLt (S : SrvAt h a v ev ex) {z : Nat} : (∃ (i : Nat) (L : LA), a.las[i]? = some L ∧ L.own z) → z < h.next := fun ⟨i, L, hL, hz⟩ => by
 have hi : i < v.ls.length := by rw [S.ll]; exact (List.getElem?_eq_some_iff.1 hL).1
 exact Nat.lt_of_lt_of_le hz.2 (S.L i L _ hL (List.getElem?_eq_getElem hi)).lt
theorem SrvAt.upS (S : SrvAt h a v ev ex) (o : OldX a.s h h') {now' first' : Int} {again' read' : Bool} {ev' : Value} (ho : h'.obj a.s = .cells (srvC now' first' again' read' a.bu a.cas.length a.ou a.crv a.cv a.rv ev') 93 .fix) :
  SrvAt h' a { v with now := now', first := first', again := again', read := read' } ev' ex := by
 have ts := S.ts
 have ne : ∀ z, a.tg z ≠ 0 → z ≠ a.s := fun z hz e => hz (by rw [e]; exact ts)
 exact { S with
  os := ho
  ls := Nat.lt_of_lt_of_le S.ls o.next
  K := S.K.keep o.next fun hl => o.obj _ hl (ne _ (by rw [S.tk]; decide))
  V := S.V.keep o.next fun hl => o.obj _ hl (ne _ (by rw [S.tc]; decide))
  W := S.W.keep o.next fun hl => o.obj _ hl (ne _ (by rw [S.tr]; decide))
  C := fun i A c he hA hc => (S.C i A c he hA hc).keep o.next fun z hz => o.obj z ((S.C i A c he hA hc).lt hz) (ne z (by rw [S.tC i A z hA hz]; omega))
  L := fun i L l hL hl => (S.L i L l hL hl).keep o.next fun z hz => o.obj z (Nat.lt_of_lt_of_le hz.2 (S.L i L l hL hl).lt) (ne z (by rw [S.tL i L z hL hz]; omega)) }
theorem SrvAt.upL (S : SrvAt h a v ev ex) {i : Nat} {L : LA} {l : LimV} (hL : a.las[i]? = some L) (o : OldF L.own h h') (hl' : LimAt h' L l) : SrvAt h' a { v with ls := v.ls.set i l } ev ex := by
 have ne : ∀ z, a.tg z ≠ 2 * i + 5 → ¬ L.own z := fun z hz e => hz (S.tL i L z hL e)
 exact { S with
  os := (o.obj _ S.ls (ne _ (by rw [S.ts]; omega))).trans S.os
  ls := Nat.lt_of_lt_of_le S.ls o.next
  K := S.K.keep o.next fun hl => o.obj _ hl (ne _ (by rw [S.tk]; omega))
  V := S.V.keep o.next fun hl => o.obj _ hl (ne _ (by rw [S.tc]; omega))
  W := S.W.keep o.next fun hl => o.obj _ hl (ne _ (by rw [S.tr]; omega))
  ll := by show (v.ls.set i l).length = _; rw [List.length_set]; exact S.ll
  C := fun j A c he hA hc => (S.C j A c he hA hc).keep o.next fun z hz => o.obj z ((S.C j A c he hA hc).lt hz) (ne z (by rw [S.tC j A z hA hz]; omega))
  L := fun j L' l' hL' hl2 => by
   have hl2 : (v.ls.set i l)[j]? = some l' := hl2
   by_cases e : i = j
   ·subst e
    have hi : i < v.ls.length := by rw [S.ll]; exact (List.getElem?_eq_some_iff.1 hL).1
    rw [List.getElem?_set_self hi] at hl2
    rw [hL] at hL'
    rw [← Option.some.inj hl2, ← Option.some.inj hL']
    exact hl'
   ·rw [List.getElem?_set_ne e] at hl2
    exact (S.L j L' l' hL' hl2).keep o.next fun z hz => o.obj z (Nat.lt_of_lt_of_le hz.2 (S.L j L' l' hL' hl2).lt) (ne z (by rw [S.tL j L' z hL' hz]; omega)) }
theorem SrvAt.out (S : SrvAt h a v ev none) (k : Nat) : SrvAt h a v ev (some k) := { S with C := fun i A c _ hA hc => S.C i A c (by simp) hA hc }
theorem SrvAt.in_ {k : Nat} (S : SrvAt h a v ev (some k)) {A : CA} {c : CV} (hA : a.cas[k]? = some A) (hc : ConnAt h A c) : SrvAt h a { v with cs := v.cs.set k c } ev none :=
 { S with
   cl := by show (v.cs.set k c).length = _; rw [List.length_set]; exact S.cl
   C := fun i A' c' _ hA' hc' => by
    have hc' : (v.cs.set k c)[i]? = some c' := hc'
    by_cases e : k = i
    ·subst e
     have hi : k < v.cs.length := by rw [S.cl]; exact (List.getElem?_eq_some_iff.1 hA).1
     rw [List.getElem?_set_self hi] at hc'
     rw [hA] at hA'
     rw [← Option.some.inj hc', ← Option.some.inj hA']
     exact hc
    ·rw [List.getElem?_set_ne e] at hc'
     exact S.C i A' c' (fun h => e (Option.some.inj h)) hA' hc' }
theorem SrvAt.keepC {k : Nat} (S : SrvAt h a v ev (some k)) {A : CA} (hA : a.cas[k]? = some A) (o : OldF A.own h h') : SrvAt h' a v ev (some k) := S.keep o.next fun z hz hl => o.obj z hl fun hA' => by
 have t := S.tC k A z hA hA'
 rcases hz with e | e | e | e | ⟨i, A', he, hA2, hz⟩ | ⟨i, L, hL, hz⟩
 ·rw [e, S.ts] at t; omega
 ·rw [e, S.tk] at t; omega
 ·rw [e, S.tc] at t; omega
 ·rw [e, S.tr] at t; omega
 ·rw [S.tC i A' z hA2 hz] at t
  exact he (by rw [show k = i by omega])
 ·rw [S.tL i L z hL hz] at t; omega
theorem most_ok2 (S : SrvAt h a v ev ex) {q : ReqV} (rq : ReqOK a.las.length q) {L : LA} (hL : a.las[q.rule.toNat]? = some L) (hT : L.R.OK) {Q : Value → Heap → Prop} (hQ : ∀ h', Old h h' → Q (.int .i64 (mostS q.op q.k L.R.T)) h') :
  CALL cp 118 [.pointer (some ⟨a.s, 0, none⟩), q.val] h Q := by
 rw [CALL_enter cp cp118]
 have r1 := rq.rule
 have T1 := hT.T
 obtain ⟨i, hi⟩ : ∃ i : Nat, q.rule = i := ⟨q.rule.toNat, by omega⟩
 rw [hi, Int.toNat_natCast] at hL
 have il : i < a.las.length := (List.getElem?_eq_some_iff.1 hL).1
 obtain ⟨h1, h1d⟩ : ∃ h1, h1 = h.new (.cells [.int .i64 q.op, .int .i64 i, .int .u32 q.cost, .string (bs q.key), .int .i64 q.k] 61 .fix) := ⟨_, rfl⟩
 have o1 : Old h h1 := by rw [h1d]; exact (Old.refl h).more _
 have g1 : h1.obj h.next = .cells [.int .i64 q.op, .int .i64 i, .int .u32 q.cost, .string (bs q.key), .int .i64 q.k] 61 .fix := by rw [h1d]; exact obj_new_same _ _
 have S1 := S.old o1
 have os := S1.os
 obtain ⟨cap, hv, hrd⟩ := S1.K.read (i := i) (x := L.R.t) (by rw [List.getElem?_map, hL]; rfl)
 rw [List.length_map] at hv
 rw [hv] at os
 have hg : (h1.obj a.kb).get (i * 9 + 7) = some (.int .i64 L.R.T) := by
  have := read_get (i := 7) hrd (by decide) (v := .int .i64 L.R.T) rfl
  rwa [Nat.zero_add] at this
 unfold ReqV.val reqV
 rw [hi]
 simp (disch := omega) only [c118, ↓R118, ← h1d, g1, os, hg, ↓RnP, RnQ, Nat.reduceEqDiff, Nat.reduceAdd, Nat.reduceMul, Nat.reduceSub, Nat.reduceLT, Nat.reduceLeDiff, Nat.reduceBEq, Int.reduceLT, Int.reduceLE, reduceCtorEq, Int.reduceToNat, Int.reduceAdd, Int.reduceSub, Int.reduceMul]
 refine flargest_ok h1 q.op i q.cost (bs q.key) q.k L.R.T rq.k (by omega) fun h2 o2 => ?_
 simp (disch := omega) only [c118, ↓R118, ↓RnP, RnQ, Nat.reduceEqDiff, Nat.reduceAdd, Nat.reduceMul, Nat.reduceSub, Nat.reduceLT, Nat.reduceLeDiff, Nat.reduceBEq, Int.reduceLT, Int.reduceLE, reduceCtorEq, Int.reduceToNat, Int.reduceAdd, Int.reduceSub, Int.reduceMul]
 exact hQ h2 (o1.trans o2)
structure SrvV.T (v : SrvV) : Prop where
 now : 0 ≤ v.now ∧ I64 v.now
 first : 0 ≤ v.first ∧ I64 v.first
set_option maxHeartbeats 2000000 in
theorem ans_refused (S : SrvAt h a v ev ex) (tv : v.T) {q : ReqV} (rq : ReqOK a.las.length q) (hop : q.op = 1) {L : LA} {l : LimV} (hL : a.las[q.rule.toNat]? = some L) (hl : v.ls[q.rule.toNat]? = some l)
  {ver ret : Int} (hver : 0 ≤ ver ∧ ver < 256) (hr : refuseS L.R.B v.now (heldS v.now v.first v.again L.R.Wd) q.cost = some (ver, ret)) {Q : Value → Heap → Prop}
  (hQ : ∀ h' u b, OldF L.own h h' → SrvAt h' a { v with ls := v.ls.set q.rule.toNat (l.cnt ver) } ev ex → Vec h' 5 B8 u (ansB 1 ver 0 ret) b → h.next ≤ b → Q u h') :
  CALL cp 117 [.pointer (some ⟨a.s, 0, none⟩), q.val] h Q := by
 rw [CALL_enter cp cp117]
 have r1 := rq.rule
 obtain ⟨i, hi⟩ : ∃ i : Nat, q.rule = i := ⟨q.rule.toNat, by omega⟩
 rw [hi, Int.toNat_natCast] at hL hl hQ
 have il : i < a.las.length := (List.getElem?_eq_some_iff.1 hL).1
 obtain ⟨h1, h1d⟩ : ∃ h1, h1 = h.new (.cells [.int .i64 1, .int .i64 i, .int .u32 q.cost, .string (bs q.key), .int .i64 q.k] 61 .fix) := ⟨_, rfl⟩
 have o1 : Old h h1 := by rw [h1d]; exact (Old.refl h).more _
 have n1 : h1.next = h.next + 1 := by rw [h1d]; rfl
 have g1 : h1.obj h.next = .cells [.int .i64 1, .int .i64 i, .int .u32 q.cost, .string (bs q.key), .int .i64 q.k] 61 .fix := by rw [h1d]; exact obj_new_same _ _
 have S1 := S.old o1
 have os := S1.os
 have L1 := S1.L i L l hL hl
 have ok := L1.ok
 have okW := ok.Wd
 obtain ⟨cap, hv, hrd⟩ := S1.K.read (i := i) (x := L.R.t) (by rw [List.getElem?_map, hL]; rfl)
 rw [List.length_map] at hv
 have hgw : (h1.obj a.kb).get (i * 9 + 1) = some (.int .i64 L.R.Wd) := by
  have := read_get (i := 1) hrd (by decide) (v := .int .i64 L.R.Wd) rfl
  rwa [Nat.zero_add] at this
 obtain ⟨cap2, hv2, hrb, hgp⟩ := S1.W.get (i := i) (p := L.p) (by rw [List.getElem?_map, hL]; rfl)
 rw [List.length_map] at hv2
 have hgp : (h1.obj a.rb).get i = some (.pointer (some ⟨L.p, 0, none⟩)) := hgp
 have fN := fun Q => clkNow_ok os Q
 have fH := fun Q => clkHeld_ok os L.R.Wd (by unfold I64; omega) (by omega) tv.first tv.now Q
 obtain ⟨held, hheld⟩ : ∃ held, held = heldS v.now v.first v.again L.R.Wd := ⟨_, rfl⟩
 rw [← hheld] at fH hr
 rw [hv, hv2] at os
 have wc : IntKind.i64.wrap q.cost = q.cost := by have := rq.cost; rw [wi64]; omega
 unfold ReqV.val reqV
 rw [hi, hop]
 simp (disch := omega) only [c117, ↓R117, ← h1d, g1, os, hgw, hgp, fN, fH, wc, Int.reduceBEq, Nat.mul_one, ↓RnP, RnQ, Nat.reduceEqDiff, Nat.reduceAdd, Nat.reduceMul, Nat.reduceSub, Nat.reduceLT, Nat.reduceLeDiff, Nat.reduceBEq, Int.reduceLT, Int.reduceLE, reduceCtorEq, Int.reduceToNat, Int.reduceAdd, Int.reduceSub, Int.reduceMul]
 refine check_refused L1 v.now held q.cost (bs q.key) hr fun h2 o2 L2 => ?_
 have n2 := o2.next
 have lp : L.p < h.next := by
  have := (S.L i L l hL hl)
  exact Nat.lt_of_lt_of_le this.il.2 this.lt
 have g2 := (o2.obj h.next (by omega) (by omega)).trans g1
 obtain ⟨h3, h3d⟩ : ∃ h3, h3 = (h2.new (.cells [.int .i64 0, .int .i64 0, .int .i64 0] 55 .fix)).upd h2.next (.cells [.int .i64 ver, .int .i64 0, .int .i64 ret] 55 .fix) := ⟨_, rfl⟩
 have o3 : Old h2 h3 := by rw [h3d]; exact ⟨Nat.le_succ _, fun z hz => by rw [obj_upd_ne _ _ (by omega), obj_new_ne _ _ (by omega)]⟩
 have n3 : h3.next = h2.next + 1 := by rw [h3d]; rfl
 have q3 : h3.obj h2.next = .cells [.int .i64 ver, .int .i64 0, .int .i64 ret] 55 .fix := by rw [h3d]; exact obj_upd_same _ _ _
 have g3 := (o3.obj h.next (by omega)).trans g2
 simp (disch := omega) only [c117, ↓R117, ← h3d, q3, g3, ↓RnP, RnQ, Nat.reduceEqDiff, Nat.reduceAdd, Nat.reduceMul, Nat.reduceSub, Nat.reduceLT, Nat.reduceLeDiff, Nat.reduceBEq, Int.reduceLT, Int.reduceLE, reduceCtorEq, Int.reduceToNat, Int.reduceAdd, Int.reduceSub, Int.reduceMul]
 refine RunC_loop cp c117_l0 _ (fun d e hh => hh = h3 ∧ e 3 = .pointer (some ⟨h.next, 0, none⟩) ∧ e 8 = .pointer (some ⟨h2.next, 0, none⟩) ∧ e 55 = .int .i64 ((0 : Nat) : Int) ∧ e 56 = .int .i64 0) ?_ 0 _ _ ⟨rfl, rfl, rfl, rfl, rfl⟩
 rintro d e hh ⟨rfl, e3, e8, e55, e56⟩
 have b1 : decide ((0 : Int) < ((0 : Nat) : Int)) = false := by decide
 simp (disch := omega) only [c117_l0, c117, ↓R117, e3, e8, e55, e56, b1, q3, g3, ↓RnP, RnQ, Nat.reduceEqDiff, Nat.reduceAdd, Nat.reduceMul, Nat.reduceSub, Nat.reduceLT, Nat.reduceLeDiff, Nat.reduceBEq, Int.reduceLT, Int.reduceLE, reduceCtorEq, Int.reduceToNat, Int.reduceAdd, Int.reduceSub, Int.reduceMul]
 refine answered_ok hh 1 (.inl rfl) ver 0 ret hver fun h4 u b V4 o4 hb => ?_
 simp (disch := omega) only [c117, ↓R117, ↓RnP, RnQ, Nat.reduceEqDiff, Nat.reduceAdd, Nat.reduceMul, Nat.reduceSub, Nat.reduceLT, Nat.reduceLeDiff, Nat.reduceBEq, Int.reduceLT, Int.reduceLE, reduceCtorEq, Int.reduceToNat, Int.reduceAdd, Int.reduceSub, Int.reduceMul]
 have inL : L.own L.p := by
  have := L1.il
  have := L1.ib
  unfold LA.own; omega
 have oF : OldF L.own h h4 := (((o1.f _).trans (o2.f inL)).trans (o3.f _)).trans (o4.f _)
 exact hQ h4 u b oF ((((S1.upL hL (o2.f inL) L2).old o3)).old o4) V4 (by omega)
end
end Go.Proofs.YtlakhgibjfmjjaaGreat.Can
namespace Go.Proofs.YtlakhgibjfmjjaaGreat.Can
open Go
attribute [local congr] RunR_congr RunC_congr afterR_congr guardR_congr condQ_congr CALL_congr finQ_congr op_congr opg_congr
theorem dfrQ_n {CP : CProg} (g : FuncId) (caps : Env → List Value) (post : CC) (Q : Post) (e : Env) (h : Heap) : dfrQ CP g caps post Q .normal e h ↔ RunC CP post e h (dfrE CP g (caps e) Q) := Iff.rfl
theorem dfrQ_r {CP : CProg} (g : FuncId) (caps : Env → List Value) (post : CC) (Q : Post) (e : Env) (h : Heap) : dfrQ CP g caps post Q .ret e h ↔ Q .ret e h := Iff.rfl
theorem dfrE_r {CP : CProg} (g : FuncId) (cs : List Value) (Q : Post) (e : Env) (h : Heap) : dfrE CP g cs Q .ret e h ↔ CALL CP g cs h (fun _ h3 => Q .ret e h3) := Iff.rfl
abbrev EvT := Int × ByteArray × Bool × Int
abbrev EvE : Enc EvT := Enc.pair (Enc.int .i64) (Enc.pair Enc.str (Enc.pair Enc.bool (Enc.int .i64)))
def HI (a : SrvA) (k N : Nat) (hh : Heap) (st : SrvV × List EvT) : Prop :=
 ∃ ev eb, SrvAt hh a st.1 ev (some k) ∧ Vec hh 123 EvE ev st.2 eb ∧ (st.2 = [] ∧ ev = .slice none 0 0 ∨ ¬ a.own none eb ∧ N ≤ eb)
theorem HI.keep {a : SrvA} {k N : Nat} {h h' : Heap} {st : SrvV × List EvT} {A : CA} (I : HI a k N h st) (hA : a.cas[k]? = some A) (o : OldF A.own h h') : HI a k N h' st := by
 obtain ⟨ev, eb, S, V, e⟩ := I
 refine ⟨ev, eb, S.keepC hA o, ?_, e⟩
 rcases e with ⟨e1, e2⟩ | e
 ·rw [e1, e2]; exact Vec.nil _ _ _ _
 ·exact V.keep o.next fun hl => o.obj eb hl fun hz => e.1 (.inr (.inr (.inr (.inr (.inl ⟨k, A, by simp, hA, hz⟩)))))
def SrvV.rd (v : SrvV) (r : Int) : SrvV := { v with now := max (max v.now r) 0, first := if v.read then v.first else max (max v.now r) 0, read := true }
def nilS : Value := .slice none 0 0
section
variable {h h' : Heap} {a : SrvA} {v : SrvV} {k : Nat} {A : CA} {c : CV} {F : Nat → Nat → Prop} {okq : ReqV → Prop} {most : SrvV × List EvT → ReqV → Int} {ans : SrvV × List EvT → ReqV → (SrvV × List EvT) × List Int} {J : SrvV × List EvT → Prop}
theorem SrvAt.lt {ev : Value} (S : SrvAt h a v ev none) {z : Nat} (hz : a.own none z) : z < h.next := by
 have cn := S.cn
 have ln := S.ln
 rcases hz with e | e | e | e | ⟨i, A, he, hA, hz⟩ | h1
 ·rw [e]; exact S.ls
 ·rw [e]
  obtain ⟨_, _, _, hl, _⟩ := S.K.at (by rw [List.length_map]; omega)
  exact hl
 ·rw [e]
  have : 0 < (a.cas.map CA.x).length := by rw [List.length_map]; omega
  obtain ⟨_, _, hl, _⟩ := S.V.get (List.getElem?_eq_getElem this)
  exact hl
 ·rw [e]
  have : 0 < (a.las.map LA.p).length := by rw [List.length_map]; omega
  obtain ⟨_, _, hl, _⟩ := S.W.get (List.getElem?_eq_getElem this)
  exact hl
 ·have hi : i < v.cs.length := by rw [S.cl]; exact (List.getElem?_eq_some_iff.1 hA).1
  exact (S.C i A _ he hA (List.getElem?_eq_getElem hi)).lt hz
 ·exact S.ownLt h1
set_option maxHeartbeats 4000000 in
theorem do_chunk (H : ∀ N, Host (SrvV × List EvT) a.s (F N) A (fun hh st => HI a k N hh st ∧ J st) okq most ans) (hF : ∀ N z, F N z → a.own none z ∨ N ≤ z) (S : SrvAt h a v nilS none) (hA : a.cas[k]? = some A) (hc : v.cs[k]? = some c) (hw : c.w = true) (hr : c.r = A.rr) (di : c.e = 0 → DecInv c.bs c.n c.r)
  (r n : Int) (hJ : J (v.rd r, [])) (w : Value) (l : List Int) (sl : Bys h w l) (byt : Byts l) (hll : l.length ≤ 100000) (hok : okS most ans A.S okq l (v.rd r, []) c) (hg : ∀ z o cap, w = .slice (some ⟨z, o, none⟩) l.length cap → ¬ a.own none z) {Q : Value → Heap → Prop}
  (hQ : ∀ h' evv eb, OldF (a.own none) h h' → J (acceptS most ans A.S l (v.rd r, []) c).1 → SrvAt h' a { (acceptS most ans A.S l (v.rd r, []) c).1.1 with cs := (acceptS most ans A.S l (v.rd r, []) c).1.1.cs.set k (acceptS most ans A.S l (v.rd r, []) c).2.1 } nilS none →
   Vec h' 123 EvE evv (acceptS most ans A.S l (v.rd r, []) c).1.2 eb → Q (.agg #[.int .i64 0, .int .i64 (acceptS most ans A.S l (v.rd r, []) c).2.2, nilS, evv]) h') :
  CALL cp 15 [.pointer (some ⟨a.s, 0, none⟩), .agg #[.int .i64 2, .int .i64 r, .int .i64 k, w, .int .i64 n, .slice none 0 0]] h Q := by
 rw [CALL_enter cp cp15]
 refine RunC_dfr (CP := cp) _ _ _ _ _ _ _ ?_
 obtain ⟨wa, wc, rfl, wl⟩ := sl.val
 have ck : k < a.cas.length := (List.getElem?_eq_some_iff.1 hA).1
 have cn := S.cn
 have ls := S.ls
 obtain ⟨h1, h1d⟩ : ∃ h1, h1 = ((h.new (.cells [.pointer (some ⟨a.s, 0, none⟩)] 35 .fix)).new (.cells [.int .i64 2, .int .i64 r, .int .i64 k, .slice wa l.length wc, .int .i64 n, .slice none 0 0] 45 .fix)).new (.cells [.int .i64 0, .int .i64 0, .slice none 0 0, .slice none 0 0] 42 .fix) := ⟨_, rfl⟩
 have o1 : Old h h1 := by rw [h1d]; exact (((Old.refl h).more _).more _).more _
 have n1 : h1.next = h.next + 1 + 1 + 1 := by rw [h1d]; rfl
 have p1 : h1.obj h.next = .cells [.pointer (some ⟨a.s, 0, none⟩)] 35 .fix := by rw [h1d, obj_new_ne _ _ (by simp only [next_new]; omega), obj_new_ne _ _ (by simp only [next_new]; omega)]; exact obj_new_same _ _
 have q1 : h1.obj (h.next + 1) = .cells [.int .i64 2, .int .i64 r, .int .i64 k, .slice wa l.length wc, .int .i64 n, .slice none 0 0] 45 .fix := by rw [h1d, obj_new_ne _ _ (by simp only [next_new]; omega)]; exact obj_new_same _ _
 have x1 : h1.obj (h.next + 1 + 1) = .cells [.int .i64 0, .int .i64 0, .slice none 0 0, .slice none 0 0] 42 .fix := by rw [h1d]; exact obj_new_same _ _
 have S1 := S.old o1
 simp (disch := omega) only [c15, ↓R15, ← h1d, p1, q1, x1, eqS, Int.reduceBEq, ↓dfrQ_n, ↓dfrQ_r, ↓RnP, RnQ, Nat.reduceEqDiff, Nat.reduceAdd, Nat.reduceMul, Nat.reduceSub, Nat.reduceLT, Nat.reduceLeDiff, Nat.reduceBEq, Int.reduceLT, Int.reduceLE, reduceCtorEq, Int.reduceToNat, Int.reduceAdd, Int.reduceSub, Int.reduceMul]
 refine clkRead_ok S1.os r fun h2 u o2 nx2 os2 => ?_
 have S2 : SrvAt h2 a (v.rd r) nilS none := S1.upS o2 os2
 have p2 := (o2.obj h.next (by omega) (by omega)).trans p1
 have q2 := (o2.obj (h.next + 1) (by omega) (by omega)).trans q1
 have x2 := (o2.obj (h.next + 1 + 1) (by omega) (by omega)).trans x1
 obtain ⟨cap2, hv2, hcb, hgp⟩ := S2.V.get (i := k) (p := A.x) (by rw [List.getElem?_map, hA]; rfl)
 have hgp : (h2.obj a.cb).get k = some (.pointer (some ⟨A.x, 0, none⟩)) := hgp
 rw [List.length_map] at hv2
 rw [hv2] at os2
 have b1 : decide ((2 : Int) < 0) = false := by decide
 have b2 : decide ((2 : Int) > 4) = false := by decide
 have b3 : decide ((k : Int) < 0) = false := decide_eq_false (by omega)
 have b4 : decide ((k : Int) ≥ (a.cas.length : Int)) = false := decide_eq_false (by omega)
 obtain ⟨h3, h3d⟩ : ∃ h3, h3 = (h2.new (.cells [.int .i64 0, .int .i64 0, .slice none 0 0, .slice none 0 0] 42 .fix)).upd h2.next (.cells [.int .i64 0, .int .i64 0, .slice none 0 0, .slice none 0 0] 42 .fix) := ⟨_, rfl⟩
 have o3 : Old h2 h3 := by rw [h3d]; exact ⟨Nat.le_succ _, fun z hz => by rw [obj_upd_ne _ _ (by omega), obj_new_ne _ _ (by omega)]⟩
 have n3 : h3.next = h2.next + 1 := by rw [h3d]; rfl
 have y3 : h3.obj h2.next = .cells [.int .i64 0, .int .i64 0, .slice none 0 0, .slice none 0 0] 42 .fix := by rw [h3d]; exact obj_upd_same _ _ _
 have p3 := (o3.obj h.next (by omega)).trans p2
 have q3 := (o3.obj (h.next + 1) (by omega)).trans q2
 have x3 := (o3.obj (h.next + 1 + 1) (by omega)).trans x2
 have S3 := S2.old o3
 have c3 := S3.C k A c (by simp) hA hc
 have fo := fun Q => isOpen_ok c3 Q
 rw [hw] at fo
 simp (disch := omega) only [c15, ↓R15, p2, q2, x2, os2, b1, b2, b3, b4, hgp, fillIn, ← h3d, p3, q3, x3, fo, Int.reduceBEq, Nat.mul_one, ↓dfrQ_n, ↓dfrQ_r, ↓RnP, RnQ, Nat.reduceEqDiff, Nat.reduceAdd, Nat.reduceMul, Nat.reduceSub, Nat.reduceLT, Nat.reduceLeDiff, Nat.reduceBEq, Int.reduceLT, Int.reduceLE, reduceCtorEq, Int.reduceToNat, Int.reduceAdd, Int.reduceSub, Int.reduceMul]
 have I3 : HI a k h3.next h3 (v.rd r, []) ∧ J (v.rd r, []) := ⟨⟨nilS, 0, S3.out k, Vec.nil _ _ _ _, .inl ⟨rfl, rfl⟩⟩, hJ⟩
 have oX3 : OldX a.s h h3 := ((o1.x _).trans o2).trans (o3.x _)
 have sl3 : Bys h3 (.slice wa l.length wc) l := by
  rcases sl with s | ⟨b, o, cap, e1, e2, e3, e4, e5⟩
  ·exact .inl s
  ·have hne : b ≠ a.s := fun e => hg b o cap e1 (by rw [e]; exact .inl rfl)
   exact .inr ⟨b, o, cap, e1, e2, by omega, by rw [oX3.obj b e3 hne]; exact e4, by rw [oX3.obj b e3 hne]; exact e5⟩
 have lt3 : ∀ z, a.own none z → z < h.next := fun z hz => S.lt hz
 have Alt : ∀ z, A.own z → a.own none z := fun z hz => .inr (.inr (.inr (.inr (.inl ⟨k, A, by simp, hA, hz⟩))))
 refine accept_ok (H h3.next) I3 c3 hw hr di (.slice wa l.length wc) l sl3 byt hok hll (fun z o cap e => ?_) fun h4 o4 I4 c4 w4 r4 d4 => ?_
 ·have h1 := hg z o cap e
  refine ⟨fun hz => h1 (Alt z hz), fun hz => ?_⟩
  rcases hF h3.next z hz with hz | hz
  ·exact h1 hz
  ·rcases sl3 with ⟨e1, _⟩ | ⟨b, o', cap', e1, _, e3, _⟩
   ·rw [e] at e1; simp at e1
   ·rw [e] at e1
    simp only [Value.slice.injEq, Option.some.injEq, Addr.mk.injEq] at e1
    omega
 have n4 := o4.next
 have keep4 : ∀ z, h.next ≤ z → z < h3.next → h4.obj z = h3.obj z := fun z h1 h2 => o4.obj z h2 fun hz => by
  rcases hz with hz | hz
  ·have := lt3 z (Alt z hz); omega
  ·rcases hF h3.next z hz with hz | hz
   ·have := lt3 z hz; omega
   ·omega
 have p4 := (keep4 h.next (by omega) (by omega)).trans p3
 have x4 := (keep4 (h.next + 1 + 1) (by omega) (by omega)).trans x3
 have y4 := (keep4 h2.next (by omega) (by omega)).trans y3
 obtain ⟨R, hR⟩ : ∃ R, R = acceptS most ans A.S l (v.rd r, []) c := ⟨_, rfl⟩
 rw [← hR] at I4 c4 w4 r4 d4 hQ ⊢
 obtain ⟨⟨ev, eb, S4, V4, ev4⟩, J4⟩ := I4
 obtain ⟨ea, ecap, rfl, _⟩ := V4.val
 have os4 := S4.os
 simp (disch := omega) only [c15, ↓R15, p4, x4, y4, os4, ↓dfrE_r, ↓RnP, RnQ, Nat.reduceEqDiff, Nat.reduceAdd, Nat.reduceMul, Nat.reduceSub, Nat.reduceLT, Nat.reduceLeDiff, Nat.reduceBEq, Int.reduceLT, Int.reduceLE, reduceCtorEq, Int.reduceToNat, Int.reduceAdd, Int.reduceSub, Int.reduceMul]
 obtain ⟨h5, h5d⟩ : ∃ h5, h5 = ((h4.upd h2.next (.cells [.int .i64 0, .int .i64 (R.2.2 : Nat), .slice none 0 0, .slice none 0 0] 42 .fix)).upd h2.next (.cells [.int .i64 0, .int .i64 (R.2.2 : Nat), .slice none 0 0, .slice ea R.1.2.length ecap] 42 .fix)).upd (h.next + 1 + 1) (.cells [.int .i64 0, .int .i64 (R.2.2 : Nat), .slice none 0 0, .slice ea R.1.2.length ecap] 42 .fix) := ⟨_, rfl⟩
 have n5 : h5.next = h4.next := by rw [h5d]; rfl
 have keep5 : ∀ z, z ≠ h2.next → z ≠ h.next + 1 + 1 → h5.obj z = h4.obj z := fun z e1 e2 => by rw [h5d, obj_upd_ne _ _ e2, obj_upd_ne _ _ e1, obj_upd_ne _ _ e1]
 have p5 := (keep5 h.next (by omega) (by omega)).trans p4
 have os5 := (keep5 a.s (by omega) (by omega)).trans os4
 have x5 : h5.obj (h.next + 1 + 1) = .cells [.int .i64 0, .int .i64 (R.2.2 : Nat), .slice none 0 0, .slice ea R.1.2.length ecap] 42 .fix := by rw [h5d]; exact obj_upd_same _ _ _
 show CALL cp _ _ (((h4.upd h2.next (.cells [.int .i64 0, .int .i64 (R.2.2 : Nat), .slice none 0 0, .slice none 0 0] 42 .fix)).upd h2.next (.cells [.int .i64 0, .int .i64 (R.2.2 : Nat), .slice none 0 0, .slice ea R.1.2.length ecap] 42 .fix)).upd (h.next + 1 + 1) (.cells [.int .i64 0, .int .i64 (R.2.2 : Nat), .slice none 0 0, .slice ea R.1.2.length ecap] 42 .fix)) _
 rw [← h5d, CALL_enter cp cp35]
 simp (disch := omega) only [c35, ↓R35, p5, os5, x5, ↓RnP, RnQ, Nat.reduceEqDiff, Nat.reduceAdd, Nat.reduceMul, Nat.reduceSub, Nat.reduceLT, Nat.reduceLeDiff, Nat.reduceBEq, Int.reduceLT, Int.reduceLE, reduceCtorEq, Int.reduceToNat, Int.reduceAdd, Int.reduceSub, Int.reduceMul]
 have o6 : OldX a.s h5 (h5.upd a.s (.cells (srvC R.1.1.now R.1.1.first R.1.1.again R.1.1.read a.bu a.cas.length a.ou a.crv a.cv a.rv nilS) 93 .fix)) := OldX.upd _ _ _
 have S5 : SrvAt h5 a R.1.1 (.slice ea R.1.2.length ecap) (some k) := S4.keep (by omega) fun z hz hl => keep5 z (fun e => by
  have : z < h.next := by
   rcases hz with hz | hz | hz | hz | ⟨i, A', he, hA2, hz⟩ | hz
   ·exact lt3 z (.inl hz)
   ·exact lt3 z (.inr (.inl hz))
   ·exact lt3 z (.inr (.inr (.inl hz)))
   ·exact lt3 z (.inr (.inr (.inr (.inl hz))))
   ·exact lt3 z (.inr (.inr (.inr (.inr (.inl ⟨i, A', by simp, hA2, hz⟩)))))
   ·exact lt3 z (.inr (.inr (.inr (.inr (.inr hz)))))
  omega) (fun e => by
  have : z < h.next := by
   rcases hz with hz | hz | hz | hz | ⟨i, A', he, hA2, hz⟩ | hz
   ·exact lt3 z (.inl hz)
   ·exact lt3 z (.inr (.inl hz))
   ·exact lt3 z (.inr (.inr (.inl hz)))
   ·exact lt3 z (.inr (.inr (.inr (.inl hz))))
   ·exact lt3 z (.inr (.inr (.inr (.inr (.inl ⟨i, A', by simp, hA2, hz⟩)))))
   ·exact lt3 z (.inr (.inr (.inr (.inr (.inr hz)))))
  omega)
 have S6 := S5.upS o6 (obj_upd_same _ _ _)
 have c5 : ConnAt h5 A R.2.1 := c4.keep (by omega) fun z hz => keep5 z (by have := lt3 z (Alt z hz); omega) (by have := lt3 z (Alt z hz); omega)
 have tA : ¬ A.own a.s := fun hz => by have := S.tC k A a.s hA hz; rw [S.ts] at this; omega
 have c6 := c5.up o6 tA
 refine hQ _ _ eb ⟨by rw [next_upd]; omega, fun z hz hn => ?_⟩ J4 (S6.in_ hA c6) ?_
 ·have hs : z ≠ a.s := fun e => hn (by rw [e]; exact .inl rfl)
  rw [obj_upd_ne _ _ hs, keep5 z (by omega) (by omega), o4.obj z (by omega) (fun hz' => ?_), oX3.obj z hz hs]
  rcases hz' with hz' | hz'
  ·exact hn (Alt z hz')
  ·rcases hF h3.next z hz' with hz' | hz'
   ·exact hn hz'
   ·omega
 ·rcases ev4 with ⟨e1, e2⟩ | ev4
  ·rw [e1] at e2 ⊢
   rw [e2]; exact Vec.nil _ _ _ _
  ·refine V4.keep (by rw [next_upd]; omega) fun hl => ?_
   rw [obj_upd_ne _ _ (fun e => ev4.1 (by rw [e]; exact .inl rfl))]
   have := ev4.2
   exact keep5 eb (by omega) (by omega)
end
end Go.Proofs.YtlakhgibjfmjjaaGreat.Can
namespace Go.Proofs.YtlakhgibjfmjjaaGreat.Can
open Go
attribute [local congr] RunR_congr RunC_congr afterR_congr guardR_congr condQ_congr CALL_congr finQ_congr op_congr opg_congr
section
variable {h h' : Heap} {a : SrvA} {v : SrvV} {k : Nat} {A : CA} {c : CV}
set_option maxHeartbeats 4000000 in
theorem do_open (S : SrvAt h a v nilS none) (hA : a.cas[k]? = some A) (hc : v.cs[k]? = some c) (hw : c.w = false) (r n : Int) {Q : Value → Heap → Prop}
  (hQ : ∀ h', OldF (a.own none) h h' → SrvAt h' a { v.rd r with cs := v.cs.set k (cvOpen A.rr) } nilS none → Q (.agg #[.int .i64 0, .int .i64 0, nilS, nilS]) h') :
  CALL cp 15 [.pointer (some ⟨a.s, 0, none⟩), .agg #[.int .i64 0, .int .i64 r, .int .i64 k, .slice none 0 0, .int .i64 n, .slice none 0 0]] h Q := by
 rw [CALL_enter cp cp15]
 refine RunC_dfr (CP := cp) _ _ _ _ _ _ _ ?_
 have ck : k < a.cas.length := (List.getElem?_eq_some_iff.1 hA).1
 have cn := S.cn
 have ls := S.ls
 obtain ⟨h1, h1d⟩ : ∃ h1, h1 = ((h.new (.cells [.pointer (some ⟨a.s, 0, none⟩)] 35 .fix)).new (.cells [.int .i64 0, .int .i64 r, .int .i64 k, .slice none 0 0, .int .i64 n, .slice none 0 0] 45 .fix)).new (.cells [.int .i64 0, .int .i64 0, .slice none 0 0, .slice none 0 0] 42 .fix) := ⟨_, rfl⟩
 have o1 : Old h h1 := by rw [h1d]; exact (((Old.refl h).more _).more _).more _
 have n1 : h1.next = h.next + 1 + 1 + 1 := by rw [h1d]; rfl
 have p1 : h1.obj h.next = .cells [.pointer (some ⟨a.s, 0, none⟩)] 35 .fix := by rw [h1d, obj_new_ne _ _ (by simp only [next_new]; omega), obj_new_ne _ _ (by simp only [next_new]; omega)]; exact obj_new_same _ _
 have q1 : h1.obj (h.next + 1) = .cells [.int .i64 0, .int .i64 r, .int .i64 k, .slice none 0 0, .int .i64 n, .slice none 0 0] 45 .fix := by rw [h1d, obj_new_ne _ _ (by simp only [next_new]; omega)]; exact obj_new_same _ _
 have x1 : h1.obj (h.next + 1 + 1) = .cells [.int .i64 0, .int .i64 0, .slice none 0 0, .slice none 0 0] 42 .fix := by rw [h1d]; exact obj_new_same _ _
 have S1 := S.old o1
 simp (disch := omega) only [c15, ↓R15, ← h1d, p1, q1, x1, eqS, Int.reduceBEq, ↓dfrQ_n, ↓dfrQ_r, ↓RnP, RnQ, Nat.reduceEqDiff, Nat.reduceAdd, Nat.reduceMul, Nat.reduceSub, Nat.reduceLT, Nat.reduceLeDiff, Nat.reduceBEq, Int.reduceLT, Int.reduceLE, reduceCtorEq, Int.reduceToNat, Int.reduceAdd, Int.reduceSub, Int.reduceMul]
 refine clkRead_ok S1.os r fun h2 u o2 nx2 os2 => ?_
 have S2 : SrvAt h2 a (v.rd r) nilS none := S1.upS o2 os2
 have p2 := (o2.obj h.next (by omega) (by omega)).trans p1
 have q2 := (o2.obj (h.next + 1) (by omega) (by omega)).trans q1
 have x2 := (o2.obj (h.next + 1 + 1) (by omega) (by omega)).trans x1
 obtain ⟨cap2, hv2, hcb, hgp⟩ := S2.V.get (i := k) (p := A.x) (by rw [List.getElem?_map, hA]; rfl)
 have hgp : (h2.obj a.cb).get k = some (.pointer (some ⟨A.x, 0, none⟩)) := hgp
 rw [List.length_map] at hv2
 rw [hv2] at os2
 have b1 : decide ((0 : Int) < 0) = false := by decide
 have b2 : decide ((0 : Int) > 4) = false := by decide
 have b3 : decide ((k : Int) < 0) = false := decide_eq_false (by omega)
 have b4 : decide ((k : Int) ≥ (a.cas.length : Int)) = false := decide_eq_false (by omega)
 obtain ⟨h3, h3d⟩ : ∃ h3, h3 = (h2.new (.cells [.int .i64 0, .int .i64 0, .slice none 0 0, .slice none 0 0] 42 .fix)).upd h2.next (.cells [.int .i64 0, .int .i64 0, .slice none 0 0, .slice none 0 0] 42 .fix) := ⟨_, rfl⟩
 have o3 : Old h2 h3 := by rw [h3d]; exact ⟨Nat.le_succ _, fun z hz => by rw [obj_upd_ne _ _ (by omega), obj_new_ne _ _ (by omega)]⟩
 have n3 : h3.next = h2.next + 1 := by rw [h3d]; rfl
 have y3 : h3.obj h2.next = .cells [.int .i64 0, .int .i64 0, .slice none 0 0, .slice none 0 0] 42 .fix := by rw [h3d]; exact obj_upd_same _ _ _
 have p3 := (o3.obj h.next (by omega)).trans p2
 have q3 := (o3.obj (h.next + 1) (by omega)).trans q2
 have x3 := (o3.obj (h.next + 1 + 1) (by omega)).trans x2
 have S3 := S2.old o3
 have c3 := S3.C k A c (by simp) hA hc
 simp (disch := omega) only [c15, ↓R15, p2, q2, x2, os2, b1, b2, b3, b4, hgp, fillIn, ← h3d, p3, q3, x3, Int.reduceBEq, Nat.mul_one, ↓dfrQ_n, ↓dfrQ_r, ↓RnP, RnQ, Nat.reduceEqDiff, Nat.reduceAdd, Nat.reduceMul, Nat.reduceSub, Nat.reduceLT, Nat.reduceLeDiff, Nat.reduceBEq, Int.reduceLT, Int.reduceLE, reduceCtorEq, Int.reduceToNat, Int.reduceAdd, Int.reduceSub, Int.reduceMul]
 have oX3 : OldX a.s h h3 := ((o1.x _).trans o2).trans (o3.x _)
 have lt3 : ∀ z, a.own none z → z < h.next := fun z hz => S.lt hz
 have Alt : ∀ z, A.own z → a.own none z := fun z hz => .inr (.inr (.inr (.inr (.inl ⟨k, A, by simp, hA, hz⟩))))
 refine open_ok c3 hw fun h4 o4 c4 => ?_
 have n4 := o4.next
 have keep4 : ∀ z, h.next ≤ z → z < h3.next → h4.obj z = h3.obj z := fun z h1 h2 => o4.obj z h2 fun hz => by
  have := lt3 z (Alt z hz); omega
 have p4 := (keep4 h.next (by omega) (by omega)).trans p3
 have x4 := (keep4 (h.next + 1 + 1) (by omega) (by omega)).trans x3
 have y4 := (keep4 h2.next (by omega) (by omega)).trans y3
 have S4 := (S3.out k).keepC hA o4
 have os4 := S4.os
 simp (disch := omega) only [c15, ↓R15, p4, x4, y4, os4, nilS, ↓dfrE_r, ↓RnP, RnQ, Nat.reduceEqDiff, Nat.reduceAdd, Nat.reduceMul, Nat.reduceSub, Nat.reduceLT, Nat.reduceLeDiff, Nat.reduceBEq, Int.reduceLT, Int.reduceLE, reduceCtorEq, Int.reduceToNat, Int.reduceAdd, Int.reduceSub, Int.reduceMul]
 obtain ⟨h5, h5d⟩ : ∃ h5, h5 = (((h4.upd h2.next (.cells [.int .i64 0, .int .i64 0, .slice none 0 0, .slice none 0 0] 42 .fix)).upd (h.next + 1 + 1) (.cells [.int .i64 0, .int .i64 0, .slice none 0 0, .slice none 0 0] 42 .fix))) := ⟨_, rfl⟩
 have n5 : h5.next = h4.next := by rw [h5d]; rfl
 have keep5 : ∀ z, z ≠ h2.next → z ≠ h.next + 1 + 1 → h5.obj z = h4.obj z := fun z e1 e2 => by rw [h5d]; rw [obj_upd_ne _ _ e2, obj_upd_ne _ _ e1]
 have p5 := (keep5 h.next (by omega) (by omega)).trans p4
 have os5 := (keep5 a.s (by omega) (by omega)).trans os4
 have x5 : h5.obj (h.next + 1 + 1) = .cells [.int .i64 0, .int .i64 0, .slice none 0 0, .slice none 0 0] 42 .fix := by rw [h5d]; exact obj_upd_same _ _ _
 show CALL cp _ _ ((((h4.upd h2.next (.cells [.int .i64 0, .int .i64 0, .slice none 0 0, .slice none 0 0] 42 .fix)).upd (h.next + 1 + 1) (.cells [.int .i64 0, .int .i64 0, .slice none 0 0, .slice none 0 0] 42 .fix)))) _
 rw [← h5d, CALL_enter cp cp35]
 simp (disch := omega) only [c35, ↓R35, p5, os5, x5, ↓RnP, RnQ, Nat.reduceEqDiff, Nat.reduceAdd, Nat.reduceMul, Nat.reduceSub, Nat.reduceLT, Nat.reduceLeDiff, Nat.reduceBEq, Int.reduceLT, Int.reduceLE, reduceCtorEq, Int.reduceToNat, Int.reduceAdd, Int.reduceSub, Int.reduceMul]
 have o6 : OldX a.s h5 (h5.upd a.s (.cells (srvC (v.rd r).now (v.rd r).first (v.rd r).again (v.rd r).read a.bu a.cas.length a.ou a.crv a.cv a.rv nilS) 93 .fix)) := OldX.upd _ _ _
 have lt4 : ∀ z, a.own (some k) z → z < h.next := fun z hz => lt3 z (by
  rcases hz with hz | hz | hz | hz | ⟨i, A', he, hA2, hz⟩ | hz
  ·exact .inl hz
  ·exact .inr (.inl hz)
  ·exact .inr (.inr (.inl hz))
  ·exact .inr (.inr (.inr (.inl hz)))
  ·exact .inr (.inr (.inr (.inr (.inl ⟨i, A', by simp, hA2, hz⟩))))
  ·exact .inr (.inr (.inr (.inr (.inr hz)))))
 have S5 : SrvAt h5 a (v.rd r) nilS (some k) := S4.keep (by omega) fun z hz hl => by
  have := lt4 z hz
  exact keep5 z (by omega) (by omega)
 have S6 := S5.upS o6 (obj_upd_same _ _ _)
 have c5 := c4.keep (h' := h5) (by omega) fun z hz => keep5 z (by have := lt3 z (Alt z hz); omega) (by have := lt3 z (Alt z hz); omega)
 have tA : ¬ A.own a.s := fun hz => by have := S.tC k A a.s hA hz; rw [S.ts] at this; omega
 have c6 := c5.up o6 tA
 have oF : OldF (a.own none) h (h5.upd a.s (.cells (srvC (v.rd r).now (v.rd r).first (v.rd r).again (v.rd r).read a.bu a.cas.length a.ou a.crv a.cv a.rv nilS) 93 .fix)) := ⟨by rw [next_upd]; omega, fun z hz hn => by
  have hs : z ≠ a.s := fun e => hn (by rw [e]; exact .inl rfl)
  rw [obj_upd_ne _ _ hs, keep5 z (by omega) (by omega), o4.obj z (by omega) (fun hz' => hn (Alt z hz')), oX3.obj z hz hs]⟩
 exact hQ _ oF (S6.in_ hA c6)
set_option maxHeartbeats 4000000 in
theorem do_drain (S : SrvAt h a v nilS none) (hA : a.cas[k]? = some A) (hc : v.cs[k]? = some c) (hw : c.w = true) (r n : Int) {Q : Value → Heap → Prop}
  (hQ : ∀ h' u b, OldF (a.own none) h h' → SrvAt h' a { v.rd r with cs := v.cs.set k { c with qs := c.qs.drop n.toNat } } nilS none → Vec h' 5 B8 u (c.qs.take n.toNat) b → h.next ≤ b → Q (.agg #[.int .i64 0, .int .i64 0, u, nilS]) h') :
  CALL cp 15 [.pointer (some ⟨a.s, 0, none⟩), .agg #[.int .i64 3, .int .i64 r, .int .i64 k, .slice none 0 0, .int .i64 n, .slice none 0 0]] h Q := by
 rw [CALL_enter cp cp15]
 refine RunC_dfr (CP := cp) _ _ _ _ _ _ _ ?_
 have ck : k < a.cas.length := (List.getElem?_eq_some_iff.1 hA).1
 have cn := S.cn
 have ls := S.ls
 obtain ⟨h1, h1d⟩ : ∃ h1, h1 = ((h.new (.cells [.pointer (some ⟨a.s, 0, none⟩)] 35 .fix)).new (.cells [.int .i64 3, .int .i64 r, .int .i64 k, .slice none 0 0, .int .i64 n, .slice none 0 0] 45 .fix)).new (.cells [.int .i64 0, .int .i64 0, .slice none 0 0, .slice none 0 0] 42 .fix) := ⟨_, rfl⟩
 have o1 : Old h h1 := by rw [h1d]; exact (((Old.refl h).more _).more _).more _
 have n1 : h1.next = h.next + 1 + 1 + 1 := by rw [h1d]; rfl
 have p1 : h1.obj h.next = .cells [.pointer (some ⟨a.s, 0, none⟩)] 35 .fix := by rw [h1d, obj_new_ne _ _ (by simp only [next_new]; omega), obj_new_ne _ _ (by simp only [next_new]; omega)]; exact obj_new_same _ _
 have q1 : h1.obj (h.next + 1) = .cells [.int .i64 3, .int .i64 r, .int .i64 k, .slice none 0 0, .int .i64 n, .slice none 0 0] 45 .fix := by rw [h1d, obj_new_ne _ _ (by simp only [next_new]; omega)]; exact obj_new_same _ _
 have x1 : h1.obj (h.next + 1 + 1) = .cells [.int .i64 0, .int .i64 0, .slice none 0 0, .slice none 0 0] 42 .fix := by rw [h1d]; exact obj_new_same _ _
 have S1 := S.old o1
 simp (disch := omega) only [c15, ↓R15, ← h1d, p1, q1, x1, eqS, Int.reduceBEq, ↓dfrQ_n, ↓dfrQ_r, ↓RnP, RnQ, Nat.reduceEqDiff, Nat.reduceAdd, Nat.reduceMul, Nat.reduceSub, Nat.reduceLT, Nat.reduceLeDiff, Nat.reduceBEq, Int.reduceLT, Int.reduceLE, reduceCtorEq, Int.reduceToNat, Int.reduceAdd, Int.reduceSub, Int.reduceMul]
 refine clkRead_ok S1.os r fun h2 u o2 nx2 os2 => ?_
 have S2 : SrvAt h2 a (v.rd r) nilS none := S1.upS o2 os2
 have p2 := (o2.obj h.next (by omega) (by omega)).trans p1
 have q2 := (o2.obj (h.next + 1) (by omega) (by omega)).trans q1
 have x2 := (o2.obj (h.next + 1 + 1) (by omega) (by omega)).trans x1
 obtain ⟨cap2, hv2, hcb, hgp⟩ := S2.V.get (i := k) (p := A.x) (by rw [List.getElem?_map, hA]; rfl)
 have hgp : (h2.obj a.cb).get k = some (.pointer (some ⟨A.x, 0, none⟩)) := hgp
 rw [List.length_map] at hv2
 rw [hv2] at os2
 have b1 : decide ((3 : Int) < 0) = false := by decide
 have b2 : decide ((3 : Int) > 4) = false := by decide
 have b3 : decide ((k : Int) < 0) = false := decide_eq_false (by omega)
 have b4 : decide ((k : Int) ≥ (a.cas.length : Int)) = false := decide_eq_false (by omega)
 obtain ⟨h3, h3d⟩ : ∃ h3, h3 = (h2.new (.cells [.int .i64 0, .int .i64 0, .slice none 0 0, .slice none 0 0] 42 .fix)).upd h2.next (.cells [.int .i64 0, .int .i64 0, .slice none 0 0, .slice none 0 0] 42 .fix) := ⟨_, rfl⟩
 have o3 : Old h2 h3 := by rw [h3d]; exact ⟨Nat.le_succ _, fun z hz => by rw [obj_upd_ne _ _ (by omega), obj_new_ne _ _ (by omega)]⟩
 have n3 : h3.next = h2.next + 1 := by rw [h3d]; rfl
 have y3 : h3.obj h2.next = .cells [.int .i64 0, .int .i64 0, .slice none 0 0, .slice none 0 0] 42 .fix := by rw [h3d]; exact obj_upd_same _ _ _
 have p3 := (o3.obj h.next (by omega)).trans p2
 have q3 := (o3.obj (h.next + 1) (by omega)).trans q2
 have x3 := (o3.obj (h.next + 1 + 1) (by omega)).trans x2
 have S3 := S2.old o3
 have c3 := S3.C k A c (by simp) hA hc
 have fo := fun Q => isOpen_ok c3 Q
 rw [hw] at fo
 simp (disch := omega) only [c15, ↓R15, p2, q2, x2, os2, b1, b2, b3, b4, hgp, fillIn, ← h3d, p3, q3, x3, fo, Int.reduceBEq, Nat.mul_one, ↓dfrQ_n, ↓dfrQ_r, ↓RnP, RnQ, Nat.reduceEqDiff, Nat.reduceAdd, Nat.reduceMul, Nat.reduceSub, Nat.reduceLT, Nat.reduceLeDiff, Nat.reduceBEq, Int.reduceLT, Int.reduceLE, reduceCtorEq, Int.reduceToNat, Int.reduceAdd, Int.reduceSub, Int.reduceMul]
 have oX3 : OldX a.s h h3 := ((o1.x _).trans o2).trans (o3.x _)
 have lt3 : ∀ z, a.own none z → z < h.next := fun z hz => S.lt hz
 have Alt : ∀ z, A.own z → a.own none z := fun z hz => .inr (.inr (.inr (.inr (.inl ⟨k, A, by simp, hA, hz⟩))))
 refine drain_ok c3 hw n fun h4 u b oX4 hb V4 c4 => ?_
 have o4 : OldF A.own h3 h4 := oX4.f (.inr (.inl rfl))
 obtain ⟨ua, ucap, hu, _⟩ := V4.val
 obtain ⟨ul, hul⟩ : ∃ m, m = (c.qs.take n.toNat).length := ⟨_, rfl⟩
 rw [← hul] at hu
 subst hu
 have n4 := o4.next
 have keep4 : ∀ z, h.next ≤ z → z < h3.next → h4.obj z = h3.obj z := fun z h1 h2 => o4.obj z h2 fun hz => by
  have := lt3 z (Alt z hz); omega
 have p4 := (keep4 h.next (by omega) (by omega)).trans p3
 have x4 := (keep4 (h.next + 1 + 1) (by omega) (by omega)).trans x3
 have y4 := (keep4 h2.next (by omega) (by omega)).trans y3
 have S4 := (S3.out k).keepC hA o4
 have os4 := S4.os
 simp (disch := omega) only [c15, ↓R15, p4, x4, y4, os4, nilS, ↓dfrE_r, ↓RnP, RnQ, Nat.reduceEqDiff, Nat.reduceAdd, Nat.reduceMul, Nat.reduceSub, Nat.reduceLT, Nat.reduceLeDiff, Nat.reduceBEq, Int.reduceLT, Int.reduceLE, reduceCtorEq, Int.reduceToNat, Int.reduceAdd, Int.reduceSub, Int.reduceMul]
 obtain ⟨h5, h5d⟩ : ∃ h5, h5 = (((h4.upd h2.next (.cells [.int .i64 0, .int .i64 0, .slice ua ul ucap, .slice none 0 0] 42 .fix)).upd h2.next (.cells [.int .i64 0, .int .i64 0, .slice ua ul ucap, .slice none 0 0] 42 .fix)).upd (h.next + 1 + 1) (.cells [.int .i64 0, .int .i64 0, .slice ua ul ucap, .slice none 0 0] 42 .fix)) := ⟨_, rfl⟩
 have n5 : h5.next = h4.next := by rw [h5d]; rfl
 have keep5 : ∀ z, z ≠ h2.next → z ≠ h.next + 1 + 1 → h5.obj z = h4.obj z := fun z e1 e2 => by rw [h5d]; rw [obj_upd_ne _ _ e2, obj_upd_ne _ _ e1, obj_upd_ne _ _ e1]
 have p5 := (keep5 h.next (by omega) (by omega)).trans p4
 have os5 := (keep5 a.s (by omega) (by omega)).trans os4
 have x5 : h5.obj (h.next + 1 + 1) = .cells [.int .i64 0, .int .i64 0, .slice ua ul ucap, .slice none 0 0] 42 .fix := by rw [h5d]; exact obj_upd_same _ _ _
 show CALL cp _ _ ((((h4.upd h2.next (.cells [.int .i64 0, .int .i64 0, .slice ua ul ucap, .slice none 0 0] 42 .fix)).upd h2.next (.cells [.int .i64 0, .int .i64 0, .slice ua ul ucap, .slice none 0 0] 42 .fix)).upd (h.next + 1 + 1) (.cells [.int .i64 0, .int .i64 0, .slice ua ul ucap, .slice none 0 0] 42 .fix))) _
 rw [← h5d, CALL_enter cp cp35]
 simp (disch := omega) only [c35, ↓R35, p5, os5, x5, ↓RnP, RnQ, Nat.reduceEqDiff, Nat.reduceAdd, Nat.reduceMul, Nat.reduceSub, Nat.reduceLT, Nat.reduceLeDiff, Nat.reduceBEq, Int.reduceLT, Int.reduceLE, reduceCtorEq, Int.reduceToNat, Int.reduceAdd, Int.reduceSub, Int.reduceMul]
 have o6 : OldX a.s h5 (h5.upd a.s (.cells (srvC (v.rd r).now (v.rd r).first (v.rd r).again (v.rd r).read a.bu a.cas.length a.ou a.crv a.cv a.rv nilS) 93 .fix)) := OldX.upd _ _ _
 have lt4 : ∀ z, a.own (some k) z → z < h.next := fun z hz => lt3 z (by
  rcases hz with hz | hz | hz | hz | ⟨i, A', he, hA2, hz⟩ | hz
  ·exact .inl hz
  ·exact .inr (.inl hz)
  ·exact .inr (.inr (.inl hz))
  ·exact .inr (.inr (.inr (.inl hz)))
  ·exact .inr (.inr (.inr (.inr (.inl ⟨i, A', by simp, hA2, hz⟩))))
  ·exact .inr (.inr (.inr (.inr (.inr hz)))))
 have S5 : SrvAt h5 a (v.rd r) nilS (some k) := S4.keep (by omega) fun z hz hl => by
  have := lt4 z hz
  exact keep5 z (by omega) (by omega)
 have S6 := S5.upS o6 (obj_upd_same _ _ _)
 have c5 := c4.keep (h' := h5) (by omega) fun z hz => keep5 z (by have := lt3 z (Alt z hz); omega) (by have := lt3 z (Alt z hz); omega)
 have tA : ¬ A.own a.s := fun hz => by have := S.tC k A a.s hA hz; rw [S.ts] at this; omega
 have c6 := c5.up o6 tA
 have oF : OldF (a.own none) h (h5.upd a.s (.cells (srvC (v.rd r).now (v.rd r).first (v.rd r).again (v.rd r).read a.bu a.cas.length a.ou a.crv a.cv a.rv nilS) 93 .fix)) := ⟨by rw [next_upd]; omega, fun z hz hn => by
  have hs : z ≠ a.s := fun e => hn (by rw [e]; exact .inl rfl)
  rw [obj_upd_ne _ _ hs, keep5 z (by omega) (by omega), o4.obj z (by omega) (fun hz' => hn (Alt z hz')), oX3.obj z hz hs]⟩
 refine hQ _ _ b oF (S6.in_ hA c6) (V4.keep (by rw [next_upd]; omega) fun hl => ?_) (by omega)
 rw [obj_upd_ne _ _ (by omega)]
 exact keep5 b (by omega) (by omega)
end
end Go.Proofs.YtlakhgibjfmjjaaGreat.Can
namespace Go.Proofs.YtlakhgibjfmjjaaGreat.Can
open Go
attribute [local congr] RunR_congr RunC_congr afterR_congr guardR_congr condQ_congr CALL_congr finQ_congr op_congr opg_congr
theorem and7f (x : Int) (h0 : 0 ≤ x) (h1 : x < 256) : IntKind.u8.wrap ((BitVec.ofInt IntKind.u8.bits x &&& BitVec.ofInt IntKind.u8.bits 127).toNat : Int) = x % 128 := by
 have k : ∀ n : Nat, n < 256 → IntKind.u8.wrap ((BitVec.ofInt IntKind.u8.bits (n : Int) &&& BitVec.ofInt IntKind.u8.bits 127).toNat : Int) = (n : Int) % 128 := by decide +kernel
 have := k x.toNat (by omega)
 rwa [Int.toNat_of_nonneg h0] at this
def ans17 (ver rem ret : Int) : List Int := ver :: (encI rem ++ encI ret)
theorem ans17_len (ver rem ret : Int) : (ans17 ver rem ret).length = 17 := by simp [ans17, encI_len]
theorem ansB_eq (op ver rem ret : Int) : ansB op ver rem ret = 168 :: 1 :: 0 :: 18 :: (op + 128) :: ans17 ver rem ret := by
 unfold ansB wholeB ans17 encI
 have : (([op + 128, ver] ++ encN 8 (rem % 18446744073709551616)) ++ encN 8 (ret % 18446744073709551616)).length = 18 := by simp [encN_len]
 rw [this]
 simp
abbrev saidC (op ver rem ret : Int) : List Value := [.int .i64 op, .int .i64 0, .int .i64 ver, .int .i64 rem, .int .i64 ret, .int .i64 0, .int .i64 0, .int .i64 0, .int .i64 0, .int .i64 0, .slice none 0 0, .int .i64 0]
set_option maxHeartbeats 1000000 in
theorem saidRead_ok (h : Heap) (ps : Nat) (op : Int) (hop : op = 1 ∨ op = 2) (g : h.obj ps = .cells (saidC op 0 0 0) 66 .fix) (lp : ps < h.next) (v : Value) (ver rem ret : Int) (hv : 1 ≤ ver ∧ ver ≤ 3) (hrem : I64 rem) (hret : I64 ret) (s : Bys h v (ans17 ver rem ret)) (hps : ∀ b o n m, v = .slice (some ⟨b, o, none⟩) n m → b ≠ ps) {Q : Value → Heap → Prop}
  (hQ : ∀ h', OldX ps h h' → h'.obj ps = .cells (saidC op ver rem ret) 66 .fix → Q (.bool true) h') : CALL cp 47 [.pointer (some ⟨ps, 0, none⟩), v] h Q := by
 rw [CALL_enter cp cp47]
 have l17 := ans17_len ver rem ret
 have bt : Byts (ans17 ver rem ret) := fun x hx => by
  rcases List.mem_cons.1 hx with rfl | hx
  ·omega
  ·exact (encI_byts rem).app (encI_byts ret) x hx
 obtain ⟨b, o, cap, rfl, hcap, hb, hel, hr⟩ := s.at (by omega)
 have hbp := hps b o _ _ rfl
 obtain ⟨h1, h1d⟩ : ∃ h1, h1 = h.new (.cells [.slice (some ⟨b, o, none⟩) 17 cap] 39 .fix) := ⟨_, rfl⟩
 have o1 : Old h h1 := by rw [h1d]; exact (Old.refl h).more _
 have n1 : h1.next = h.next + 1 := by rw [h1d]; rfl
 have gb : h1.obj h.next = .cells [.slice (some ⟨b, o, none⟩) 17 cap] 39 .fix := by rw [h1d]; exact obj_new_same _ _
 have gp := (o1.obj ps lp).trans g
 have hel1 : (h1.obj b).elemOk 5 = true := by rw [o1.obj b hb]; exact hel
 have hr1 : (h1.obj b).read o (ans17 ver rem ret).length = some (B8.all (ans17 ver rem ret)) := by rw [o1.obj b hb]; exact hr
 have g0 := Bys.get (cap := cap) hr1 (i := 0) (x := ver) rfl
 rw [Nat.add_zero] at g0
 have S1 := Bys.sub (h := h1) (by omega) hel1 hr1 hcap 1 9 (by decide) (by omega)
 have S9 := Bys.sub (h := h1) (by omega) hel1 hr1 hcap 9 17 (by decide) (by omega)
 have e1 : ((ans17 ver rem ret).drop 1).take (9 - 1) = encI rem := by
  show (encI rem ++ encI ret).take 8 = _
  exact List.take_left' (encI_len rem)
 have e9 : ((ans17 ver rem ret).drop 9).take (17 - 9) = encI ret := by
  have : (ans17 ver rem ret).drop 9 = encI ret := by
   show (encI rem ++ encI ret).drop 8 = _
   exact List.drop_left' (encI_len rem)
  rw [this]; exact List.take_of_length_le (by rw [encI_len]; decide)
 rw [e1] at S1
 rw [e9] at S9
 have d1 : IntKind.i64.wrap (decN (encI rem)) = rem := decI_encI hrem
 have d9 : IntKind.i64.wrap (decN (encI ret)) = ret := decI_encI hret
 have wv : IntKind.i64.wrap ver = ver := by rw [wi64]; omega
 have v1 : decide (ver ≥ 1) = true := decide_eq_true (by omega)
 have v3 : decide (ver ≤ 3) = true := decide_eq_true (by omega)
 have hcap' : 17 ≤ cap := by omega
 have c17 : (((17 : Nat) : Int) == 17) = true := rfl
 rw [l17]
 rcases hop with rfl | rfl
 all_goals
  simp (disch := omega) only [c47, ↓R47, ← h1d, gb, gp, g0, v1, v3, wv, hel1, c17, Int.reduceBEq, Nat.mul_one, Nat.sub_zero, ↓RnP, RnQ, Nat.reduceEqDiff, Nat.reduceAdd, Nat.reduceMul, Nat.reduceSub, Nat.reduceLT, Nat.reduceLeDiff, Nat.reduceBEq, Int.reduceLT, Int.reduceLE, reduceCtorEq, Int.reduceToNat, Int.reduceAdd, Int.reduceSub, Int.reduceMul]
  refine num_ok h1 _ _ S1 (by rw [encI_len]; decide) (encI_byts _) ?_
  simp (disch := omega) only [c47, ↓R47, gb, gp, g0, d1, hel1, Nat.mul_one, Nat.sub_zero, ↓RnP, RnQ, Nat.reduceEqDiff, Nat.reduceAdd, Nat.reduceMul, Nat.reduceSub, Nat.reduceLT, Nat.reduceLeDiff, Nat.reduceBEq, Int.reduceLT, Int.reduceLE, reduceCtorEq, Int.reduceToNat, Int.reduceAdd, Int.reduceSub, Int.reduceMul]
  refine num_ok h1 _ _ S9 (by rw [encI_len]; decide) (encI_byts _) ?_
  simp (disch := omega) only [c47, ↓R47, gb, gp, g0, d9, fillIn, ↓RnP, RnQ, Nat.reduceEqDiff, Nat.reduceAdd, Nat.reduceMul, Nat.reduceSub, Nat.reduceLT, Nat.reduceLeDiff, Nat.reduceBEq, Int.reduceLT, Int.reduceLE, reduceCtorEq, Int.reduceToNat, Int.reduceAdd, Int.reduceSub, Int.reduceMul]
  exact hQ _ ((o1.x ps).trans (OldX.upd _ _ _)) (obj_upd_same _ _ _)
set_option maxHeartbeats 1000000 in
theorem readAns_ok (h : Heap) (op : Int) (hop : op = 1 ∨ op = 2) (v : Value) (ver rem ret : Int) (hv : 1 ≤ ver ∧ ver ≤ 3) (hrem : I64 rem) (hret : I64 ret) (s : Bys h v (ansB op ver rem ret)) {Q : Value → Heap → Prop}
  (hQ : ∀ h', Old h h' → Q (.tuple #[.agg (saidC op ver rem ret).toArray, .int .i64 22, .bool true]) h') : CALL cp 21 [v] h Q := by
 rw [CALL_enter cp cp21]
 have l22 := ansB_len op ver rem ret
 have eq := ansB_eq op ver rem ret
 obtain ⟨b, o, cap, rfl, hcap, hb, hel, hr⟩ := s.at (by omega)
 obtain ⟨h1, h1d⟩ : ∃ h1, h1 = h.new (.cells (saidC 0 0 0 0) 66 .fix) := ⟨_, rfl⟩
 have o1 : Old h h1 := by rw [h1d]; exact (Old.refl h).more _
 have n1 : h1.next = h.next + 1 := by rw [h1d]; rfl
 have g1 : h1.obj h.next = .cells (saidC 0 0 0 0) 66 .fix := by rw [h1d]; exact obj_new_same _ _
 have hel1 : (h1.obj b).elemOk 5 = true := by rw [o1.obj b hb]; exact hel
 have hr1 : (h1.obj b).read o (ansB op ver rem ret).length = some (B8.all (ansB op ver rem ret)) := by rw [o1.obj b hb]; exact hr
 have x0 := Bys.get (cap := cap) hr1 (i := 0) (x := 168) (by rw [eq]; rfl)
 rw [Nat.add_zero] at x0
 have x1 := Bys.get (cap := cap) hr1 (i := 1) (x := 1) (by rw [eq]; rfl)
 have x4 := Bys.get (cap := cap) hr1 (i := 4) (x := op + 128) (by rw [eq]; rfl)
 have S2 := Bys.sub (h := h1) (by omega) hel1 hr1 hcap 2 4 (by decide) (by omega)
 have e2 : ((ansB op ver rem ret).drop 2).take (4 - 2) = [0, 18] := by rw [eq]; rfl
 rw [e2] at S2
 have e5 : ((ansB op ver rem ret).drop 5).take (22 - 5) = ans17 ver rem ret := by
  rw [eq]
  show (ans17 ver rem ret).take 17 = _
  exact List.take_of_length_le (by rw [ans17_len]; decide)
 have w18 : IntKind.i64.wrap (decN [0, 18]) = 18 := by decide
 have a7 := and7f (op + 128) (by omega) (by omega)
 have aop : (op + 128) % 128 = op := by omega
 rw [aop] at a7
 have wop : IntKind.i64.wrap op = op := by rw [wi64]; omega
 have k128 : decide (op + 128 < 128) = false := decide_eq_false (by omega)
 have k6 : decide (((22 : Nat) : Int) < 6) = false := by decide
 have k22 : decide (((22 : Nat) : Int) < 22) = false := by decide
 have k226 : decide ((22 : Int) < 6) = false := by decide
 have hcap' : 22 ≤ cap := by omega
 have b168 : ((168 : Int) != 168) = false := rfl
 have b1 : ((1 : Int) != 1) = false := rfl
 obtain ⟨h2, h2d⟩ : ∃ h2, h2 = (h1.new (.cells (saidC 0 0 0 0) 66 .fix)).upd h1.next (.cells (saidC op 0 0 0) 66 .fix) := ⟨_, rfl⟩
 have o2 : Old h1 h2 := by rw [h2d]; exact ⟨Nat.le_succ _, fun z hz => by rw [obj_upd_ne _ _ (by omega), obj_new_ne _ _ (by omega)]⟩
 have n2 : h2.next = h1.next + 1 := by rw [h2d]; rfl
 have gp : h2.obj h1.next = .cells (saidC op 0 0 0) 66 .fix := by rw [h2d]; exact obj_upd_same _ _ _
 have g2 := (o2.obj h.next (by omega)).trans g1
 have hel2 : (h2.obj b).elemOk 5 = true := by rw [o2.obj b (by omega)]; exact hel1
 have hr2 : (h2.obj b).read o (ansB op ver rem ret).length = some (B8.all (ansB op ver rem ret)) := by rw [o2.obj b (by omega)]; exact hr1
 have S5 := Bys.sub (h := h2) (by omega) hel2 hr2 hcap 5 22 (by decide) (by omega)
 rw [e5] at S5
 rw [l22]
 simp (disch := omega) only [c21, ↓R21, ← h1d, g1, x0, x1, x4, k6, b168, b1, hel1, Nat.mul_one, ↓RnP, RnQ, Nat.reduceEqDiff, Nat.reduceAdd, Nat.reduceMul, Nat.reduceSub, Nat.reduceLT, Nat.reduceLeDiff, Nat.reduceBEq, Int.reduceLT, Int.reduceLE, reduceCtorEq, Int.reduceToNat, Int.reduceAdd, Int.reduceSub, Int.reduceMul]
 refine num_ok h1 _ _ S2 (by decide) (by intro y hy; simp at hy; omega) ?_
 simp (disch := omega) only [c21, ↓R21, g1, x4, w18, k22, k226, k128, a7, wop, fillIn, ← h2d, hel2, Nat.mul_one, ↓RnP, RnQ, Nat.reduceEqDiff, Nat.reduceAdd, Nat.reduceMul, Nat.reduceSub, Nat.reduceLT, Nat.reduceLeDiff, Nat.reduceBEq, Int.reduceLT, Int.reduceLE, reduceCtorEq, Int.reduceToNat, Int.reduceAdd, Int.reduceSub, Int.reduceMul]
 refine saidRead_ok h2 h1.next op hop gp (by omega) _ ver rem ret hv hrem hret S5 (fun b' o' n' m' e => by
  simp only [Value.slice.injEq, Option.some.injEq, Addr.mk.injEq] at e
  omega) fun h3 o3 q3 => ?_
 have g3 := (o3.obj h.next (by omega) (by omega)).trans g2
 simp (disch := omega) only [c21, ↓R21, g3, q3, ↓RnP, RnQ, Nat.reduceEqDiff, Nat.reduceAdd, Nat.reduceMul, Nat.reduceSub, Nat.reduceLT, Nat.reduceLeDiff, Nat.reduceBEq, Int.reduceLT, Int.reduceLE, reduceCtorEq, Int.reduceToNat, Int.reduceAdd, Int.reduceSub, Int.reduceMul]
 exact hQ _ ⟨by rw [next_upd]; have := o3.next; omega, fun z hz => by rw [obj_upd_ne _ _ (by omega), o3.obj z (by omega) (by omega), o2.obj z (by omega), o1.obj z hz]⟩
end Go.Proofs.YtlakhgibjfmjjaaGreat.Can
namespace Go.Proofs.YtlakhgibjfmjjaaGreat.Can
open Go
attribute [local congr] RunR_congr RunC_congr afterR_congr guardR_congr condQ_congr CALL_congr finQ_congr op_congr opg_congr
def planR (p : RuleT) : RuleV :=
 { L := p.1 % 32 + 1, Wd := (p.2.1 % 32 + 1) * (p.2.2.2.1 % 8 + 1), B := (p.2.2.1 % 32) % (p.1 % 32 + 1) + 1, S := (p.2.2.2.1 % 8 + 1).toNat, C := (p.2.2.2.2.1 % 8 + 1).toNat, R := (p.2.2.2.2.2.1 % 4 + 1).toNat,
   W := (p.2.2.2.2.2.2.1 % 16 + 1).toNat, T := (p.2.2.2.2.2.2.2.1 % 8 + 1).toNat, sm := p.2.2.2.2.2.2.2.2 && decide (p.2.2.2.1 % 8 + 1 > 1) }
theorem planR_ok (p : RuleT) : (planR p).OK := by
 obtain ⟨l, w, b, s, c, r, d, t, m⟩ := p
 have hb : 0 ≤ (b % 32) % (l % 32 + 1) ∧ (b % 32) % (l % 32 + 1) < l % 32 + 1 := ⟨Int.emod_nonneg _ (by omega), Int.emod_lt_of_pos _ (by omega)⟩
 obtain ⟨s', hs⟩ : ∃ s' : Nat, s % 8 = s' := ⟨(s % 8).toNat, by omega⟩
 obtain ⟨w', hw⟩ : ∃ w' : Nat, w % 32 = w' := ⟨(w % 32).toNat, by omega⟩
 have hp : 1 * 1 ≤ (w % 32 + 1) * (s % 8 + 1) := Int.mul_le_mul (by omega) (by omega) (by omega) (by omega)
 have hp2 : (w % 32 + 1) * (s % 8 + 1) ≤ 32 * 8 := Int.mul_le_mul (by omega) (by omega) (by omega) (by omega)
 refine ⟨?_, ?_, ?_, ?_, ?_, ?_, ?_, ?_, ?_, ?_⟩
 ·show 1 ≤ l % 32 + 1 ∧ l % 32 + 1 ≤ 32; omega
 ·show 1 ≤ (w % 32 + 1) * (s % 8 + 1) ∧ (w % 32 + 1) * (s % 8 + 1) ≤ 256; omega
 ·show 1 ≤ (b % 32) % (l % 32 + 1) + 1 ∧ (b % 32) % (l % 32 + 1) + 1 ≤ l % 32 + 1; omega
 ·show 1 ≤ (s % 8 + 1).toNat ∧ (s % 8 + 1).toNat ≤ 8; omega
 ·show ((w % 32 + 1) * (s % 8 + 1)) % (((s % 8 + 1).toNat : Nat) : Int) = 0
  rw [Int.toNat_of_nonneg (by omega)]; exact Int.mul_emod_left _ _
 ·show 1 ≤ (c % 8 + 1).toNat ∧ (c % 8 + 1).toNat ≤ 8; omega
 ·show 1 ≤ (r % 4 + 1).toNat ∧ (r % 4 + 1).toNat ≤ 4; omega
 ·show 1 ≤ (d % 16 + 1).toNat ∧ (d % 16 + 1).toNat ≤ 16; omega
 ·show 1 ≤ (t % 8 + 1).toNat ∧ (t % 8 + 1).toNat ≤ 8; omega
 ·intro h
  have h : (m && decide (s % 8 + 1 > 1)) = true := h
  rw [Bool.and_eq_true] at h
  have := of_decide_eq_true h.2
  show 2 ≤ (s % 8 + 1).toNat
  omega
set_option maxHeartbeats 1000000 in
theorem planRule_ok (h : Heap) (p : RuleT) {Q : Value → Heap → Prop} (hQ : ∀ h', Old h h' → Q (.agg (planR p).c.toArray) h') : CALL cp 30 [.agg (RE.enc p).toArray] h Q := by
 obtain ⟨l, w, b, s, c, r, d, t, m⟩ := p
 show CALL cp 30 [.agg #[.int .i64 l, .int .i64 w, .int .i64 b, .int .i64 s, .int .i64 c, .int .i64 r, .int .i64 d, .int .i64 t, .bool m]] h Q
 rw [CALL_enter cp cp30]
 have m31 := fun x => and_i64 5 (by decide) x 31 (by decide)
 have m15 := fun x => and_i64 4 (by decide) x 15 (by decide)
 have m7 := fun x => and_i64 3 (by decide) x 7 (by decide)
 have m3 := fun x => and_i64 2 (by decide) x 3 (by decide)
 obtain ⟨l', hl, l1⟩ : ∃ y, l % 2 ^ 5 = y ∧ 0 ≤ y ∧ y ≤ 31 := ⟨_, rfl, by omega, by omega⟩
 obtain ⟨w', hw, w1⟩ : ∃ y, w % 2 ^ 5 = y ∧ 0 ≤ y ∧ y ≤ 31 := ⟨_, rfl, by omega, by omega⟩
 obtain ⟨b', hb, b1⟩ : ∃ y, b % 2 ^ 5 = y ∧ 0 ≤ y ∧ y ≤ 31 := ⟨_, rfl, by omega, by omega⟩
 obtain ⟨s', hs, s1⟩ : ∃ y, s % 2 ^ 3 = y ∧ 0 ≤ y ∧ y ≤ 7 := ⟨_, rfl, by omega, by omega⟩
 obtain ⟨c', hc, c1⟩ : ∃ y, c % 2 ^ 3 = y ∧ 0 ≤ y ∧ y ≤ 7 := ⟨_, rfl, by omega, by omega⟩
 obtain ⟨r', hr, r1⟩ : ∃ y, r % 2 ^ 2 = y ∧ 0 ≤ y ∧ y ≤ 3 := ⟨_, rfl, by omega, by omega⟩
 obtain ⟨d', hd, d1⟩ : ∃ y, d % 2 ^ 4 = y ∧ 0 ≤ y ∧ y ≤ 15 := ⟨_, rfl, by omega, by omega⟩
 obtain ⟨t', ht, t1⟩ : ∃ y, t % 2 ^ 3 = y ∧ 0 ≤ y ∧ y ≤ 7 := ⟨_, rfl, by omega, by omega⟩
 have n0 : (l' + 1 = 0) = False := eq_false (by omega)
 have tm : Int.tmod b' (l' + 1) = b' % (l' + 1) := tmod_nn _ _ b1.1
 have hbb : 0 ≤ b' % (l' + 1) ∧ b' % (l' + 1) < l' + 1 := ⟨Int.emod_nonneg _ (by omega), Int.emod_lt_of_pos _ (by omega)⟩
 have hp : 1 * 1 ≤ (w' + 1) * (s' + 1) := Int.mul_le_mul (by omega) (by omega) (by omega) (by omega)
 have hp2 : (w' + 1) * (s' + 1) ≤ 32 * 8 := Int.mul_le_mul (by omega) (by omega) (by omega) (by omega)
 have e : RuleV.c (planR (l, w, b, s, c, r, d, t, m)) = [.int .i64 (l' + 1), .int .i64 ((w' + 1) * (s' + 1)), .int .i64 (b' % (l' + 1) + 1), .int .i64 (s' + 1), .int .i64 (c' + 1), .int .i64 (r' + 1), .int .i64 (d' + 1), .int .i64 (t' + 1), .bool (m && decide (s' + 1 > 1))] := by
  have q1 : l % 32 = l' := hl
  have q2 : w % 32 = w' := hw
  have q3 : b % 32 = b' := hb
  have q4 : s % 8 = s' := hs
  have q5 : c % 8 = c' := hc
  have q6 : r % 4 = r' := hr
  have q7 : d % 16 = d' := hd
  have q8 : t % 8 = t' := ht
  simp only [RuleV.c, planR, q1, q2, q3, q4, q5, q6, q7, q8]
  rw [Int.toNat_of_nonneg (by omega), Int.toNat_of_nonneg (by omega), Int.toNat_of_nonneg (by omega), Int.toNat_of_nonneg (by omega), Int.toNat_of_nonneg (by omega)]
 rw [e] at hQ
 have ob : ∃ h1, h1 = (h.new (.cells [.int .i64 l, .int .i64 w, .int .i64 b, .int .i64 s, .int .i64 c, .int .i64 r, .int .i64 d, .int .i64 t, .bool m] 23 .fix)).new (.cells [.int .i64 0, .int .i64 0, .int .i64 0, .int .i64 0, .int .i64 0, .int .i64 0, .int .i64 0, .int .i64 0, .bool false] 34 .fix) := ⟨_, rfl⟩
 obtain ⟨h1, h1d⟩ := ob
 have o1 : Old h h1 := by rw [h1d]; exact ((Old.refl h).more _).more _
 have n1 : h1.next = h.next + 1 + 1 := by rw [h1d]; rfl
 have g1 : h1.obj h.next = .cells [.int .i64 l, .int .i64 w, .int .i64 b, .int .i64 s, .int .i64 c, .int .i64 r, .int .i64 d, .int .i64 t, .bool m] 23 .fix := by rw [h1d, obj_new_ne _ _ (by simp only [next_new]; omega)]; exact obj_new_same _ _
 have g2 : h1.obj (h.next + 1) = .cells [.int .i64 0, .int .i64 0, .int .i64 0, .int .i64 0, .int .i64 0, .int .i64 0, .int .i64 0, .int .i64 0, .bool false] 34 .fix := by rw [h1d]; exact obj_new_same (h.new _) _
 cases m with
 | false =>
  simp (maxSteps := 1000000) (disch := omega) only [c30, ↓R30, ← h1d, g1, g2, m31, m15, m7, m3, hl, hw, hb, hs, hc, hr, hd, ht, n0, tm, fillIn, ↓RnP, RnQ, Nat.reduceEqDiff, Nat.reduceAdd, Nat.reduceMul, Nat.reduceSub, Nat.reduceLT, Nat.reduceLeDiff, Nat.reduceBEq, Int.reduceLT, Int.reduceLE, reduceCtorEq, Int.reduceToNat, Int.reduceAdd, Int.reduceSub, Int.reduceMul]
  exact hQ _ ⟨by simp only [next_upd, next_new]; omega, fun z hz => by rw [obj_upd_ne _ _ (by omega), obj_upd_ne _ _ (by omega), obj_upd_ne _ _ (by omega), obj_new_ne _ _ (by omega), o1.obj z hz]⟩
 | true =>
  simp (maxSteps := 1000000) (disch := omega) only [c30, ↓R30, ← h1d, g1, g2, m31, m15, m7, m3, hl, hw, hb, hs, hc, hr, hd, ht, n0, tm, fillIn, ↓RnP, RnQ, Nat.reduceEqDiff, Nat.reduceAdd, Nat.reduceMul, Nat.reduceSub, Nat.reduceLT, Nat.reduceLeDiff, Nat.reduceBEq, Int.reduceLT, Int.reduceLE, reduceCtorEq, Int.reduceToNat, Int.reduceAdd, Int.reduceSub, Int.reduceMul]
  exact hQ _ ⟨by simp only [next_upd, next_new]; omega, fun z hz => by rw [obj_upd_ne _ _ (by omega), obj_upd_ne _ _ (by omega), obj_upd_ne _ _ (by omega), obj_new_ne _ _ (by omega), o1.obj z hz]⟩
abbrev PlCall := Int × Int × ByteArray × Bool
abbrev PlCallE : Enc PlCall := Enc.pair (Enc.int .i64) (Enc.pair (Enc.int .i64) (Enc.pair Enc.str Enc.bool))
def LightL (l : List PlCall) : Prop := l.length ≤ 150 ∧ ∀ c ∈ l, c.2.2.1.size ≤ 64
instance (l : List PlCall) : Decidable (LightL l) := by unfold LightL; infer_instance
theorem light_ok (h : Heap) (v : Value) (l : List PlCall) (hs : Lst h PlCallE v l) (hz : ∀ c ∈ l, c.2.2.1.size ≤ maxLen) {Q : Value → Heap → Prop}
  (hQ : ∀ h', Old h h' → Q (.bool (decide (LightL l))) h') : CALL cp 12 [v] h Q := by
 rw [CALL_enter cp cp12]
 obtain ⟨a, cap, rfl, hrd⟩ := hs
 have no : ¬ LightL l → ∀ h', Old h h' → Q (.bool false) h' := fun hn h' o => by
  have := hQ h' o
  rwa [decide_eq_false hn] at this
 by_cases c1 : (l.length : Int) > 150
 ·have b1 := decide_eq_true c1
  simp (disch := omega) only [c12, ↓R12, b1, ↓RnP, RnQ, Nat.reduceEqDiff, Nat.reduceAdd, Nat.reduceMul, Nat.reduceSub, Nat.reduceLT, Nat.reduceLeDiff, Nat.reduceBEq, Int.reduceLT, Int.reduceLE, reduceCtorEq, Int.reduceToNat, Int.reduceAdd, Int.reduceSub, Int.reduceMul]
  exact no (fun q => by have := q.1; omega) _ (Old.refl h)
 have b1 := decide_eq_false c1
 simp (disch := omega) only [c12, ↓R12, b1, ↓RnP, RnQ, Nat.reduceEqDiff, Nat.reduceAdd, Nat.reduceMul, Nat.reduceSub, Nat.reduceLT, Nat.reduceLeDiff, Nat.reduceBEq, Int.reduceLT, Int.reduceLE, reduceCtorEq, Int.reduceToNat, Int.reduceAdd, Int.reduceSub, Int.reduceMul]
 refine RunC_loop cp c12_l0 _ (fun d e hh => ∃ j : Nat, j + d = l.length ∧ Old h hh ∧ (∀ c ∈ l.take j, c.2.2.1.size ≤ 64) ∧ e 8 = .slice a l.length cap ∧ e 9 = .int .i64 l.length ∧ e 10 = .int .i64 j) ?_ l.length _ _
  ⟨0, by omega, Old.refl _, fun c hc => by simp at hc, rfl, rfl, rfl⟩
 rintro d e hh ⟨j, hj, o, hk, e8, e9, e10⟩
 have on := o.next
 by_cases cj : j < l.length
 rotate_left
 ·have b2 : decide ((j : Int) < (l.length : Int)) = false := decide_eq_false (by omega)
  obtain rfl : j = l.length := by omega
  rw [List.take_length] at hk
  simp (disch := omega) only [c12_l0, c12, ↓R12, e8, e9, e10, b2, ↓RnP, RnQ, Nat.reduceEqDiff, Nat.reduceAdd, Nat.reduceMul, Nat.reduceSub, Nat.reduceLT, Nat.reduceLeDiff, Nat.reduceBEq, Int.reduceLT, Int.reduceLE, reduceCtorEq, Int.reduceToNat, Int.reduceAdd, Int.reduceSub, Int.reduceMul]
  have := hQ hh o
  rwa [decide_eq_true ⟨by omega, hk⟩] at this
 have b2 : decide ((j : Int) < (l.length : Int)) = true := decide_eq_true (by omega)
 have nx : (j : Int) + 1 = ((j + 1 : Nat) : Int) := by omega
 have hx : l[j]? = some l[j] := List.getElem?_eq_getElem cj
 obtain ⟨x, hxd⟩ : ∃ x, x = l[j] := ⟨_, rfl⟩
 rw [← hxd] at hx
 have tk := take_get hx
 obtain ⟨b, of, rfl, hb, hr⟩ := hrd j x hx
 rw [← o.obj b hb] at hr
 have hmem := List.mem_of_getElem? hx
 have hsz := hz x hmem
 obtain ⟨g, co, key, pk⟩ := x
 have hr : (hh.obj b).read (of + j * 4) 4 = some [.int .i64 g, .int .i64 co, .string key, .bool pk] := hr
 simp only at hsz
 have oo : Old h ((hh.new (.cells [.int .i64 0, .int .i64 0, .string ⟨#[]⟩, .bool false] 48 .fix)).upd hh.next (.cells [.int .i64 g, .int .i64 co, .string key, .bool pk] 48 .fix)) := o.put _ _
 by_cases c2 : (key.size : Int) > 64
 ·have b3 := decide_eq_true c2
  simp (disch := omega) only [c12_l0, c12, ↓R12, e8, e9, e10, b2, hr, b3, ↓RnP, RnQ, Nat.reduceEqDiff, Nat.reduceAdd, Nat.reduceMul, Nat.reduceSub, Nat.reduceLT, Nat.reduceLeDiff, Nat.reduceBEq, Int.reduceLT, Int.reduceLE, reduceCtorEq, Int.reduceToNat, Int.reduceAdd, Int.reduceSub, Int.reduceMul]
  exact no (fun q => by have := q.2 _ hmem; simp only at this; omega) _ oo
 have b3 := decide_eq_false c2
 simp (disch := omega) only [c12_l0, c12, ↓R12, e8, e9, e10, b2, hr, b3, nx, ↓RnP, RnQ, Nat.reduceEqDiff, Nat.reduceAdd, Nat.reduceMul, Nat.reduceSub, Nat.reduceLT, Nat.reduceLeDiff, Nat.reduceBEq, Int.reduceLT, Int.reduceLE, reduceCtorEq, Int.reduceToNat, Int.reduceAdd, Int.reduceSub, Int.reduceMul]
 refine ⟨d - 1, by omega, j + 1, by omega, oo, ?_, ?_⟩
 ·rw [tk]
  intro c hc
  rcases List.mem_append.1 hc with hc | hc
  ·exact hk c hc
  ·rw [List.mem_singleton.1 hc]; show key.size ≤ 64; omega
 ·repeat' first | assumption | rfl | apply And.intro
end Go.Proofs.YtlakhgibjfmjjaaGreat.Can
namespace Go.Proofs.YtlakhgibjfmjjaaGreat.Can
open Go
attribute [local congr] RunR_congr RunC_congr afterR_congr guardR_congr condQ_congr CALL_congr finQ_congr op_congr opg_congr
def planRs (l : List RuleT) : List RuleV := if l = [] then [planR (0, 0, 0, 0, 0, 0, 0, 0, false)] else (l.take 3).map planR
theorem planRs_ok (l : List RuleT) : (∀ r ∈ planRs l, r.OK) ∧ 1 ≤ (planRs l).length ∧ (planRs l).length ≤ 3 := by
 unfold planRs
 split
 ·refine ⟨fun r hr => ?_, by simp, by simp⟩
  rw [List.mem_singleton.1 hr]; exact planR_ok _
 ·rename_i h
  have : 0 < l.length := List.length_pos_iff.2 h
  refine ⟨fun r hr => ?_, by simp; omega, by simp; omega⟩
  obtain ⟨p, _, rfl⟩ := List.mem_map.1 hr
  exact planR_ok p
theorem RuleV.OK.t {r : RuleV} (ok : r.OK) : RuleT.OK r.t ∧ r.t.T ≤ 8 ∧ RuleT.by_ r.t ≤ 30000 ∧ 0 ≤ RuleT.by_ r.t := by
 have h1 := ok.L
 have h2 := ok.Wd
 have h3 := ok.B
 have h4 := ok.S
 have h5 := ok.C
 have h6 := ok.R
 have h7 := ok.W
 have h8 := ok.T
 have cr := ceilD_range r.Wd (r.L + 1 - r.B) (by omega) (by omega)
 have p0 : r.B * ceilD r.Wd (r.L + 1 - r.B) ≤ 32 * 256 := Int.mul_le_mul (by omega) (by omega) (by omega) (by omega)
 have q0 : (0 : Int) ≤ (r.R : Int) * (r.W : Int) := Int.mul_nonneg (by omega) (by omega)
 have q1 : (r.R : Int) * (r.W : Int) ≤ 4 * 16 := Int.mul_le_mul (by omega) (by omega) (by omega) (by omega)
 have q2 : ((r.S : Int) + 1) * (16 + 8 * ((r.R : Int) * (r.W : Int))) ≤ 9 * 528 := Int.mul_le_mul (by omega) (by omega) (by omega) (by omega)
 have q3 : 0 ≤ ((r.S : Int) + 1) * (16 + 8 * ((r.R : Int) * (r.W : Int))) := Int.mul_nonneg (by omega) (by omega)
 refine ⟨⟨by show 1 ≤ r.L ∧ r.L ≤ _; omega, by show 1 ≤ r.Wd ∧ r.Wd ≤ _; omega, h3, by show 1 ≤ (r.S : Int) ∧ (r.S : Int) ≤ 64; omega, ok.Sd, by show 1 ≤ (r.C : Int) ∧ (r.C : Int) ≤ 1024; omega, by show 1 ≤ (r.R : Int) ∧ (r.R : Int) ≤ 8; omega, by show 1 ≤ (r.W : Int) ∧ (r.W : Int) ≤ 4096; omega, by show 1 ≤ (r.T : Int) ∧ (r.T : Int) ≤ 64; omega, fun h => ?_, ?_⟩, ?_, ?_, ?_⟩
 ·have := ok.sm h
  show 2 ≤ (r.S : Int); omega
 ·show r.B * ceilD r.Wd (r.L + 1 - r.B) ≤ _
  omega
 ·show (r.T : Int) ≤ 8; omega
 ·show ruleBytes r.S r.C r.R r.W r.T ≤ _
  unfold ruleBytes; omega
 ·show 0 ≤ ruleBytes r.S r.C r.R r.W r.T
  unfold ruleBytes; omega
theorem sumB_small : ∀ (l : List RuleV), (∀ r ∈ l, r.OK) → 0 ≤ sumB (l.map RuleV.t) ∧ sumB (l.map RuleV.t) ≤ 30000 * l.length
 | [], _ => by simp [sumB]
 | r :: l, h => by
  have := (h r List.mem_cons_self).t
  have := sumB_small l fun r hr => h r (List.mem_cons_of_mem _ hr)
  simp only [List.map_cons, sumB, List.length_cons]
  omega
theorem cfgSmall (l : List RuleV) (h : ∀ r ∈ l, r.OK) (hl : 1 ≤ l.length ∧ l.length ≤ 3) (k : Int) (hk : 0 ≤ k ∧ k ≤ 255) : CfgOK 4294967296 (3 : Nat) ((660 + k).toNat : Nat) (l.map RuleV.t) := by
 have := sumB_small l h
 rw [show (((660 + k).toNat : Nat) : Int) = 660 + k by omega]
 refine ⟨by decide, by rw [List.length_map]; omega, by decide, by omega, fun r hr => ?_, by show (3 : Int) * (660 + k) + _ ≤ _; omega⟩
 obtain ⟨x, hx, rfl⟩ := List.mem_map.1 hr
 have := (h x hx).t
 exact ⟨this.1, by omega⟩
set_option maxHeartbeats 2000000 in
theorem config_ok (h : Heap) (v : Value) (l : List RuleT) (hs : Lst h RE v l) (hl : l.length ≤ 9007199254740992) (out : Int) {Q : Value → Heap → Prop}
  (hQ : ∀ h' v' b, Old h h' → Vec h' 34 RE v' ((planRs l).map RuleV.t) b → h.next ≤ b → Q (.agg #[.int .i64 4294967296, .int .i64 3, .int .i64 (660 + out % 256), v']) h') :
  CALL cp 13 [v, .int .i64 out] h Q := by
 rw [CALL_enter cp cp13]
 obtain ⟨a, cap, rfl, hrd⟩ := hs
 have m8 : IntKind.i64.wrap ((BitVec.ofInt IntKind.i64.bits out &&& BitVec.ofInt IntKind.i64.bits 255).toNat : Int) = out % 256 := and_i64 8 (by decide) out 255 (by decide)
 obtain ⟨ou, hou⟩ : ∃ ou, ou = 660 + out % 256 := ⟨_, rfl⟩
 have oub : 660 ≤ ou ∧ ou ≤ 915 := by omega
 rw [← hou] at hQ
 obtain ⟨c0, hc0⟩ : ∃ c0 : Value → List Value, c0 = fun v => [.int .i64 4294967296, .int .i64 3, .int .i64 ou, v] := ⟨_, rfl⟩
 obtain ⟨h1, h1d⟩ : ∃ h1, h1 = ((h.new (.cells [.int .i64 0, .int .i64 0, .int .i64 0, .slice none 0 0] 30 .fix)).new (.cells [.int .i64 0, .int .i64 0, .int .i64 0, .slice none 0 0] 30 .fix)).upd (h.next + 1) (.cells [.int .i64 4294967296, .int .i64 3, .int .i64 (660 + out % 256), .slice none 0 0] 30 .fix) := ⟨_, rfl⟩
 have o1 : Old h h1 := by rw [h1d]; exact ⟨by simp only [next_upd, next_new]; omega, fun z hz => by rw [obj_upd_ne _ _ (by omega), obj_new_ne _ _ (by simp only [next_new]; omega), obj_new_ne _ _ (by omega)]⟩
 have n1 : h1.next = h.next + 1 + 1 := by rw [h1d]; rfl
 have g1 : h1.obj h.next = .cells [.int .i64 0, .int .i64 0, .int .i64 0, .slice none 0 0] 30 .fix := by rw [h1d, obj_upd_ne _ _ (by omega), obj_new_ne _ _ (by simp only [next_new]; omega)]; exact obj_new_same _ _
 have g2 : h1.obj (h.next + 1) = .cells [.int .i64 4294967296, .int .i64 3, .int .i64 ou, .slice none 0 0] 30 .fix := by rw [h1d, hou]; exact obj_upd_same _ _ _
 simp (disch := first | omega | (simp only [next_new, next_upd, ne_eq]; omega)) only [c13, ↓R13, m8, fillIn, ← h1d, ↓RnP, RnQ, Nat.reduceEqDiff, Nat.reduceAdd, Nat.reduceMul, Nat.reduceSub, Nat.reduceLT, Nat.reduceLeDiff, Nat.reduceBEq, Int.reduceLT, Int.reduceLE, reduceCtorEq, Int.reduceToNat, Int.reduceAdd, Int.reduceSub, Int.reduceMul]
 have fin : ∀ (hh : Heap) (v' : Value) (b : Nat) (ll : List RuleV), ll = planRs l → Old h hh → h.next + 1 < hh.next → h.next + 1 < b → hh.obj h.next = .cells [.int .i64 0, .int .i64 0, .int .i64 0, .slice none 0 0] 30 .fix → hh.obj (h.next + 1) = .cells [.int .i64 4294967296, .int .i64 3, .int .i64 ou, v'] 30 .fix →
   Vec hh 34 RE v' (ll.map RuleV.t) b → Q (.agg #[.int .i64 4294967296, .int .i64 3, .int .i64 ou, v']) (hh.upd h.next (.cells [.int .i64 4294967296, .int .i64 3, .int .i64 ou, v'] 30 .fix)) := fun hh v' b ll e o hn hb k1 k2 V => by
  subst e
  exact hQ _ _ b ⟨o.next, fun z hz => by rw [obj_upd_ne _ _ (by omega)]; exact o.obj z hz⟩ (V.keep (Nat.le_refl _) fun _ => obj_upd_ne _ _ (by omega)) (by omega)
 refine RunC_loop cp c13_l0 _ (fun d e hh => ∃ (j b : Nat) (v' : Value), j + d = l.length ∧ Old h hh ∧ h.next + 1 < hh.next ∧ h.next + 1 < b ∧ hh.obj h.next = .cells [.int .i64 0, .int .i64 0, .int .i64 0, .slice none 0 0] 30 .fix ∧ hh.obj (h.next + 1) = .cells [.int .i64 4294967296, .int .i64 3, .int .i64 ou, v'] 30 .fix ∧
   Vec hh 34 RE v' ((((l.take j).take 3).map planR).map RuleV.t) b ∧ e 4 = .pointer (some ⟨h.next, 0, none⟩) ∧ e 5 = .pointer (some ⟨h.next + 1, 0, none⟩) ∧ e 12 = .slice a l.length cap ∧ e 13 = .int .i64 l.length ∧ e 14 = .int .i64 j) ?_ l.length _ _
  ⟨0, h.next + 2, .slice none 0 0, by omega, o1, by omega, by omega, g1, g2, Vec.nil _ _ _ _, rfl, rfl, rfl, rfl, rfl⟩
 rintro d e hh ⟨j, b, v', hj, o, hn, hb, k1, k2, V, e4, e5, e12, e13, e14⟩
 have on := o.next
 by_cases cj : j < l.length
 ·have b2 : decide ((j : Int) < (l.length : Int)) = true := decide_eq_true (by omega)
  have nx : (j : Int) + 1 = ((j + 1 : Nat) : Int) := by omega
  have hx : l[j]? = some l[j] := List.getElem?_eq_getElem cj
  obtain ⟨x, hxd⟩ : ∃ x, x = l[j] := ⟨_, rfl⟩
  rw [← hxd] at hx
  have tk := take_get hx
  obtain ⟨bx, of, rfl, hbx, hr⟩ := hrd j x hx
  rw [← o.obj bx hbx] at hr
  obtain ⟨xl, xw, xb, xs, xc, xr, xd, xt, xm⟩ := x
  have hr : (hh.obj bx).read (of + j * 9) 9 = some [.int .i64 xl, .int .i64 xw, .int .i64 xb, .int .i64 xs, .int .i64 xc, .int .i64 xr, .int .i64 xd, .int .i64 xt, .bool xm] := hr
  obtain ⟨h2, h2d⟩ : ∃ h2, h2 = (hh.new (.cells [.int .i64 0, .int .i64 0, .int .i64 0, .int .i64 0, .int .i64 0, .int .i64 0, .int .i64 0, .int .i64 0, .bool false] 23 .fix)).upd hh.next (.cells [.int .i64 xl, .int .i64 xw, .int .i64 xb, .int .i64 xs, .int .i64 xc, .int .i64 xr, .int .i64 xd, .int .i64 xt, .bool xm] 23 .fix) := ⟨_, rfl⟩
  have o2 : Old hh h2 := by rw [h2d]; exact (Old.refl hh).put _ _
  have n2 : h2.next = hh.next + 1 := by rw [h2d]; rfl
  have q2 : h2.obj hh.next = .cells [.int .i64 xl, .int .i64 xw, .int .i64 xb, .int .i64 xs, .int .i64 xc, .int .i64 xr, .int .i64 xd, .int .i64 xt, .bool xm] 23 .fix := by rw [h2d]; exact obj_upd_same _ _ _
  have k1' := (o2.obj h.next (by omega)).trans k1
  have k2' := (o2.obj (h.next + 1) (by omega)).trans k2
  by_cases c3 : j < 3
  rotate_left
  ·have b3 : decide ((j : Int) < 3) = false := decide_eq_false (by omega)
   simp (disch := omega) only [c13_l0, c13, ↓R13, e4, e5, e12, e13, e14, b2, b3, hr, ← h2d, nx, ↓RnP, RnQ, Nat.reduceEqDiff, Nat.reduceAdd, Nat.reduceMul, Nat.reduceSub, Nat.reduceLT, Nat.reduceLeDiff, Nat.reduceBEq, Int.reduceLT, Int.reduceLE, reduceCtorEq, Int.reduceToNat, Int.reduceAdd, Int.reduceSub, Int.reduceMul]
   refine ⟨d - 1, by omega, j + 1, b, v', by omega, o.trans o2, by omega, hb, k1', k2', ?_, ?_⟩
   ·rw [List.take_take, show min 3 (j + 1) = 3 by omega]
    rw [List.take_take, show min 3 j = 3 by omega] at V
    exact V.old o2
   ·repeat' first | assumption | rfl | apply And.intro
  have b3 : decide ((j : Int) < 3) = true := decide_eq_true (by omega)
  simp (disch := omega) only [c13_l0, c13, ↓R13, e4, e5, e12, e13, e14, b2, b3, hr, ← h2d, q2, k1', k2', nx, ↓RnP, RnQ, Nat.reduceEqDiff, Nat.reduceAdd, Nat.reduceMul, Nat.reduceSub, Nat.reduceLT, Nat.reduceLeDiff, Nat.reduceBEq, Int.reduceLT, Int.reduceLE, reduceCtorEq, Int.reduceToNat, Int.reduceAdd, Int.reduceSub, Int.reduceMul]
  refine planRule_ok h2 (xl, xw, xb, xs, xc, xr, xd, xt, xm) fun h3 o3 => ?_
  have n3 := o3.next
  have k13 := (o3.obj h.next (by omega)).trans k1'
  have k23 := (o3.obj (h.next + 1) (by omega)).trans k2'
  obtain ⟨R, hR⟩ : ∃ R, R = planR (xl, xw, xb, xs, xc, xr, xd, xt, xm) := ⟨_, rfl⟩
  rw [← hR]
  have tl : (R.c.toArray).toList = R.c := rfl
  have sc : R.c.all scalar = true := rfl
  have ln : R.c.length = 9 := rfl
  have st : setAt [.int .i64 0, .int .i64 0, .int .i64 0, .int .i64 0, .int .i64 0, .int .i64 0, .int .i64 0, .int .i64 0, .bool false] 0 R.c = RE.all [R.t] := rfl
  have V3 := (V.old (o2.trans o3)).keep (h' := h3.new (.cells (RE.all [R.t]) 34 .grow)) (Nat.le_succ _) fun hl => obj_new_ne _ _ (by omega)
  have ll3 : ((((l.take j).take 3).map planR).map RuleV.t).length ≤ 3 := by simp only [List.length_map, List.length_take]; omega
  simp (disch := omega) only [c13, ↓R13, k13, k23, fillIn, tl, sc, ln, st, reps, List.append_nil, ↓RnP, RnQ, Nat.reduceEqDiff, Nat.reduceAdd, Nat.reduceMul, Nat.reduceSub, Nat.reduceLT, Nat.reduceLeDiff, Nat.reduceBEq, Int.reduceLT, Int.reduceLE, reduceCtorEq, Int.reduceToNat, Int.reduceAdd, Int.reduceSub, Int.reduceMul]
  refine V3.app (m := [R.t]) (bytes := 72) rfl (src_enc RE h3 R.t 34 1) (by simp only [List.length_cons, List.length_nil]; omega) (by simp only [List.length_cons, List.length_nil]; omega) fun v4 h4 b4 V4 n4 hb4 o4 => ?_
  have n4' : h3.next + 1 ≤ h4.next := n4
  obtain ⟨va4, vc4, hv4, _⟩ := V4.val
  obtain ⟨ln4, hln4⟩ : ∃ n, n = (((((l.take j).take 3).map planR).map RuleV.t) ++ [R.t]).length := ⟨_, rfl⟩
  rw [← hln4] at hv4
  subst hv4
  have keep4 : ∀ z, z < h3.next → z ≠ b → h4.obj z = h3.obj z := fun z hz hne => by rw [o4 z (by show z < h3.next + 1; omega) (.inr hne), obj_new_ne _ _ (by omega)]
  have k14 := (keep4 h.next (by omega) (by omega)).trans k13
  have k24 := (keep4 (h.next + 1) (by omega) (by omega)).trans k23
  have b4g : h.next + 1 < b4 := by
   rcases hb4 with rfl | hb4
   ·exact hb
   ·have : h3.next + 1 ≤ b4 := hb4
    omega
  simp (disch := omega) only [c13, ↓R13, e4, e5, e12, e13, e14, k24, nx, ↓RnP, RnQ, Nat.reduceEqDiff, Nat.reduceAdd, Nat.reduceMul, Nat.reduceSub, Nat.reduceLT, Nat.reduceLeDiff, Nat.reduceBEq, Int.reduceLT, Int.reduceLE, reduceCtorEq, Int.reduceToNat, Int.reduceAdd, Int.reduceSub, Int.reduceMul]
  refine ⟨d - 1, by omega, j + 1, b4, .slice va4 ln4 vc4, by omega, ⟨by show h.next ≤ h4.next; omega, fun z hz => ?_⟩, by show h.next + 1 < h4.next; omega, b4g, ?_, by first | exact obj_upd_same _ _ _ | rfl, ?_, ?_⟩
  ·rw [obj_upd_ne _ _ (by omega), keep4 z (by omega) (by omega), o3.obj z (by omega), o2.obj z (by omega), o.obj z hz]
  ·first | exact k14 | (rw [obj_upd_ne _ _ (by omega)]; exact k14)
  ·have e1 : (((l.take (j + 1)).take 3).map planR).map RuleV.t = (((l.take j).take 3).map planR).map RuleV.t ++ [R.t] := by
    rw [List.take_take, show min 3 (j + 1) = j + 1 by omega, List.take_take, show min 3 j = j by omega, tk, hR]
    simp
   rw [e1]
   exact V4.keep (Nat.le_refl _) fun _ => obj_upd_ne _ _ (by omega)
  ·repeat' first | assumption | rfl | apply And.intro
 have b2 : decide ((j : Int) < (l.length : Int)) = false := decide_eq_false (by omega)
 obtain rfl : j = l.length := by omega
 rw [List.take_length] at V
 by_cases c0 : l = []
 rotate_left
 ·have lp := List.length_pos_iff.2 c0
  obtain ⟨va, vc, rfl, _⟩ := V.val
  have lz : ((l.take 3).length : Int) ≠ 0 := by simp only [List.length_take]; omega
  have b3 : (((l.take 3).length : Int) == 0) = false := beq_eq_false_iff_ne.2 lz
  simp (disch := omega) only [c13_l0, c13, ↓R13, e4, e5, e12, e13, e14, b2, b3, k1, k2, ↓RnP, RnQ, Nat.reduceEqDiff, Nat.reduceAdd, Nat.reduceMul, Nat.reduceSub, Nat.reduceLT, Nat.reduceLeDiff, Nat.reduceBEq, Int.reduceLT, Int.reduceLE, reduceCtorEq, Int.reduceToNat, Int.reduceAdd, Int.reduceSub, Int.reduceMul]
  rw [List.length_map, List.length_map] at k2 V
  refine fin hh _ b _ ?_ o hn hb k1 k2 V
  unfold planRs; rw [if_neg c0]
 ·subst c0
  obtain ⟨va, vc, rfl, _⟩ := V.val
  have b2 : decide (((0 : Nat) : Int) < ((0 : Nat) : Int)) = false := by decide
  have b3 : (((([] : List RuleT).take 3).length : Int) == 0) = true := rfl
  have b4 : (((0 : Nat) : Int) == 0) = true := rfl
  simp (disch := omega) only [c13_l0, c13, ↓R13, e4, e5, e12, e13, e14, b2, b3, b4, k1, k2, fillIn, ↓RnP, RnQ, Nat.reduceEqDiff, Nat.reduceAdd, Nat.reduceMul, Nat.reduceSub, Nat.reduceLT, Nat.reduceLeDiff, Nat.reduceBEq, Int.reduceLT, Int.reduceLE, reduceCtorEq, Int.reduceToNat, Int.reduceAdd, Int.reduceSub, Int.reduceMul]
  refine planRule_ok hh (0, 0, 0, 0, 0, 0, 0, 0, false) fun h3 o3 => ?_
  have n3 := o3.next
  have k13 := (o3.obj h.next (by omega)).trans k1
  have k23 := (o3.obj (h.next + 1) (by omega)).trans k2
  obtain ⟨R, hR⟩ : ∃ R, R = planR (0, 0, 0, 0, 0, 0, 0, 0, false) := ⟨_, rfl⟩
  rw [← hR]
  have tl : (R.c.toArray).toList = R.c := rfl
  have sc : R.c.all scalar = true := rfl
  have ln : R.c.length = 9 := rfl
  have st : setAt [.int .i64 0, .int .i64 0, .int .i64 0, .int .i64 0, .int .i64 0, .int .i64 0, .int .i64 0, .int .i64 0, .bool false] 0 R.c = RE.all [R.t] := rfl
  have V3 := (V.old o3).keep (h' := h3.new (.cells (RE.all [R.t]) 34 .grow)) (Nat.le_succ _) fun hl => obj_new_ne _ _ (by omega)
  simp (disch := omega) only [c13, ↓R13, k13, k23, fillIn, tl, sc, ln, st, reps, List.append_nil, ↓RnP, RnQ, Nat.reduceEqDiff, Nat.reduceAdd, Nat.reduceMul, Nat.reduceSub, Nat.reduceLT, Nat.reduceLeDiff, Nat.reduceBEq, Int.reduceLT, Int.reduceLE, reduceCtorEq, Int.reduceToNat, Int.reduceAdd, Int.reduceSub, Int.reduceMul]
  refine V3.app (m := [R.t]) (bytes := 72) rfl (src_enc RE h3 R.t 34 1) (by simp) (by simp) fun v4 h4 b4 V4 n4 hb4 o4 => ?_
  have n4' : h3.next + 1 ≤ h4.next := n4
  obtain ⟨va4, vc4, hv4, _⟩ := V4.val
  obtain ⟨ln4, hln4⟩ : ∃ n, n = ((((([] : List RuleT).take 3).map planR).map RuleV.t) ++ [R.t]).length := ⟨_, rfl⟩
  rw [← hln4] at hv4
  subst hv4
  have keep4 : ∀ z, z < h3.next → z ≠ b → h4.obj z = h3.obj z := fun z hz hne => by rw [o4 z (by show z < h3.next + 1; omega) (.inr hne), obj_new_ne _ _ (by omega)]
  have k14 := (keep4 h.next (by omega) (by omega)).trans k13
  have k24 := (keep4 (h.next + 1) (by omega) (by omega)).trans k23
  have b4g : h.next + 1 < b4 := by
   rcases hb4 with rfl | hb4
   ·exact hb
   ·have : h3.next + 1 ≤ b4 := hb4
    omega
  obtain ⟨h5, h5d⟩ : ∃ h5, h5 = h4.upd (h.next + 1) (.cells [.int .i64 4294967296, .int .i64 3, .int .i64 ou, (.slice va4 ln4 vc4)] 30 .fix) := ⟨_, rfl⟩
  have n5 : h5.next = h4.next := by rw [h5d]; rfl
  have k25 : h5.obj (h.next + 1) = .cells [.int .i64 4294967296, .int .i64 3, .int .i64 ou, (.slice va4 ln4 vc4)] 30 .fix := by rw [h5d]; exact obj_upd_same _ _ _
  have k15 : h5.obj h.next = .cells [.int .i64 0, .int .i64 0, .int .i64 0, .slice none 0 0] 30 .fix := by rw [h5d, obj_upd_ne _ _ (by omega)]; exact k14
  simp (disch := omega) only [c13, ↓R13, e4, e5, e12, e13, e14, k24, ← h5d, k25, k15, ↓RnP, RnQ, Nat.reduceEqDiff, Nat.reduceAdd, Nat.reduceMul, Nat.reduceSub, Nat.reduceLT, Nat.reduceLeDiff, Nat.reduceBEq, Int.reduceLT, Int.reduceLE, reduceCtorEq, Int.reduceToNat, Int.reduceAdd, Int.reduceSub, Int.reduceMul]
  refine fin h5 (.slice va4 ln4 vc4) b4 [R] (by rw [hR]; rfl) ⟨by omega, fun z hz => ?_⟩ (by omega) b4g k15 k25 ?_
  ·rw [h5d, obj_upd_ne _ _ (by omega), keep4 z (by omega) (by omega), o3.obj z (by omega), o.obj z hz]
  ·exact V4.keep (by omega) fun _ => by rw [h5d]; exact obj_upd_ne _ _ (by omega)
theorem srvRule_ok {h : Heap} {a : SrvA} {v : SrvV} {ev : Value} {ex : Option Nat} (S : SrvAt h a v ev ex) {i : Nat} {L : LA} (hL : a.las[i]? = some L) (Q : Value → Heap → Prop) :
  CALL cp 27 [.pointer (some ⟨a.s, 0, none⟩), .int .i64 i] h Q ↔ Q (.pointer (some ⟨L.p, 0, none⟩)) h := by
 refine CALL_det ?_ Q
 rw [CALL_enter cp cp27]
 have os := S.os
 obtain ⟨cap, hv, hrb, hgp⟩ := S.W.get (i := i) (p := L.p) (by rw [List.getElem?_map, hL]; rfl)
 have hgp : (h.obj a.rb).get i = some (.pointer (some ⟨L.p, 0, none⟩)) := hgp
 have hi := (List.getElem?_eq_some_iff.1 hL).1
 rw [List.length_map] at hv
 rw [hv] at os
 have b1 : decide ((i : Int) < 0) = false := decide_eq_false (by omega)
 have b2 : decide ((i : Int) ≥ (a.las.length : Int)) = false := decide_eq_false (by omega)
 simp (disch := omega) only [c27, ↓R27, eqS, os, b1, b2, hgp, Nat.mul_one, ↓RnP, RnQ, Nat.reduceEqDiff, Nat.reduceAdd, Nat.reduceMul, Nat.reduceSub, Nat.reduceLT, Nat.reduceLeDiff, Nat.reduceBEq, Int.reduceLT, Int.reduceLE, reduceCtorEq, Int.reduceToNat, Int.reduceAdd, Int.reduceSub, Int.reduceMul]
end Go.Proofs.YtlakhgibjfmjjaaGreat.Can
namespace Go.Proofs.YtlakhgibjfmjjaaGreat.Can
open Go
def sameA : Option Addr → Option Addr → Bool
 | none, none => true
 | some a, some b => Nat.beq a.block b.block && Nat.beq a.off b.off && a.spot.isNone && b.spot.isNone
 | _, _ => false
def sameSc : Value → Value → Bool
 | .bool a, .bool b => a == b
 | .int k n, .int k' n' => decide (k = k') && decide (n = n')
 | .string s, .string t => decide (s.data.toList = t.data.toList)
 | .pointer a, .pointer b => sameA a b
 | .slice a n c, .slice b m d => sameA a b && Nat.beq n m && Nat.beq c d
 | .map none, .map none => true
 | .map (some a), .map (some b) => Nat.beq a b
 | .nilFunc, .nilFunc => true
 | .nilIface, .nilIface => true
 | _, _ => false
def sameLs : List Value → List Value → Bool
 | [], [] => true
 | a :: x, b :: y => sameSc a b && sameLs x y
 | _, _ => false
def sameVb : Value → Value → Bool
 | .agg a, .agg b => sameLs a.toList b.toList
 | .tuple a, .tuple b => sameLs a.toList b.toList
 | a, b => sameSc a b
theorem sameA_eq {a b : Option Addr} (h : sameA a b = true) : a = b := by
 unfold sameA at h
 split at h
 ·rfl
 ·rename_i x y
  obtain ⟨b1, o1, s1⟩ := x
  obtain ⟨b2, o2, s2⟩ := y
  simp only [Bool.and_eq_true, Option.isNone_iff_eq_none] at h
  obtain ⟨⟨⟨h1, h2⟩, rfl⟩, rfl⟩ := h
  rw [Nat.eq_of_beq_eq_true h1, Nat.eq_of_beq_eq_true h2]
 ·simp at h
theorem sameSc_eq {a b : Value} (h : sameSc a b = true) : a = b := by
 unfold sameSc at h
 split at h
 ·simpa using h
 ·simp only [Bool.and_eq_true, decide_eq_true_eq] at h; rw [h.1, h.2]
 ·rename_i s t
  simp only [decide_eq_true_eq] at h
  have : s.data = t.data := Array.toList_inj.1 h
  obtain ⟨s⟩ := s
  obtain ⟨t⟩ := t
  rw [show s = t from this]
 ·rw [sameA_eq h]
 ·simp only [Bool.and_eq_true] at h
  rw [sameA_eq h.1.1, Nat.eq_of_beq_eq_true h.1.2, Nat.eq_of_beq_eq_true h.2]
 ·rfl
 ·rw [Nat.eq_of_beq_eq_true h]
 ·rfl
 ·rfl
 ·simp at h
theorem sameLs_eq : ∀ {a b : List Value}, sameLs a b = true → a = b
 | [], [], _ => rfl
 | a :: x, b :: y, h => by
  simp only [sameLs, Bool.and_eq_true] at h
  rw [sameSc_eq h.1, sameLs_eq h.2]
 | [], _ :: _, h => by simp [sameLs] at h
 | _ :: _, [], h => by simp [sameLs] at h
theorem sameVb_eq {a b : Value} (h : sameVb a b = true) : a = b := by
 unfold sameVb at h
 split at h
 ·rename_i x y; rw [Array.toList_inj.1 (sameLs_eq h)]
 ·rename_i x y; rw [Array.toList_inj.1 (sameLs_eq h)]
 ·exact sameSc_eq h
def readK (o : COp) : Bool := match kindC o with
 | .read | .pure => true
 | _ => false
def HoldsC (h : Heap) (o : COp) (v : Value) : Bool := readK o && match cop o h with
 | some (u, _) => sameVb u v
 | none => false
def HoldsB (g : Option (Value × Bool)) (h : Heap) (o : COp) (v : Value) : Bool :=
 match g with
 | none => HoldsC h o v
 | some (x, w) => (match wantV x w with | some false => true | _ => false) || HoldsC h o v
theorem holdsC {h : Heap} {o : COp} {v : Value} (hb : HoldsC h o v = true) : cop o h = some (v, h) := by
 unfold HoldsC at hb
 simp only [Bool.and_eq_true] at hb
 obtain ⟨h1, h2⟩ := hb
 split at h2
 ·rename_i u h' hc
  rw [sameVb_eq h2] at hc
  have : h' = h := by
   unfold readK at h1
   split at h1
   ·rename_i hk; exact kind_read hk hc
   ·rename_i hk; exact (kind_pure hk hc).1
   ·simp at h1
  rw [hc, this]
 ·simp at h2
theorem holdsB {g : Option (Value × Bool)} {h : Heap} {o : COp} {v : Value} (hb : HoldsB g h o v = true) : Holds g h o v := by
 unfold HoldsB at hb
 unfold Holds
 split at hb
 ·exact holdsC hb
 ·rename_i x w
  simp only [Bool.or_eq_true] at hb
  rcases hb with hb | hb
  ·left
   split at hb
   ·assumption
   ·simp at hb
  ·right; exact holdsC hb
def evRb (call : CallFn) : Reg → Heap → Option (Env × Heap)
 | .done e, h => some (e, h)
 | .op o k, h => match evOp call o h with
  | some (v, h') => evRb call (k v) h'
  | none => none
 | .opg g w o k, h => match wantV g w with
  | some true => match evOp call o h with
   | some (v, h') => evRb call (k v) h'
   | none => none
  | some false => evRb call (k (.tuple #[])) h
  | none => none
 | .snap k, h => evRb call (k h) h
 | .chk g hj o v k, h => match HoldsB g (hj.getD h) o v with
  | true => evRb call k h
  | false => none
theorem evRb_le (call : CallFn) (l : Reg) : ∀ h, LeO (evRb call l h) (evR call l h) := by
 induction l with
 | done e => intro h r hr; exact hr
 | op o k ih =>
  intro h r hr
  simp only [evRb, evR] at hr ⊢
  split at hr
  ·rename_i v h' he; rw [he]; exact ih v h' r hr
  ·simp at hr
 | opg g w o k ih =>
  intro h r hr
  simp only [evRb, evR] at hr ⊢
  split at hr
  ·rename_i hw
   rw [hw]
   simp only
   split at hr
   ·rename_i v h' he; rw [he]; exact ih v h' r hr
   ·simp at hr
  ·rename_i hw; rw [hw]; exact ih _ h r hr
  ·simp at hr
 | snap k ih => intro h r hr; exact ih h h r hr
 | chk g hj o v k ih =>
  intro h r hr
  simp only [evRb, evR] at hr ⊢
  split at hr
  ·rename_i hb
   rw [if_pos (holdsB hb)]
   exact ih h r hr
  ·simp at hr
def evCb (call : CallFn) (N : Nat) : CC → Env → Heap → Option (X × Env × Heap)
 | .skip, e, h => some (.normal, e, h)
 | .region r, e, h => (evRb call (r e) h).map fun r => (.normal, r.1, r.2)
 | .seq a b, e, h => match evCb call N a e h with
  | some (.normal, e', h') => evCb call N b e' h'
  | r => r
 | .cond c t f, e, h => match c e with
  | .bool true => evCb call N t e h
  | .bool false => evCb call N f e h
  | _ => none
 | .block id b, e, h => match evCb call N b e h with
  | some (.exit i, e', h') => if i = id then some (.normal, e', h') else some (.exit i, e', h')
  | r => r
 | .loop b, e, h => iter (evCb call N b) N e h
 | .exit id, e, h => some (.exit id, e, h)
 | .ret, e, h => some (.ret, e, h)
 | .bad, _, _ => none
 | .dfr pre g caps post, e, h => match evCb call N pre e h with
  | some (.normal, e1, h1) => match evCb call N post e1 h1 with
   | some (.normal, e2, h2) | some (.ret, e2, h2) => (call g (caps e1) h2).map fun r => (.ret, e2, r.2)
   | _ => none
  | some (.ret, e1, h1) => some (.ret, e1, h1)
  | _ => none
theorem evCb_le (call : CallFn) (N : Nat) (x : CC) : ∀ e h, LeO (evCb call N x e h) (evC call N x e h) := by
 induction x with
 | skip => intro e h r hr; exact hr
 | region ops =>
  intro e h r hr
  simp only [evCb, evC, Option.map_eq_some_iff] at hr ⊢
  obtain ⟨a, ha, rfl⟩ := hr
  exact ⟨a, evRb_le _ _ _ _ ha, rfl⟩
 | seq a b iha ihb =>
  intro e h r hr
  simp only [evCb, evC] at hr ⊢
  cases hx : evCb call N a e h with
  | none => rw [hx] at hr; exact absurd hr (by simp)
  | some y =>
   rw [hx] at hr; rw [iha _ _ _ hx]
   obtain ⟨x, e', h'⟩ := y
   cases x with
   | normal => exact ihb _ _ _ hr
   | exit i => exact hr
   | ret => exact hr
 | cond t a b iha ihb =>
  intro e h r hr
  simp only [evCb, evC] at hr ⊢
  split at hr
  ·rename_i hc; rw [hc]; exact iha _ _ _ hr
  ·rename_i hc; rw [hc]; exact ihb _ _ _ hr
  ·exact absurd hr (by simp)
 | block id b ih =>
  intro e h r hr
  simp only [evCb, evC] at hr ⊢
  cases hx : evCb call N b e h with
  | none => rw [hx] at hr; exact absurd hr (by simp)
  | some y => rw [hx] at hr; rw [ih _ _ _ hx]; exact hr
 | loop b ih => intro e h r hr; exact iter_mono (fun e h => ih e h) N N (Nat.le_refl _) e h r hr
 | exit id => intro e h r hr; exact hr
 | ret => intro e h r hr; exact hr
 | bad => intro e h r hr; exact hr
 | dfr pre g caps post iha ihb =>
  intro e h r hr
  simp only [evCb, evC] at hr ⊢
  cases hx : evCb call N pre e h with
  | none => rw [hx] at hr; exact absurd hr (by simp)
  | some y =>
   rw [hx] at hr; rw [iha _ _ _ hx]
   obtain ⟨x, e', h'⟩ := y
   cases x with
   | normal =>
    simp only at hr ⊢
    cases hy : evCb call N post e' h' with
    | none => rw [hy] at hr; exact absurd hr (by simp)
    | some z => rw [hy] at hr; rw [ihb _ _ _ hy]; exact hr
   | exit i => exact hr
   | ret => exact hr
def evFb (CP : CProg) : Nat → CallFn
 | 0, _, _, _ => none
 | n + 1, f, args, h => match CP f with
  | none => none
  | some fn => match evCb (evFb CP n) n fn.body (initE args) h with
   | some (.normal, e, h') => (resultsV e h' fn.results).map fun v => (v, h')
   | some (.ret, e, h') => (resultsV e h' fn.results).map fun v => (v, h')
   | _ => none
theorem evFb_le (CP : CProg) : ∀ n, LeC (evFb CP n) (evF CP n)
 | 0 => fun f a h r hr => absurd hr (by simp [evFb])
 | n + 1 => fun f a h r hr => by
  rw [evFb] at hr
  rw [evF]
  cases hf : CP f with
  | none => rw [hf] at hr; exact absurd hr (by simp)
  | some fn =>
   rw [hf] at hr
   simp only at hr ⊢
   cases hx : evCb (evFb CP n) n fn.body (initE a) h with
   | none => rw [hx] at hr; exact absurd hr (by simp)
   | some y =>
    rw [hx] at hr
    rw [evC_mono (evFb_le CP n) (Nat.le_refl n) _ _ _ _ (evCb_le _ _ _ _ _ _ hx)]
    exact hr
theorem CALL_run {CP : CProg} {n : Nat} {f : FuncId} {args : List Value} {h : Heap} {v : Value} (hr : (evFb CP n f args h).map (fun r => r.1) = some v) : CALL CP f args h fun u _ => u = v := by
 simp only [Option.map_eq_some_iff] at hr
 obtain ⟨⟨u, h'⟩, hr, rfl⟩ := hr
 exact ⟨n, u, h', evFb_le CP n _ _ _ _ hr, rfl⟩
end Go.Proofs.YtlakhgibjfmjjaaGreat.Can
namespace Go.Proofs.YtlakhgibjfmjjaaGreat.Can
open Go
inductive RD where
 | op (c : COp) (k : Value → RD)
 | dcall (f : FuncId) (args : List Value) (k : Value → RD)
 | done (e : Env)
abbrev DSem := FuncId → List Value → Heap → (Value → Heap → Prop) → Prop
def runRD (CP : CProg) (DS : DSem) : RD → Heap → Post → Prop
 | .op c k, h, Q => ∃ n v h1, evOp (evF CP n) c h = some (v, h1) ∧ runRD CP DS (k v) h1 Q
 | .dcall f args k, h, Q => DS f args h fun v h1 => runRD CP DS (k v) h1 Q
 | .done e, h, Q => Q .normal e h
inductive CD where
 | lift (c : CC)
 | seq (a b : CD)
 | cond (c : Env → Value) (t e : CD)
 | block (id : Nat) (b : CD)
 | loop (b : CD)
 | draw (x : Env → Value) (k : Env → Value → Reg)
 | ent (x : Env → Value) (k : Env → Value → Reg)
 | rd (r : Env → RD)
structure DFn where
 body : CD
 results : List RV
def leftE (es : List MapEntry) (seen : List Nat) : List MapEntry := es.filter fun e => !seen.contains e.born
def nextOpts (x : Value) (h : Heap) : Option (List (Value × Heap)) :=
 match x with
 | .pointer (some ⟨r, 0, _⟩) => match h.obj r with
  | .miter none _ _ _ => some [(.tuple #[.bool false], h)]
  | .miter (some m) since seen last => match h.obj m with
   | .map es clock =>
    if (es.all fun e => decide (e.born < since)) = true ∧ since ≤ last then
     if (leftE es seen).isEmpty then some [(.tuple #[.bool false], h)]
     else some ((leftE es seen).map fun e => (.tuple #[.bool true, e.key, e.val], h.upd r (.miter (some m) since (seen ++ [e.born]) clock)))
    else none
   | _ => none
  | _ => none
 | _ => none
def entV (x : Value) (h : Heap) : Option Value :=
 match x with
 | .pointer (some ⟨r, 0, _⟩) => match h.obj r with
  | .miter (some m) _ seen stepped => match h.obj m with
   | .map es clock => if clock = stepped then match seen.getLast? with
    | some b => (es.find? fun e => e.born == b).map fun e => .tuple #[e.key, e.val]
    | none => none
    else none
   | _ => none
  | _ => none
 | _ => none
def evD (CP : CProg) (DS : DSem) : CD → Env → Heap → Post → Prop
 | .lift c, e, h, Q => RunC CP c e h Q
 | .seq a b, e, h, Q => evD CP DS a e h fun x e1 h1 => match x with
  | .normal => evD CP DS b e1 h1 Q
  | x => Q x e1 h1
 | .cond c t f, e, h, Q => match c e with
  | .bool true => evD CP DS t e h Q
  | .bool false => evD CP DS f e h Q
  | _ => False
 | .block id b, e, h, Q => evD CP DS b e h (blockQ id Q)
 | .loop b, e, h, Q => ∃ (I : Nat → Env → Heap → Prop) (d : Nat), I d e h ∧ ∀ d e h, I d e h → evD CP DS b e h (loopQ (fun e h => ∃ d', d' < d ∧ I d' e h) Q)
 | .draw x k, e, h, Q => ∃ l, nextOpts (x e) h = some l ∧ ∀ r ∈ l, RunR CP (k e r.1) r.2 Q
 | .ent x k, e, h, Q => ∃ v, entV (x e) h = some v ∧ RunR CP (k e v) h Q
 | .rd r, e, h, Q => runRD CP DS (r e) h Q
section
variable {P : Program} {S : Stay} {m : Map} {h : Heap} {w : World}
theorem Emb.drew (e : Emb P S m h w) : Emb P S m h w.drew := ⟨e.lt, e.inj, fun b L hb => by
 have := e.obj b L hb
 revert this
 cases h.obj b with
 | gone => exact fun h => h
 | cells c t g => exact fun h => h
 | map es c => exact fun h => h
 | siter s p => exact fun h => h
 | miter m s se st => cases m <;> exact fun h => h, e.prot, e.far, e.sLt, e.wf⟩
theorem Out.ofDrew {m1 : Map} {h1 : Heap} {w1 : World} (o : Out P S m h w.drew m1 h1 w1) : Out P S m h w m1 h1 w1 :=
 ⟨o.emb, o.ext, o.dom, o.next, ⟨o.wd.os, o.wd.tape, o.wd.output, o.wd.size, o.wd.block⟩, o.same⟩
theorem EntL.left {a b : List MapEntry} (e : EntL m a b) {y : MapEntry} (hy : y ∈ b) : ∃ x, x ∈ a ∧ EntR m x y := by
 obtain ⟨i, hi⟩ := List.getElem?_of_mem hy
 have hl := (List.getElem?_eq_some_iff.1 hi).1
 have hl2 : i < a.length := by rw [e.1]; exact hl
 have ha : a[i]? = some a[i] := List.getElem?_eq_getElem hl2
 exact ⟨_, List.mem_of_getElem? ha, e.2 i _ _ ha hi⟩
theorem EntL.right {a b : List MapEntry} (e : EntL m a b) {x : MapEntry} (hx : x ∈ a) : ∃ y, y ∈ b ∧ EntR m x y := by
 obtain ⟨i, hi⟩ := List.getElem?_of_mem hx
 have hl := (List.getElem?_eq_some_iff.1 hi).1
 have hl2 : i < b.length := by rw [← e.1]; exact hl
 have hb : b[i]? = some b[i] := List.getElem?_eq_getElem hl2
 exact ⟨_, List.mem_of_getElem? hb, e.2 i _ _ hi hb⟩
theorem EntL.find {q : Nat → Bool} : ∀ {a b : List MapEntry}, EntL m a b → ∀ {x : MapEntry}, a.find? (fun e => q e.born) = some x → ∃ y, b.find? (fun e => q e.born) = some y ∧ EntR m x y
 | [], b, e, x, h => by simp at h
 | u :: a, [], e, x, h => by have := e.1; simp at this
 | u :: a, v :: b, e, x, h => by
  have h0 : EntR m u v := e.2 0 u v rfl rfl
  have hr : EntL m a b := ⟨by have := e.1; simpa using this, fun i x y hx hy => e.2 (i + 1) x y (by simpa using hx) (by simpa using hy)⟩
  by_cases c : q u.born = true
  ·rw [List.find?_cons_of_pos (p := fun e : MapEntry => q e.born) c] at h
   obtain rfl := Option.some.inj h
   exact ⟨v, List.find?_cons_of_pos (p := fun e : MapEntry => q e.born) (by rw [← h0.1]; exact c), h0⟩
  ·rw [List.find?_cons_of_neg (p := fun e : MapEntry => q e.born) c] at h
   obtain ⟨y, h1, h2⟩ := EntL.find hr h
   exact ⟨y, by rw [List.find?_cons_of_neg (p := fun e : MapEntry => q e.born) (by rw [← h0.1]; exact c)]; exact h1, h2⟩
theorem next_sim (e : Emb P S m h w) (ty : TypeId) {x x' : Value} (hx : VR m x x') {l : List (Value × Heap)} (hl : nextOpts x h = some l) :
  ∃ r v' w1, r ∈ l ∧ (Instr.next x' false ty).run P w = .ok v' w1 ∧ VR m r.1 v' ∧ Out P S m h w m r.2 w1 := by
 unfold nextOpts at hl
 split at hl
 case h_2 => simp at hl
 rename_i r sp
 obtain ⟨b, o, L, heq, hb, rfl⟩ := hx.ptr_inv
 obtain ⟨rfl, rfl, rfl⟩ := Addr.mk.inj heq
 split at hl
 case h_3 => simp at hl
 case h_1 =>
  rename_i s1 s2 s3 ho
  have hob := e.obj _ L hb
  rw [ho] at hob
  obtain ⟨hblk, hsh⟩ := hob
  obtain rfl := Option.some.inj hl
  have hgo := run_getObj' (P := P) hblk (by simp)
  have hz : L.sh + 0 = 0 := by rw [hsh]
  refine ⟨_, .tuple #[.bool false], w, List.mem_singleton_self _, ?_, VR.tuple_of (VL.cons (.bool _) (VL.nil m)), Out.refl e⟩
  rw [hz]
  simp only [Instr.next, Sem.run_bind, hgo, Result.andThen_ok, Sem.run_pure]
 case h_2 =>
  rename_i mm since seen last ho
  have hob := e.obj _ L hb
  rw [ho] at hob
  obtain ⟨K, hK, hblk, hsh⟩ := hob
  have hz : L.sh + 0 = 0 := by rw [hsh]
  rw [hz]
  split at hl
  case h_2 => simp at hl
  rename_i es clock hom
  obtain ⟨es', hmb, hE⟩ := obj_map e hK hom
  split at hl
  case isFalse => simp at hl
  rename_i hc
  have hold : ∀ y ∈ es'.toList, y.born < since := fun y hy => by
   obtain ⟨z, hz, hr⟩ := hE.left hy
   have := List.all_eq_true.1 hc.1 z hz
   rw [← hr.1]
   exact of_decide_eq_true this
  have mem : ∀ y ∈ (leftOf es' seen.toArray).toList, ∃ z, z ∈ leftE es seen ∧ EntR m z y := fun y hy => by
   unfold leftOf at hy
   rw [Array.toList_filter, List.mem_filter] at hy
   obtain ⟨z, hz, hr⟩ := hE.left hy.1
   refine ⟨z, List.mem_filter.2 ⟨hz, ?_⟩, hr⟩
   rw [hr.1]
   simpa using hy.2
  have mem2 : ∀ z ∈ leftE es seen, ∃ y, y ∈ (leftOf es' seen.toArray).toList := fun z hz => by
   unfold leftE at hz
   rw [List.mem_filter] at hz
   obtain ⟨y, hy, hr⟩ := hE.right hz.1
   refine ⟨y, ?_⟩
   unfold leftOf
   rw [Array.toList_filter, List.mem_filter]
   refine ⟨hy, ?_⟩
   rw [← hr.1]
   simpa using hz.2
  rcases run_next_at (P := P) w ty L.blk K.blk since last seen.toArray es' clock hblk hmb hold hc.2 with ⟨h0, hrun⟩ | ⟨y, hy, w1, hw1, hrun⟩
  ·have he : leftE es seen = [] := by
    cases hq : leftE es seen with
    | nil => rfl
    | cons z t =>
     obtain ⟨y, hy⟩ := mem2 z (by rw [hq]; exact List.mem_cons_self)
     have : (leftOf es' seen.toArray).toList.length = 0 := by simpa using h0
     rw [List.length_eq_zero_iff.1 this] at hy
     simp at hy
   rw [he] at hl
   obtain rfl := Option.some.inj hl
   exact ⟨_, _, w, List.mem_singleton_self _, hrun, VR.tuple_of (VL.cons (.bool _) (VL.nil m)), Out.refl e⟩
  ·obtain ⟨z, hz, hr⟩ := mem y hy
   have hne : (leftE es seen).isEmpty = false := by
    cases hq : leftE es seen with
    | nil => rw [hq] at hz; simp at hz
    | cons a t => rfl
   rw [hne] at hl
   obtain rfl := Option.some.inj hl
   refine ⟨_, _, _, List.mem_map.2 ⟨z, hz, rfl⟩, hrun, VR.tuple_of (VL.cons (.bool _) (VL.cons hr.2.1 (VL.cons hr.2.2 (VL.nil m)))), ?_⟩
   have ob : ∀ w1 : World, w1.heap[L.blk]? = some (.mapIter (some K.blk) since (seen.toArray.push y.born) clock) → ObjR P m L w1 (.miter (some mm) since (seen ++ [z.born]) clock) := fun w1 h1 => ⟨K, hK, by rw [h1, hr.1]; simp, hsh⟩
   have wr : (h.obj r).wr = true := by rw [ho]; rfl
   rcases hw1 with rfl | rfl
   ·exact upd_obj e hb wr ob
   ·exact Out.ofDrew (upd_obj e.drew hb wr ob)
theorem entry_sim (e : Emb P S m h w) {x x' v : Value} (hx : VR m x x') (hv : entV x h = some v) : ∃ v', (Instr.entry x').run P w = .ok v' w ∧ VR m v v' := by
 unfold entV at hv
 split at hv
 case h_2 => simp at hv
 rename_i r sp
 obtain ⟨b, o, L, heq, hb, rfl⟩ := hx.ptr_inv
 obtain ⟨rfl, rfl, rfl⟩ := Addr.mk.inj heq
 split at hv
 case h_2 => simp at hv
 rename_i mm since seen stepped ho
 have hob := e.obj _ L hb
 rw [ho] at hob
 obtain ⟨K, hK, hblk, hsh⟩ := hob
 have hz : L.sh + 0 = 0 := by rw [hsh]
 rw [hz]
 split at hv
 case h_2 => simp at hv
 rename_i es clock hom
 obtain ⟨es', hmb, hE⟩ := obj_map e hK hom
 split at hv
 case isFalse => simp at hv
 rename_i hc
 subst hc
 split at hv
 case h_2 => simp at hv
 rename_i bb hlast
 rw [Option.map_eq_some_iff] at hv
 obtain ⟨z, hz2, rfl⟩ := hv
 obtain ⟨y, hy, hr⟩ := EntL.find (q := fun n => n == bb) hE hz2
 refine ⟨.tuple #[y.key, y.val], ?_, VR.tuple_of (VL.cons hr.2.1 (VL.cons hr.2.2 (VL.nil m)))⟩
 have hgo := run_getObj' (P := P) hblk (by simp)
 have hgm := run_getObj' (P := P) hmb (by simp)
 have hbk : seen.toArray.back? = some bb := by rw [List.back?_toArray]; exact hlast
 have hf : es'.find? (fun e => e.born == bb) = some y := by rw [← Array.find?_toList]; exact hy
 simp only [Instr.entry, Sem.run_bind, hgo, Result.andThen_ok, hbk, hgm, bne_self_eq_false, Bool.false_eq_true, if_false, hf, Sem.run_pure]
end
def dcalled (P : Program) (D : FuncId → Bool) (o : Oper) : Option (FuncId × Array Operand) :=
 match o.op, o.guard with
 | .call ⟨.value (.func f), args, _⟩, none => if D f && !noEsc P f then some (f, args) else none
 | _, _ => none
def toRD (P : Program) (D : FuncId → Bool) (p : Pers) : List Oper → Env → Env → RD
 | [], e, _ => .done e
 | o :: rest, e, l =>
  if dstOk p o.dst && o.guard.isNone then
   match dcalled P D o with
   | some (f, args) => .dcall f (args.toList.map (lookE p e l)) fun v => toRD P D p rest (putE p e l o.dst v).1 (putE p e l o.dst v).2
   | none => .op (resOp P o (lookE p e l)) fun v => toRD P D p rest (putE p e l o.dst v).1 (putE p e l o.dst v).2
  else .op .bad fun _ => .done e
def toCD (P : Program) (D : FuncId → Bool) (p : Pers) : Code → CD
 | .region id ops d =>
  if !d && ops.toList.any (fun o => (dcalled P D o).isSome) then .rd fun e => toRD P D p ops.toList e (fun _ => unk) else
  match ops.toList, d with
  | o :: rest, false =>
   match o.op, o.guard, dstOk p o.dst with
   | .next x false, none, true => .draw (fun e => lookE p e (fun _ => unk) x) fun e v => toReg P p ops rest (putE p e (fun _ => unk) o.dst v).1 (putE p e (fun _ => unk) o.dst v).2
   | .entry x, none, true => .ent (fun e => lookE p e (fun _ => unk) x) fun e v => toReg P p ops rest (putE p e (fun _ => unk) o.dst v).1 (putE p e (fun _ => unk) o.dst v).2
   | _, _, _ => .lift (toCC P p (.region id ops d))
  | _, _ => .lift (toCC P p (.region id ops d))
 | .seq a b => .seq (toCD P D p a) (toCD P D p b)
 | .cond c a b => .cond (fun e => lookE p e (fun _ => unk) c) (toCD P D p a) (toCD P D p b)
 | .block id b => .block id (toCD P D p b)
 | .loop b => .loop (toCD P D p b)
 | c => .lift (toCC P p c)
def toFnD (P : Program) (D : FuncId → Bool) (p : Pers) (f : Func) : Option DFn :=
 match f.body, f.results.toList.mapM (resT P) with
 | some c, some rs => if Nat.ble p.size f.ntmps && (rs.all fun r => p.has r.slot) && Nat.ble rs.length 3 && !(f.name == "runtime.NumGoroutine") && p.ds.isEmpty then some ⟨toCD P D p c, rs⟩ else none
 | _, _ => none
section
variable {P : Program}
theorem Out.free {S : Stay} {m m1 : Map} {h h1 : Heap} {w w1 : World} (o : Out P S m h w m1 h1 w1) (hf : ∀ b, h.next ≤ b → m b = none) : ∀ b, h1.next ≤ b → m1 b = none := fun b hb => by
 cases hm : m1 b with
 | none => rfl
 | some L =>
  rcases o.dom b (by rw [hm]; simp) with h2 | ⟨h2, h3⟩
  ·exact absurd (hf b (Nat.le_trans o.next hb)) h2
  ·omega
def DSOK (P : Program) (DS : DSem) : Prop := ∀ f args h R, DS f args h R → (∃ F, P.funcs[f]? = some F ∧ (F.name == "runtime.NumGoroutine") = false ∧ F.body.isNone = false) ∧
 ∀ (S : Stay) (m : Map) (w : World) (args' : Array Value), VL m args args'.toList → Emb P S m h w → (∀ b, h.next ≤ b → m b = none) → GlobOK m →
  Calls P f args' w fun e w1 => ∃ v v' h1 m1, e = .returned v' ∧ R v h1 ∧ VR m1 v v' ∧ Out P S m h w m1 h1 w1
theorem freeOf {m : Map} {h : Heap} (hf : ∀ b, h.next ≤ b → m b = none) (n : Nat) : Free m h.next n := fun b hb _ => hf b hb
theorem dcalled_some {D : FuncId → Bool} {o : Oper} {f : FuncId} {args : Array Operand} (h : dcalled P D o = some (f, args)) : ∃ ts, o.op = .call ⟨.value (.func f), args, ts⟩ ∧ o.guard = none := by
 unfold dcalled at h
 split at h
 ·rename_i f' args' ts hop hg
  split at h
  ·simp only [Option.some.injEq, Prod.mk.injEq] at h
   obtain ⟨rfl, rfl⟩ := h
   exact ⟨ts, hop, hg⟩
  ·simp at h
 ·simp at h
theorem rd_sim {S : Stay} {CP : CProg} {DS : DSem} (hP : Progs P CP) (hDS : DSOK P DS) {D : FuncId → Bool} (p : Pers) (all : Array Oper) {Q : Exit → Act → World → Prop} {QD : Post} : ∀ (ops : List Oper) (m : Map) (e l : Env) (h : Heap) (a : Act) (w : World),
  runRD CP DS (toRD P D p ops e l) h QD → Slots p m e l a → Emb P S m h w → (∀ b, h.next ≤ b → m b = none) →
  (∀ e1 h1 a1 w1 m1 l1, QD .normal e1 h1 → Slots p m1 e1 l1 a1 → Out P S m h w m1 h1 w1 → Q .normal a1 w1) → wpList P all Q ops a w
 | [], m, e, l, h, a, w, hr, hs, hE, hf, hQ => by
  unfold wpList
  exact hQ e h a w m l hr hs (Out.refl hE)
 | o :: rest, m, e, l, h, a, w, hr, hs, hE, hf, hQ => by
  simp only [toRD] at hr
  split at hr
  case isFalse =>
   obtain ⟨n, v, h1, hc, _⟩ := hr
   simp [evOp, cop] at hc
  rename_i hok
  simp only [Bool.and_eq_true, Option.isNone_iff_eq_none] at hok
  obtain ⟨hd, hg⟩ := hok
  unfold wpList
  rw [if_pos (by simp [Region.wanted, hg])]
  left
  split at hr
  ·rename_i f args hdc
   obtain ⟨ts, hop, _⟩ := dcalled_some hdc
   obtain ⟨⟨F, hF, hname, hbody⟩, hruns⟩ := hDS _ _ _ _ hr
   have hal : VL m (args.toList.map (lookE p e l)) (args.map a.eval).toList := by simpa using list_rel hs.eval args.toList
   have hcf : (callFunc f (args.map a.eval)).run P w = .ok (.enter f (args.map a.eval)) w := by
    simp only [callFunc, Sem.run_bind, run_program, Result.andThen_ok, hF, hname, hbody, Bool.false_eq_true, if_false, Sem.run_pure]
   have hrun : (execOp a.eval o).run P w = (callFunc f (args.map a.eval)).run P w := by
    have hfv : a.eval (.func f) = .func (.func f) #[] #[] := rfl
    unfold execOp
    rw [hop]
    simp only [resolve, hfv, Deferred.ofValue, Sem.run_bind, Sem.run_pure, Result.andThen_ok]
    simp [invoke]
   unfold Oper.wp
   rw [hrun, hcf, Oper.upon_enter]
   refine (hruns S m w _ hal hE hf hs.glob).mono fun en w1 hp => ?_
   obtain ⟨v, v', h1, m1, rfl, hR, hv, ho⟩ := hp
   exact rd_sim hP hDS p all rest m1 _ _ h1 _ w1 hR ((hs.ext ho.ext).put hd hv) ho.emb (ho.free hf) fun e2 h2 a2 w2 m2 l2 hq2 hs2 ho2 => hQ e2 h2 a2 w2 m2 l2 hq2 hs2 (ho.trans ho2)
  ·obtain ⟨n, v, h1, hc, hR⟩ := hr
   refine op_wp (evF_sound hP n) hE o a hs.eval hc (freeOf hf _) hs.glob fun v' w1 m1 hv ho => ?_
   exact rd_sim hP hDS p all rest m1 _ _ h1 _ w1 hR ((hs.ext ho.ext).put hd hv) ho.emb (ho.free hf) fun e2 h2 a2 w2 m2 l2 hq2 hs2 ho2 => hQ e2 h2 a2 w2 m2 l2 hq2 hs2 (ho.trans ho2)
theorem code_simD {S : Stay} {CP : CProg} {DS : DSem} (hP : Progs P CP) (hDS : DSOK P DS) {D : FuncId → Bool} (p : Pers) (c : Code) : ∀ {QD : Post} {Q : Exit → Act → World → Prop} {m : Map} {e : Env} {h : Heap} {a : Act} {w : World},
  evD CP DS (toCD P D p c) e h QD → Slots p m e (fun _ => unk) a → Emb P S m h w → (∀ b, h.next ≤ b → m b = none) →
  (∀ x e1 h1 a1 w1 m1, QD x e1 h1 → Slots p m1 e1 (fun _ => unk) a1 → Out P S m h w m1 h1 w1 → Q (exitOf x) a1 w1) → c.wp P Q a w := by
 have lifted : ∀ (c : Code) {QD : Post} {Q : Exit → Act → World → Prop} {m : Map} {e : Env} {h : Heap} {a : Act} {w : World},
   evD CP DS (.lift (toCC P p c)) e h QD → Slots p m e (fun _ => unk) a → Emb P S m h w → (∀ b, h.next ≤ b → m b = none) →
   (∀ x e1 h1 a1 w1 m1, QD x e1 h1 → Slots p m1 e1 (fun _ => unk) a1 → Out P S m h w m1 h1 w1 → Q (exitOf x) a1 w1) → c.wp P Q a w := by
  intro c QD Q m e h a w hr hs hE hf hQ
  obtain ⟨N, x, e1, h1, he, hq⟩ := hr
  exact code_sim (evF_sound hP N) N p c he hs hE (fun b hb _ => hf b hb) fun a1 w1 m1 hs1 ho => hQ x e1 h1 a1 w1 m1 hq hs1 ho
 induction c with
 | region id ops d =>
  intro QD Q m e h a w hr hs hE hf hQ
  have first : ∀ (o : Oper) (rest : List Oper), ops.toList = o :: rest → d = false → o.guard = none → dstOk p o.dst = true → ∀ (v v' : Value) (h2 : Heap) (w1 : World), (execOp a.eval o).run P w = .ok (.value v') w1 → VR m v v' → Out P S m h w m h2 w1 →
    RunR CP (toReg P p ops rest (putE p e (fun _ => unk) o.dst v).1 (putE p e (fun _ => unk) o.dst v).2) h2 QD → (Code.region id ops d).wp P Q a w := by
   intro o rest hl hd hg hdst v v' h2 w1 hrun hv ho hrr
   subst hd
   obtain ⟨N, e1, h1, he, hq⟩ := hrr
   refine wp_region_list ?_
   rw [hl]
   unfold wpList
   rw [if_pos (by simp [Region.wanted, hg])]
   left
   unfold Oper.wp
   rw [hrun]
   have hf2 := ho.free hf
   exact reg_sim (evF_sound hP N) p ops rest m _ _ h2 _ w1 he (hs.put hdst hv) ho.emb (fun b hb _ => hf2 b hb) fun a1 w2 m1 l1 hs1 ho1 => hQ .normal e1 h1 a1 w2 m1 hq hs1.drop (ho.trans ho1)
  simp only [toCD] at hr
  split at hr
  ·rename_i hany
   simp only [Bool.and_eq_true, Bool.not_eq_true'] at hany
   obtain ⟨hd, _⟩ := hany
   subst hd
   refine wp_region_list ?_
   exact rd_sim hP hDS p ops ops.toList m e _ h a w hr hs hE hf fun e1 h1 a1 w1 m1 l1 hq hs1 ho => hQ .normal e1 h1 a1 w1 m1 hq hs1.drop ho
  rename_i hneg
  clear hneg
  split at hr
  ·rename_i o rest hl
   split at hr
   ·rename_i x hop hg hdst
    obtain ⟨l, hl2, hall⟩ := hr
    obtain ⟨r, v', w1, hmem, hrun, hv, ho⟩ := next_sim hE o.type (hs.eval x) hl2
    refine first o rest hl rfl hg hdst r.1 v' r.2 w1 ?_ hv ho (hall r hmem)
    unfold execOp
    rw [hop]
    simp only [Sem.run_bind, hrun, Result.andThen_ok, Sem.run_pure]
   ·rename_i x hop hg hdst
    obtain ⟨v, hv2, hall⟩ := hr
    obtain ⟨v', hrun, hv⟩ := entry_sim hE (hs.eval x) hv2
    refine first o rest hl rfl hg hdst v v' h w ?_ hv (Out.refl hE) hall
    unfold execOp
    rw [hop]
    simp only [Sem.run_bind, hrun, Result.andThen_ok, Sem.run_pure]
   ·exact lifted _ hr hs hE hf hQ
  ·exact lifted _ hr hs hE hf hQ
 | seq a b iha ihb =>
  intro QD Q m e h ac w hr hs hE hf hQ
  simp only [toCD, evD] at hr
  refine wp_seq (iha hr hs hE hf fun x e1 h1 a1 w1 m1 hq hs1 ho => ?_)
  cases x with
  | normal => exact ihb hq hs1 ho.emb (ho.free hf) fun x e2 h2 a2 w2 m2 hq2 hs2 ho2 => hQ x e2 h2 a2 w2 m2 hq2 hs2 (ho.trans ho2)
  | exit i => exact hQ _ _ _ _ _ _ hq hs1 ho
  | ret => exact hQ _ _ _ _ _ _ hq hs1 ho
 | cond c a b iha ihb =>
  intro QD Q m e h ac w hr hs hE hf hQ
  simp only [toCD, evD] at hr
  have hv := hs.eval c
  split at hr
  ·rename_i hc
   rw [hc] at hv
   exact wp_cond_true hv.bool_inv (iha hr hs hE hf hQ)
  ·rename_i hc
   rw [hc] at hv
   exact wp_cond_false hv.bool_inv (ihb hr hs hE hf hQ)
  ·exact hr.elim
 | block id b ih =>
  intro QD Q m e h a w hr hs hE hf hQ
  simp only [toCD, evD] at hr
  refine wp_block (ih hr hs hE hf fun x e1 h1 a1 w1 m1 hq hs1 ho => ?_)
  cases x with
  | normal => exact hQ _ _ _ _ _ _ hq hs1 ho
  | exit i =>
   show (if i = id then Q .normal a1 w1 else Q (.exit i) a1 w1)
   have hq : if i = id then QD .normal e1 h1 else QD (.exit i) e1 h1 := hq
   by_cases hi : i = id
   ·rw [if_pos hi] at hq ⊢; exact hQ _ _ _ _ _ _ hq hs1 ho
   ·rw [if_neg hi] at hq ⊢; exact hQ _ _ _ _ _ _ hq hs1 ho
  | ret => exact hQ _ _ _ _ _ _ hq hs1 ho
 | loop b ih =>
  intro QD Q m e h a w hr hs hE hf hQ
  simp only [toCD, evD] at hr
  obtain ⟨I, d, hI, hstep⟩ := hr
  refine LoopIn.loop ?_
  have key : ∀ (n d : Nat), d < n → ∀ {m : Map} {e : Env} {h : Heap} {a : Act} {w : World}, I d e h → Slots p m e (fun _ => unk) a → Emb P S m h w → (∀ b, h.next ≤ b → m b = none) →
    (∀ x e1 h1 a1 w1 m1, QD x e1 h1 → Slots p m1 e1 (fun _ => unk) a1 → Out P S m h w m1 h1 w1 → Q (exitOf x) a1 w1) → LoopIn P b Q a w := by
   intro n
   induction n with
   | zero => intro d hd; omega
   | succ n ihn =>
    intro d hd m e h a w hI hs hE hf hQ
    refine LoopIn.round (ih (hstep d e h hI) hs hE hf fun x e1 h1 a1 w1 m1 hq hs1 ho => ?_)
    cases x with
    | normal =>
     obtain ⟨d', hd', hI'⟩ := hq
     exact ihn d' (by omega) hI' hs1 ho.emb (ho.free hf) fun x e2 h2 a2 w2 m2 hq2 hs2 ho2 => hQ x e2 h2 a2 w2 m2 hq2 hs2 (ho.trans ho2)
    | exit i => exact hQ _ _ _ _ _ _ hq hs1 ho
    | ret => exact hQ _ _ _ _ _ _ hq hs1 ho
  exact key (d + 1) d (Nat.lt_succ_self _) hI hs hE hf hQ
 | _ => intro QD Q m e h a w hr hs hE hf hQ; exact lifted _ hr hs hE hf hQ
end
def CALLD (CP : CProg) (DS : DSem) (fn : DFn) (args : List Value) (h : Heap) (Q : Value → Heap → Prop) : Prop := evD CP DS fn.body (initE args) h (retQ fn.results Q)
theorem callD_sound {P : Program} {CP : CProg} {DS : DSem} (hP : Progs P CP) (hDS : DSOK P DS) {D : FuncId → Bool} {f : FuncId} {F : Func} (hF : P.funcs[f]? = some F) {p : Pers} {fn : DFn} (hfn : toFnD P D p F = some fn) {args : List Value} {h : Heap} {R : Value → Heap → Prop} (hc : CALLD CP DS fn args h R) {S : Stay} {m : Map} {w : World} {args' : Array Value} (hargs : VL m args args'.toList) (hE : Emb P S m h w) (hf : ∀ b, h.next ≤ b → m b = none) (hgl : GlobOK m := by intro g hg; exact absurd hg (by simp [GLN])) :
  Calls P f args' w fun e w1 => ∃ v v' h1 m1, e = .returned v' ∧ R v h1 ∧ VR m1 v v' ∧ Out P S m h w m1 h1 w1 := by
 unfold toFnD at hfn
 split at hfn
 case h_2 => simp at hfn
 rename_i c rs hb hrs
 split at hfn
 case isFalse => simp at hfn
 rename_i hok
 simp only [Bool.and_eq_true, Bool.not_eq_true', Nat.ble_eq] at hok
 obtain ⟨⟨⟨⟨hsz, hhas⟩, h3⟩, hname⟩, hds⟩ := hok
 have hpds : p.ds = [] := by simpa using hds
 obtain rfl := Option.some.inj hfn
 refine calls_of_wp hF hb (code_simD hP hDS p c hc ⟨fun t => ?_, ?_, hpds.symm, hgl⟩ hE hf fun x e1 h1 a1 w1 m1 hq hs1 ho => ?_)
 ·unfold lookT
  split
  ·simp only [initE, List.getD_eq_getElem?_getD, Array.getD_eq_getD_getElem?]
   by_cases ht : t < args'.size
   ·have ht2 : t < args.length := by have := hargs.1; simp only [Array.length_toList] at this; omega
    rw [Array.getElem?_append_left ht, Array.getElem?_eq_getElem ht, List.getElem?_eq_getElem ht2]
    simp only [Option.getD_some]
    exact hargs.2 t _ _ (List.getElem?_eq_getElem ht2) (by simp [ht])
   ·have ht2 : args.length ≤ t := by have := hargs.1; simp only [Array.length_toList] at this; omega
    have hu : ((args' ++ Array.replicate (F.ntmps - args'.size) undef)[t]?).getD undef = undef := by
     rw [Array.getElem?_append_right (Nat.le_of_not_lt ht), Array.getElem?_replicate]
     split <;> rfl
    rw [hu, List.getElem?_eq_none ht2]
    exact .tuple _ _ rfl (fun i x y hx => by simp at hx)
  ·exact .unk _
 ·simp only [Array.size_append, Array.size_replicate]; omega
 ·have hd : a1.defers = [] := by rw [hs1.defers, hpds]
  have fin : finQ (resultsV e1 h1 rs) h1 R → ∃ v', (results F a1.tmps).run P w1 = .ok v' w1 ∧ ∃ v'' v h1' m1', Ending.returned v' = .returned v'' ∧ R v h1' ∧ VR m1' v v'' ∧ Out P S m h w m1' h1' w1 := by
   intro hq
   unfold finQ at hq
   split at hq
   ·rename_i v hres
    obtain ⟨v', hrun, hv⟩ := results_sim ho.emb hrs h3 hhas hs1 hres
    exact ⟨v', hrun, v', v, h1, m1, rfl, hq, hv, ho⟩
   ·exact hq.elim
  cases x with
  | normal =>
   obtain ⟨v', hrun, v'', v, h1', m1', he, hR, hv, ho'⟩ := fin hq
   exact ⟨hd, v', hrun, v, v'', h1', m1', he, hR, hv, ho'⟩
  | ret =>
   obtain ⟨v', hrun, v'', v, h1', m1', he, hR, hv, ho'⟩ := fin hq
   exact ⟨hd, v', hrun, v, v'', h1', m1', he, hR, hv, ho'⟩
  | exit i => exact hq.elim
section
variable (CP : CProg) (DS : DSem)
def seqE (b : CD) (Q : Post) : Post
 | .normal, e, h => evD CP DS b e h Q
 | x, e, h => Q x e h
def condE (v : Value) (a b : CD) (e : Env) (h : Heap) (Q : Post) : Prop :=
 match v with
 | .bool true => evD CP DS a e h Q
 | .bool false => evD CP DS b e h Q
 | _ => False
variable {CP : CProg} {DS : DSem}
theorem evD_lift (c : CC) (e : Env) (h : Heap) (Q : Post) : evD CP DS (.lift c) e h Q ↔ RunC CP c e h Q := Iff.rfl
theorem evD_seq (a b : CD) (e : Env) (h : Heap) (Q : Post) : evD CP DS (.seq a b) e h Q ↔ evD CP DS a e h (seqE CP DS b Q) := by
 have : (fun (x : X) (e1 : Env) (h1 : Heap) => match x with
  | .normal => evD CP DS b e1 h1 Q
  | x => Q x e1 h1) = seqE CP DS b Q := by
  funext x e1 h1
  cases x <;> rfl
 simp only [evD, this]
theorem evD_cond (c : Env → Value) (a b : CD) (e : Env) (h : Heap) (Q : Post) : evD CP DS (.cond c a b) e h Q ↔ condE CP DS (c e) a b e h Q := by
 unfold condE
 simp only [evD]
theorem evD_block (id : Nat) (b : CD) (e : Env) (h : Heap) (Q : Post) : evD CP DS (.block id b) e h Q ↔ evD CP DS b e h (blockQ id Q) := Iff.rfl
theorem seqE_normal (b : CD) (Q : Post) (e : Env) (h : Heap) : seqE CP DS b Q .normal e h ↔ evD CP DS b e h Q := Iff.rfl
theorem seqE_ret (b : CD) (Q : Post) (e : Env) (h : Heap) : seqE CP DS b Q .ret e h ↔ Q .ret e h := Iff.rfl
theorem seqE_exit (b : CD) (Q : Post) (i : Nat) (e : Env) (h : Heap) : seqE CP DS b Q (.exit i) e h ↔ Q (.exit i) e h := Iff.rfl
theorem condE_true (a b : CD) (e : Env) (h : Heap) (Q : Post) : condE CP DS (.bool true) a b e h Q ↔ evD CP DS a e h Q := Iff.rfl
theorem condE_false (a b : CD) (e : Env) (h : Heap) (Q : Post) : condE CP DS (.bool false) a b e h Q ↔ evD CP DS b e h Q := Iff.rfl
theorem evD_loop (b : CD) (Q : Post) (I : Nat → Env → Heap → Prop) (step : ∀ d e h, I d e h → evD CP DS b e h (loopQ (fun e h => ∃ d', d' < d ∧ I d' e h) Q)) (d : Nat) (e : Env) (h : Heap) (h0 : I d e h) : evD CP DS (.loop b) e h Q :=
 ⟨I, d, h0, step⟩
theorem evD_draw (x : Env → Value) (k : Env → Value → Reg) (e : Env) (h : Heap) (Q : Post) {r m since last clock : Nat} {seen : List Nat} {es : List MapEntry} (hx : x e = .pointer (some ⟨r, 0, none⟩)) (hr : h.obj r = .miter (some m) since seen last) (hm : h.obj m = .map es clock)
  (hall : ∀ y ∈ es, y.born < since) (hle : since ≤ last) (over : leftE es seen = [] → RunR CP (k e (.tuple #[.bool false])) h Q)
  (one : ∀ y ∈ leftE es seen, RunR CP (k e (.tuple #[.bool true, y.key, y.val])) (h.upd r (.miter (some m) since (seen ++ [y.born]) clock)) Q) : evD CP DS (.draw x k) e h Q := by
 have hc : (es.all fun e => decide (e.born < since)) = true ∧ since ≤ last := ⟨List.all_eq_true.2 fun y hy => decide_eq_true (hall y hy), hle⟩
 by_cases hl : leftE es seen = []
 ·refine ⟨[(.tuple #[.bool false], h)], ?_, fun y hy => ?_⟩
  ·simp only [nextOpts, hx, hr, hm]
   rw [if_pos hc, if_pos (by rw [hl]; rfl)]
  ·rw [List.mem_singleton.1 hy]; exact over hl
 ·refine ⟨(leftE es seen).map fun e => (.tuple #[.bool true, e.key, e.val], h.upd r (.miter (some m) since (seen ++ [e.born]) clock)), ?_, fun y hy => ?_⟩
  ·simp only [nextOpts, hx, hr, hm]
   rw [if_pos hc, if_neg (by simpa using hl)]
  ·obtain ⟨z, hz, rfl⟩ := List.mem_map.1 hy
   exact one z hz
theorem evD_ent (x : Env → Value) (k : Env → Value → Reg) (e : Env) (h : Heap) (Q : Post) {r m since clock : Nat} {seen : List Nat} {es : List MapEntry} {y : MapEntry} (hx : x e = .pointer (some ⟨r, 0, none⟩)) (hr : h.obj r = .miter (some m) since (seen ++ [y.born]) clock) (hm : h.obj m = .map es clock)
  (hy : y ∈ es) (hn : (es.map (·.born)).Nodup) (one : RunR CP (k e (.tuple #[y.key, y.val])) h Q) : evD CP DS (.ent x k) e h Q := by
 refine ⟨.tuple #[y.key, y.val], ?_, one⟩
 simp only [entV, hx, hr, hm, if_true, List.getLast?_append, List.getLast?_singleton, Option.some_or]
 rw [find_born y es hn hy]
 rfl
theorem evD_rd (r : Env → RD) (e : Env) (h : Heap) (Q : Post) : evD CP DS (.rd r) e h Q ↔ runRD CP DS (r e) h Q := Iff.rfl
theorem rod {f g : Env → RD} (q : ∀ e, f e = g e) (CP : CProg) (DS : DSem) (e : Env) (h : Heap) (Q : Post) : runRD CP DS (f e) h Q ↔ runRD CP DS (g e) h Q := by rw [q]
theorem runRD_mv (v : Value) (k : Value → RD) (h : Heap) (Q : Post) : runRD CP DS (.op (.mv v) k) h Q ↔ runRD CP DS (k v) h Q := by
 constructor
 ·rintro ⟨n, v1, h1, hc, hr⟩
  simp only [evOp, cop, Option.some.injEq, Prod.mk.injEq] at hc
  obtain ⟨rfl, rfl⟩ := hc
  exact hr
 ·intro hr
  exact ⟨0, v, h, rfl, hr⟩
def afterRD (CP : CProg) (DS : DSem) (x : Option (Value × Heap)) (k : Value → RD) (Q : Post) : Prop := match x with
 | some (v, h) => runRD CP DS (k v) h Q
 | none => False
theorem afterRD_some (v : Value) (h : Heap) (k : Value → RD) (Q : Post) : afterRD CP DS (some (v, h)) k Q ↔ runRD CP DS (k v) h Q := Iff.rfl
theorem runRD_un (op : UnOp) (x : Value) (k : Value → RD) (h : Heap) (Q : Post) : runRD CP DS (.op (.un op x) k) h Q ↔ afterRD CP DS (cop (.un op x) h) k Q := by
 show (∃ n v h1, evOp (evF CP n) (.un op x) h = some (v, h1) ∧ runRD CP DS (k v) h1 Q) ↔ _
 have e : ∀ n, evOp (evF CP n) (.un op x) h = cop (.un op x) h := fun n => rfl
 simp only [e]
 unfold afterRD
 cases hc : cop (.un op x) h with
 | none => simp
 | some r =>
  obtain ⟨v, h1⟩ := r
  simp only [Option.some.injEq, Prod.mk.injEq]
  exact ⟨fun ⟨_, v', h', ⟨a, b⟩, q⟩ => by subst a b; exact q, fun q => ⟨0, v, h1, ⟨rfl, rfl⟩, q⟩⟩
theorem runRD_done (e : Env) (h : Heap) (Q : Post) : runRD CP DS (.done e) h Q ↔ Q .normal e h := Iff.rfl
theorem runRD_dcall (f : FuncId) (args : List Value) (k : Value → RD) (h : Heap) (Q : Post) : runRD CP DS (.dcall f args k) h Q ↔ DS f args h fun v h1 => runRD CP DS (k v) h1 Q := Iff.rfl
theorem evD_congr {c c' : CD} (e : Env) (h : Heap) (Q : Post) (q : c = c') : evD CP DS c e h Q = evD CP DS c' e h Q := by rw [q]
theorem condE_congr {v v' : Value} (a b : CD) (e : Env) (h : Heap) (Q : Post) (q : v = v') : condE CP DS v a b e h Q = condE CP DS v' a b e h Q := by rw [q]
theorem runRD_congr {r r' : RD} (h : Heap) (Q : Post) (q : r = r') : runRD CP DS r h Q = runRD CP DS r' h Q := by rw [q]
def DS0 : DSem := fun _ _ _ _ => False
theorem ds0_ok (P : Program) : DSOK P DS0 := fun _ _ _ _ h => h.elim
end
end Go.Proofs.YtlakhgibjfmjjaaGreat.Can
namespace Go.Proofs.YtlakhgibjfmjjaaGreat.Can
open Go
def dset : FuncId → Bool := fun f => Nat.beq f 11
def d7_r0 (e : Env) : Reg :=
 .op (.box 23 (e 0)) fun t3 =>
 .op (.mv (.bool false)) fun t6 =>
 .done ((e.upd 3 t3).upd 6 t6)
def d7_r1 (e : Env) : RD :=
 .dcall 11 [] fun t16 =>
 .op (.un .not t16) fun t17 =>
 .done (e.upd 17 t17)
def d7_r2 (e : Env) : Reg :=
 .op (.mv (.bool false)) fun t6 =>
 .done (e.upd 6 t6)
def d7_r3 (e : Env) : Reg :=
 .op (.mv (e 2)) fun t18 =>
 .op (.call 12 [t18]) fun t19 =>
 .op (.un .not t19) fun t20 =>
 .done (e.upd 20 t20)
def d7_r4 (e : Env) : Reg :=
 .op (.mv (.bool true)) fun t6 =>
 .done (e.upd 6 t6)
def d7_r5 (e : Env) : Reg :=
 .op (.load (some 9) (e 3)) fun t21 =>
 .op (.buildSlice 23 1 [(.int .i64 0), (.int .i64 0), (.int .i64 0), (.int .i64 0), (.int .i64 0), (.int .i64 0), (.int .i64 0), (.int .i64 0), (.bool false)] [(0, 9, t21)]) fun t22 =>
 .op (.call 13 [t22, (.int .i64 0)]) fun t23 =>
 .op (.alloc 30 [(.int .i64 0), (.int .i64 0), (.int .i64 0), (.slice none 0 0)]) fun t7 =>
 .op (.store 4 t7 t23) fun _ =>
 .done (e.upd 7 t7)
def d7_r6 (e : Env) : Reg :=
 .op (.load (some 4) (e 7)) fun t25 =>
 .op (.call 14 [t25, (.slice none 0 0)]) fun t26 =>
 .op (.mv t26) fun t24 =>
 .op (.extract t24 0) fun t27 =>
 .op (.extract t24 1) fun t28 =>
 .op (.mv t27) fun t8 =>
 .op (.mv t28) fun t9 =>
 .done ((e.upd 8 t8).upd 9 t9)
def d7_r7 (e : Env) : Reg :=
 .op (.mv (e 8)) fun t29 =>
 .op (.build [(.int .i64 0), (.int .i64 0), (.int .i64 0), (.slice none 0 0), (.int .i64 0), (.slice none 0 0)] [(0, 1, (.int .i64 0))]) fun t30 =>
 .op (.call 15 [t29, t30]) fun t31 =>
 .done e
def d7_r8 (e : Env) : Reg :=
 .op (.mv (e 1)) fun t32 =>
 .op (.bin .and t32 (.int .i64 4611686018427387903)) fun t33 =>
 .op (.bin .or t33 (.int .i64 4611686018427387904)) fun t34 =>
 .op (.mv t34) fun t1 =>
 .done (e.upd 1 t1)
def d7_r9 (e : Env) : Reg :=
 .op (.mv (e 8)) fun t35 =>
 .op (.mv (e 1)) fun t36 =>
 .op (.build [(.int .i64 0), (.int .i64 0), (.int .i64 0), (.slice none 0 0), (.int .i64 0), (.slice none 0 0)] [(0, 1, (.int .i64 3)), (1, 1, t36)]) fun t37 =>
 .op (.call 15 [t35, t37]) fun t38 =>
 .done e
def d7_r10 (e : Env) : Reg :=
 .op (.mv (e 2)) fun t39 =>
 .op (.lenSl t39) fun t40 =>
 .op (.mv (.int .i64 0)) fun t41 =>
 .done (((e.upd 39 t39).upd 40 t40).upd 41 t41)
def d7_r11 (e : Env) : Reg :=
 .op (.bin .lss (e 41) (e 40)) fun t42 =>
 .done (e.upd 42 t42)
def d7_r12 (e : Env) : Reg :=
 .op (.indexSl 4 (e 39) (e 41)) fun t43 =>
 .op (.load (some 4) t43) fun t44 =>
 .op (.alloc 48 [(.int .i64 0), (.int .i64 0), (.string ⟨#[]⟩), (.bool false)]) fun t11 =>
 .op (.store 4 t11 t44) fun _ =>
 .done (e.upd 11 t11)
def d7_r13_c1 (e : Env) (t45 : Value) (t46 : Value) (t47 : Value) (t48 : Value) (t51 : Value) : Reg :=
 .op (.call 20 [t51]) fun t52 =>
 .chk none none (.load none t46) t47 <|
 .op (.build [(.int .i64 0), (.int .i64 0), (.int .i64 0), (.slice none 0 0), (.int .i64 0), (.slice none 0 0)] [(0, 1, (.int .i64 2)), (1, 1, t48), (3, 1, t52)]) fun t53 =>
 .snap fun h9 =>
 .op (.call 15 [t45, t53]) fun t54 =>
 .done e
def d7_r13 (e : Env) : Reg :=
 .op (.mv (e 8)) fun t45 =>
 .op (.fieldAddr 0 (e 11)) fun t46 =>
 .op (.load none t46) fun t47 =>
 .op (.bin .shr t47 (.int .u64 2)) fun t48 =>
 .op (.fieldAddr 2 (e 11)) fun t49 =>
 .op (.load none t49) fun t50 =>
 .op (.build [(.int .i64 0), (.int .i64 0), (.int .u32 0), (.string ⟨#[]⟩), (.int .i64 0)] [(0, 1, (.int .i64 1)), (3, 1, t50), (2, 1, (.int .u32 1))]) fun t51 =>
 .snap fun h7 =>
 d7_r13_c1 e t45 t46 t47 t48 t51
def d7_r14 (e : Env) : Reg :=
 .op (.mv (e 8)) fun t55 =>
 .op (.build [(.int .i64 0), (.int .i64 0), (.int .i64 0), (.slice none 0 0), (.int .i64 0), (.slice none 0 0)] [(0, 1, (.int .i64 3)), (4, 1, (.int .i64 99))]) fun t56 =>
 .op (.call 15 [t55, t56]) fun t57 =>
 .op (.alloc 42 [(.int .i64 0), (.int .i64 0), (.slice none 0 0), (.slice none 0 0)]) fun t12 =>
 .op (.store 4 t12 t57) fun _ =>
 .done (e.upd 12 t12)
def d7_r15_c1 (e : Env) (t62 : Value) (t63 : Value) (t64 : Value) (t13 : Value) : Reg :=
 .op (.store 12 t13 t62) fun _ =>
 .op (.mv t63) fun t14 =>
 .op (.mv t64) fun t15 =>
 .done (((e.upd 13 t13).upd 14 t14).upd 15 t15)
def d7_r15 (e : Env) : Reg :=
 .op (.fieldAddr 2 (e 12)) fun t59 =>
 .op (.load none t59) fun t60 =>
 .op (.call 21 [t60]) fun t61 =>
 .op (.mv t61) fun t58 =>
 .op (.extract t58 0) fun t62 =>
 .op (.extract t58 1) fun t63 =>
 .op (.extract t58 2) fun t64 =>
 .op (.alloc 66 [(.int .i64 0), (.int .i64 0), (.int .i64 0), (.int .i64 0), (.int .i64 0), (.int .i64 0), (.int .i64 0), (.int .i64 0), (.int .i64 0), (.int .i64 0), (.slice none 0 0), (.int .i64 0)]) fun t13 =>
 d7_r15_c1 e t62 t63 t64 t13
def d7_r16_c3 (e : Env) (t73 : Value) (t84 : Value) (t86 : Value) : Reg :=
 .opg t84 true (.fieldAddr 0 t86) fun t87 =>
 .snap fun h23 =>
 .opg t84 true (.call 26 [t87]) fun t88 =>
 .opg t84 true (.mv (e 1)) fun t89 =>
 .opg t84 true (.bin .lss t88 t89) fun t90 =>
 .opg t73 false (.pick t84 t90 (.bool false)) fun t91 =>
 .op (.pick t73 (.bool true) t91) fun t92 =>
 .done (e.upd 92 t92)
def d7_r16_c2 (e : Env) (t73 : Value) (h12 : Heap) (t77 : Value) (t78 : Value) (t79 : Value) : Reg :=
 .opg t73 false (.load none t79) fun t80 =>
 .chk (some (t73, false)) (some h12) (.load none t79) t80 <|
 .opg t73 false (.bin .shr t80 (.int .u64 2)) fun t81 =>
 .opg t73 false (.minmax true [t78, t81]) fun t82 =>
 .opg t73 false (.bin .neq t77 t82) fun t83 =>
 .opg t73 false (.mv t83) fun t84 =>
 .opg t84 true (.mv (e 8)) fun t85 =>
 .opg t84 true (.nilCheck t85) fun t86 =>
 d7_r16_c3 e t73 t84 t86
def d7_r16_c1 (e : Env) (t72 : Value) : Reg :=
 .op (.mv t72) fun t73 =>
 .opg t73 false (.mv (e 8)) fun t74 =>
 .opg t73 false (.nilCheck t74) fun t75 =>
 .opg t73 false (.fieldAddr 0 t75) fun t76 =>
 .snap fun h12 =>
 .opg t73 false (.call 26 [t76]) fun t77 =>
 .opg t73 false (.mv (e 1)) fun t78 =>
 .opg t73 false (.fieldAddr 0 (e 11)) fun t79 =>
 d7_r16_c2 e t73 h12 t77 t78 t79
def d7_r16 (e : Env) : Reg :=
 .op (.mv (e 15)) fun t65 =>
 .op (.un .not t65) fun t66 =>
 .op (.mv t66) fun t67 =>
 .opg t67 false (.fieldAddr 2 (e 13)) fun t68 =>
 .opg t67 false (.load (some 3) t68) fun t69 =>
 .opg t67 false (.build [(.int .i64 0), (.int .i64 0), (.int .i64 0)] [(0, 1, (.int .i64 2)), (2, 1, (.int .i64 9223372036854775807))]) fun t70 =>
 .opg t67 false (.eqAgg true [.int, .int, .int] t69 t70) fun t71 =>
 .op (.pick t67 (.bool true) t71) fun t72 =>
 d7_r16_c1 e t72
def d7_r17 (e : Env) : Reg :=
 .op (.mv (.bool false)) fun t6 =>
 .done (e.upd 6 t6)
def d7_r18 (e : Env) : Reg :=
 .op (.bin .add (e 41) (.int .i64 1)) fun t93 =>
 .op (.mv t93) fun t41 =>
 .done (e.upd 41 t41)
def d7_l0 : CD := (.seq (.lift (.region d7_r11)) (.seq (.cond (fun e => e 42) (.lift .skip) (.lift (.exit 0))) (.seq (.block 1 (.seq (.lift (.region d7_r12)) (.seq (.lift (.region d7_r13)) (.seq (.lift (.region d7_r14)) (.seq (.lift (.region d7_r15)) (.seq (.lift (.region d7_r16)) (.cond (fun e => e 92) (.seq (.lift (.region d7_r17)) (.lift .ret)) (.lift .skip)))))))) (.lift (.region d7_r18)))))
def d7_r19 (e : Env) : Reg :=
 .op (.mv (e 8)) fun t94 =>
 .op (.call 27 [t94, (.int .i64 0)]) fun t95 =>
 .op (.call 28 [t95]) fun t96 =>
 .op (.field 0 none t96) fun t97 =>
 .op (.bin .eql t97 (.int .i64 0)) fun t98 =>
 .op (.mv t98) fun t6 =>
 .done (e.upd 6 t6)
def RD7 := an (ro d7_r0.eq_1) <| an (rod d7_r1.eq_1) <| an (ro d7_r2.eq_1) <| an (ro d7_r3.eq_1) <| an (ro d7_r4.eq_1) <| an (ro d7_r5.eq_1) <| an (ro d7_r6.eq_1) <| an (ro d7_r7.eq_1) <| an (ro d7_r8.eq_1) <| an (ro d7_r9.eq_1) <| an (ro d7_r10.eq_1) <| an (ro d7_r11.eq_1) <| an (ro d7_r12.eq_1) <| an (ro5 d7_r13_c1.eq_1) <| an (ro d7_r13.eq_1) <| an (ro d7_r14.eq_1) <| an (ro4 d7_r15_c1.eq_1) <| an (ro d7_r15.eq_1) <| an (ro3 d7_r16_c3.eq_1) <| an (ro5 d7_r16_c2.eq_1) <| an (ro1 d7_r16_c1.eq_1) <| an (ro d7_r16.eq_1) <| an (ro d7_r17.eq_1) <| an (ro d7_r18.eq_1) <| ro d7_r19.eq_1
def d7 : DFn := ⟨(.seq (.lift (.region d7_r0)) (.seq (.seq (.rd d7_r1) (.cond (fun e => e 17) (.seq (.lift (.region d7_r2)) (.lift .ret)) (.lift .skip))) (.seq (.seq (.lift (.region d7_r3)) (.cond (fun e => e 20) (.seq (.lift (.region d7_r4)) (.lift .ret)) (.lift .skip))) (.seq (.lift (.region d7_r5)) (.seq (.lift (.region d7_r6)) (.seq (.lift (.region d7_r7)) (.seq (.lift (.region d7_r8)) (.seq (.lift (.region d7_r9)) (.seq (.seq (.lift (.region d7_r10)) (.block 0 (.loop d7_l0))) (.seq (.lift (.region d7_r19)) (.lift .ret))))))))))), [.t 6]⟩
end Go.Proofs.YtlakhgibjfmjjaaGreat.Can
namespace Go.Proofs.YtlakhgibjfmjjaaGreat.Can
open Go
def heap0 : Heap := ⟨fun _ => .gone, 0⟩
set_option maxRecDepth 1000000 in
theorem sound_run : (evFb cp 100 11 [] heap0).map (fun r => r.1) = some (.bool true) := by kernel_rfl
section
variable {P : Program} {S : Stay} {m : Map} {h : Heap} {w w1 : World}
theorem Out.grown (e : Emb P S m h w) (hk : ∀ k, k < w.heap.size → w1.heap[k]? = w.heap[k]?) (hs : w.heap.size ≤ w1.heap.size) (hos : w1.os = w.os) (ht : w1.tape = w.tape) (ho : w1.output = w.output) : Out P S m h w m h w1 :=
 ⟨⟨fun b L hb hl => Nat.lt_of_lt_of_le (e.lt b L hb hl) hs, e.inj, fun b L hb => by
  by_cases hl : (h.obj b).live = true
  ·exact (e.obj b L hb).of_block (hk _ (e.lt b L hb hl))
  ·cases hx : h.obj b with
   | gone => trivial
   | _ => rw [hx] at hl; exact absurd rfl hl, e.prot, e.far, fun k hk => Nat.lt_of_lt_of_le (e.sLt k hk) hs, e.wf⟩, Ext.refl m, fun _ hb => .inl hb, Nat.le_refl _, ⟨hos, ht, ho, hs, fun k hk' => hk k (e.sLt k hk')⟩, fun _ _ _ => rfl⟩
end
theorem Emb.none (P : Program) (w : World) : Emb P ⟨fun k => k < w.heap.size, fun _ => False⟩ (fun _ => Option.none) heap0 w :=
 ⟨fun b L hb => by simp at hb, fun b c L K hb => by simp at hb, fun b L hb => by simp at hb, fun b L hb => by simp at hb, fun b L hb => by simp at hb, fun k hk => hk.elim (fun q => q) False.elim, fun b hb => rfl⟩
def closedD (f0 : FuncId) (v0 : Value) : DSem := fun f args h R => f = f0 ∧ args = [] ∧ R v0 h
theorem closedD_ok {f0 : FuncId} {b : Bool} {n : Nat} (hr : (evFb cp n f0 [] heap0).map (fun r => r.1) = some (.bool b)) : DSOK Tryz.prog (closedD f0 (.bool b)) := by
 rintro f args h R ⟨rfl, rfl, hR⟩
 have hc := CALL_run hr
 refine ⟨?_, fun S m w args' ha e hf hg => ?_⟩
 ·obtain ⟨n, v, h1, he, _⟩ := hc
  exact (evF_sound progs n f [] heap0 v h1 he).has
 ·have ea : args' = #[] := Array.toList_eq_nil_iff.1 ha.of_nil
  subst ea
  refine (call_sound progs hc (VL.nil (fun _ => Option.none)) (Emb.none Tryz.prog w) (fun _ _ => rfl)).mono fun en w1 hp => ?_
  obtain ⟨v, v', h1, m1, rfl, rfl, hv, ho⟩ := hp
  exact ⟨_, v', h, m, rfl, hR, by rw [hv.bool_inv]; exact .bool b, Out.grown e (fun k hk => ho.wd.block k (.inl hk)) ho.wd.size ho.wd.os ho.wd.tape ho.wd.output⟩
def soundD : DSem := closedD 11 (.bool true)
theorem soundD_ok : DSOK Tryz.prog soundD := closedD_ok sound_run
open Go.ChangeShapes Go.WideShapes Go.Deep Go.RowKit in
theorem law_soundE {P : Program} {CP : CProg} {DS : DSem} (hP : Progs P CP) (hDS : DSOK P DS) {D : FuncId → Bool} {f : FuncId} {F : Func} (hF : P.funcs[f]? = some F) {p : Pers} {fn : DFn} (hfn : toFnD P D p F = some fn) {args : List Value} {h : Heap} (hc : CALLD CP DS fn args h fun v _ => v = .bool true) {m : Map} {W : World} {args' : Array Value} (ha : VL m args args'.toList) (hE : Emb P ⟨fun k => k < W.heap.size, fun _ => False⟩ m h W) (hf : ∀ b, h.next ≤ b → m b = none) (hgl : GlobOK m := by intro g hg; exact absurd hg (by simp [GLN])) :
  Calls P f args' W fun e W' => e = .returned (.bool true) ∧ Below W.heap.size W W' := by
 refine (callD_sound hP hDS hF hfn hc ha hE hf hgl).mono fun e W' hp => ?_
 obtain ⟨v, v', h1, m1, rfl, rfl, hv, ho⟩ := hp
 refine ⟨by rw [hv.bool_inv], ho.wd.os, ho.wd.tape, ho.wd.output, ho.wd.size, fun k hk => ho.wd.block k (.inl hk)⟩
end Go.Proofs.YtlakhgibjfmjjaaGreat.Can
namespace Go.Proofs.YtlakhgibjfmjjaaGreat.Can
open Go
attribute [local congr] RunR_congr RunC_congr afterR_congr guardR_congr condQ_congr CALL_congr finQ_congr op_congr opg_congr evD_congr condE_congr runRD_congr
theorem ansB_byts (op ver rem ret : Int) (hop : 0 ≤ op ∧ op < 128) (hv : 0 ≤ ver ∧ ver < 256) : Byts (ansB op ver rem ret) := fun x hx => by
 rw [ansB_eq] at hx
 simp only [List.mem_cons] at hx
 rcases hx with rfl | rfl | rfl | rfl | rfl | hx
 iterate 5 omega
 unfold ans17 at hx
 rcases List.mem_cons.1 hx with rfl | hx
 ·omega
 ·exact ((encI_byts _).app (encI_byts _)) x hx
def hzAns (st : SrvV × List EvT) (q : ReqV) : (SrvV × List EvT) × List Int :=
 (match st.1.ls[q.rule.toNat]? with
  | some l => ({ st.1 with ls := st.1.ls.set q.rule.toNat (l.cnt 2) }, st.2)
  | none => st, ansB 1 2 0 9223372036854775807)
def HzJ (st : SrvV × List EvT) : Prop := st.1.T ∧ 4611686018427387904 ≤ st.1.now ∧ ∃ l, st.1.ls[0]? = some l ∧ l.al = 0
theorem hz_host {a : SrvA} {A : CA} {L : LA} (hA : a.cas[0]? = some A) (hL : a.las = [L]) (hAr : A.rr = a.las.length) (ok : L.R.OK) (ap : ∀ z, A.own z → ¬ L.own z) (N : Nat) :
  Host (SrvV × List EvT) a.s L.own A (fun hh st => HI a 0 N hh st ∧ HzJ st) (fun q => q.op = 1 ∧ q.cost = 1) (fun _ _ => 22) hzAns where
 keep := fun I o => ⟨I.1.keep hA o, I.2⟩
 most_ok := fun {h st q Q} I rq hq hQ => by
  obtain ⟨⟨ev, eb, S, V, e⟩, J⟩ := I
  rw [hAr] at rq
  have r1 := rq.rule
  rw [hL] at r1
  have hl : a.las[q.rule.toNat]? = some L := by
   rw [hL, show q.rule.toNat = 0 by simp at r1; omega]; rfl
  refine most_ok2 S rq hl ok fun h' o => ?_
  have : mostS q.op q.k L.R.T = 22 := by rw [hq.1]; rfl
  rw [this]
  exact hQ h' o
 ans_ok := fun {h st q Q} I rq hq hQ => by
  obtain ⟨⟨ev, eb, S, V, e⟩, J⟩ := I
  rw [hAr] at rq
  have r1 := rq.rule
  rw [hL] at r1
  have q0 : q.rule.toNat = 0 := by simp at r1; omega
  have hl : a.las[q.rule.toNat]? = some L := by rw [hL, q0]; rfl
  obtain ⟨J1, J2, l, J3, J4⟩ := J
  have B1 := ok.B
  have hr : refuseS L.R.B st.1.now (heldS st.1.now st.1.first st.1.again L.R.Wd) q.cost = some (2, 9223372036854775807) := by
   unfold refuseS
   rw [if_neg (by have := hq.2; omega), if_pos J2]
  have hll : st.1.ls[q.rule.toNat]? = some l := by rw [q0]; exact J3
  refine ans_refused S J1 rq hq.1 hl hll (by decide) hr fun h' u b o S' V' hb => ?_
  refine hQ h' u b o ?_ V' hb
  have an : (hzAns st q).1 = ({ st.1 with ls := st.1.ls.set q.rule.toNat (l.cnt 2) }, st.2) := by
   unfold hzAns; rw [hll]
  rw [an]
  refine ⟨⟨ev, eb, S', ?_, e⟩, ⟨J1.now, J1.first⟩, J2, l.cnt 2, ?_, ?_⟩
  ·rcases e with ⟨e1, e2⟩ | e
   ·show Vec h' _ EvE ev st.2 eb
    rw [e1, e2]; exact Vec.nil _ _ _ _
   ·refine V.keep o.next fun hlb => o.obj eb hlb fun hz => e.1 (.inr (.inr (.inr (.inr (.inr ⟨_, L, hl, hz⟩)))))
  ·show (st.1.ls.set q.rule.toNat (l.cnt 2))[0]? = _
   rw [q0, List.getElem?_set_self (List.getElem?_eq_some_iff.1 J3).1]
  ·show (if (2 : Int) = 1 then IntKind.i64.wrap (l.al + 1) else l.al) = 0
   rw [if_neg (by decide)]; exact J4
 len := fun {h st q} I rq hq => by
  constructor
  ·show ((ansB 1 2 0 9223372036854775807).length : Int) ≤ 22
   rw [ansB_len]; decide
  ·exact ansB_byts _ _ _ _ (by decide) (by decide)
 apart := ap
theorem or_i62 (y : Int) (h0 : 0 ≤ y) (h1 : y < 4611686018427387904) : IntKind.i64.wrap ((BitVec.ofInt IntKind.i64.bits y ||| BitVec.ofInt IntKind.i64.bits 4611686018427387904).toNat : Int) = 4611686018427387904 + y := by
 rw [BitVec.or_comm]
 exact bits_join .i64 63 (by decide) (i64_low 63 (by decide)) 62 4611686018427387904 y (by decide) (by decide) (by decide) h0 h1 (by omega)
def Plan9 (x : RuleT) : Prop := True
theorem lst_one {α : Type} {h : Heap} {E : Enc α} {b : Nat} {t : TypeId} {g : How} (x : α) (hb : b < h.next) (ho : h.obj b = .cells (E.enc x) t g) (hl : (E.enc x).length = E.sz) : Lst h E (.slice (some ⟨b, 0, none⟩) 1 1) [x] := by
 refine ⟨_, 1, rfl, fun i y hy => ?_⟩
 have hi := (List.getElem?_eq_some_iff.1 hy).1
 have : i = 0 := by simpa using hi
 subst this
 obtain rfl : x = y := by simpa using hy
 refine ⟨b, 0, rfl, hb, ?_⟩
 rw [ho, read_cells, if_pos (by rw [hl]; omega)]
 simp [← hl]
theorem byts_frame {q : ReqV} {kl : List Int} (hk : Byts kl) (hq : q = ⟨1, 0, 1, kl, 0⟩) : Byts (frameB q) := by
 subst hq
 show Byts (wholeB 167 ([1 % 256, 0 % 256] ++ (encN 4 1 ++ [(kl.length : Int) % 256] ++ kl)))
 have h0 : Byts [(1 : Int) % 256, 0 % 256] := fun x hx => by simp at hx; omega
 have h1 : Byts [(kl.length : Int) % 256] := fun x hx => by simp at hx; omega
 have h2 : ∀ l : List Int, Byts l → Byts (wholeB 167 l) := fun l hl => by
  have : Byts [(167 : Int), 1, (l.length : Int) / 256 % 256, (l.length : Int) % 256] := fun x hx => by simp at hx; omega
  exact this.app hl
 exact h2 _ (h0.app (((encN_byts 4 1).app h1).app hk))
set_option maxHeartbeats 4000000 in
theorem wholeHorizon_law (h : Heap) (p : RuleT) (_ : ((Lit.int .i64 p.1).wf = true ∧ (Lit.int .i64 p.2.1).wf = true ∧ (Lit.int .i64 p.2.2.1).wf = true ∧ (Lit.int .i64 p.2.2.2.1).wf = true ∧ (Lit.int .i64 p.2.2.2.2.1).wf = true ∧ (Lit.int .i64 p.2.2.2.2.2.1).wf = true ∧ (Lit.int .i64 p.2.2.2.2.2.2.1).wf = true ∧ (Lit.int .i64 p.2.2.2.2.2.2.2.1).wf = true ∧ True))
  (n0 : Int) (_ : (Lit.int .i64 n0).wf = true) (v : Value) (l : List PlCall) (hs : SlIn h PlCallE v l) (_ : l.length ≤ maxLen) (hg : ∀ x ∈ l, ((Lit.int .i64 x.1).wf = true ∧ (Lit.int .i64 x.2.1).wf = true ∧ x.2.2.1.size ≤ maxLen ∧ True)) :
  CALLD cp soundD d7 [.agg (RE.enc p).toArray, .int .i64 n0, v] h fun v _ => v = .bool true := by
 obtain ⟨pl, pw, pb, ps, pc, pr, pd, pt, pm⟩ := p
 obtain ⟨P, hP⟩ : ∃ P : RuleT, P = (pl, pw, pb, ps, pc, pr, pd, pt, pm) := ⟨_, rfl⟩
 show CALLD cp soundD d7 [.agg #[.int .i64 pl, .int .i64 pw, .int .i64 pb, .int .i64 ps, .int .i64 pc, .int .i64 pr, .int .i64 pd, .int .i64 pt, .bool pm], .int .i64 n0, v] h fun v _ => v = .bool true
 unfold CALLD
 obtain ⟨h1, h1d⟩ : ∃ h1, h1 = h.new (.cells [.int .i64 pl, .int .i64 pw, .int .i64 pb, .int .i64 ps, .int .i64 pc, .int .i64 pr, .int .i64 pd, .int .i64 pt, .bool pm] 23 .fix) := ⟨_, rfl⟩
 have o1 : Old h h1 := by rw [h1d]; exact (Old.refl h).more _
 have n1 : h1.next = h.next + 1 := by rw [h1d]; rfl
 have g1 : h1.obj h.next = .cells [.int .i64 pl, .int .i64 pw, .int .i64 pb, .int .i64 ps, .int .i64 pc, .int .i64 pr, .int .i64 pd, .int .i64 pt, .bool pm] 23 .fix := by rw [h1d]; exact obj_new_same _ _
 have s1 := hs.sl.old o1
 simp (disch := omega) only [d7, ↓RD7, ← h1d, ↓RnP, RnQ, Nat.reduceEqDiff, Nat.reduceAdd, Nat.reduceMul, Nat.reduceSub, Nat.reduceLT, Nat.reduceLeDiff, Nat.reduceBEq, Int.reduceLT, Int.reduceLE, reduceCtorEq, Int.reduceToNat, Int.reduceAdd, Int.reduceSub, Int.reduceMul, ↓evD_lift, ↓evD_seq, ↓evD_cond, ↓evD_block, ↓seqE_normal, ↓seqE_ret, ↓seqE_exit, condE_true, condE_false, ↓evD_rd, ↓runRD_mv, ↓runRD_un, afterRD_some, ↓runRD_done, ↓runRD_dcall]
 refine ⟨rfl, rfl, ?_⟩
 simp (disch := omega) only [d7, ↓RD7, ↓RnP, RnQ, Nat.reduceEqDiff, Nat.reduceAdd, Nat.reduceMul, Nat.reduceSub, Nat.reduceLT, Nat.reduceLeDiff, Nat.reduceBEq, Int.reduceLT, Int.reduceLE, reduceCtorEq, Int.reduceToNat, Int.reduceAdd, Int.reduceSub, Int.reduceMul, ↓evD_lift, ↓evD_seq, ↓evD_cond, ↓evD_block, ↓seqE_normal, ↓seqE_ret, ↓seqE_exit, condE_true, condE_false, ↓evD_rd, ↓runRD_mv, ↓runRD_un, afterRD_some, ↓runRD_done, ↓runRD_dcall]
 refine light_ok h1 v l s1 (fun c hc => (hg c hc).2.2.1) fun h2 o2 => ?_
 have n2 := o2.next
 by_cases hL : LightL l
 rotate_left
 ·have b1 := decide_eq_false hL
  simp (disch := omega) only [d7, ↓RD7, b1, ↓RnP, RnQ, Nat.reduceEqDiff, Nat.reduceAdd, Nat.reduceMul, Nat.reduceSub, Nat.reduceLT, Nat.reduceLeDiff, Nat.reduceBEq, Int.reduceLT, Int.reduceLE, reduceCtorEq, Int.reduceToNat, Int.reduceAdd, Int.reduceSub, Int.reduceMul, ↓evD_lift, ↓evD_seq, ↓evD_cond, ↓evD_block, ↓seqE_normal, ↓seqE_ret, ↓seqE_exit, condE_true, condE_false, ↓evD_rd, ↓runRD_mv, ↓runRD_un, afterRD_some, ↓runRD_done, ↓runRD_dcall]
 have b1 := decide_eq_true hL
 have g2 := (o2.obj h.next (by omega)).trans g1
 obtain ⟨h3, h3d⟩ : ∃ h3, h3 = h2.new (.cells [.int .i64 pl, .int .i64 pw, .int .i64 pb, .int .i64 ps, .int .i64 pc, .int .i64 pr, .int .i64 pd, .int .i64 pt, .bool pm] 23 .grow) := ⟨_, rfl⟩
 have o3 : Old h2 h3 := by rw [h3d]; exact (Old.refl h2).more _
 have n3 : h3.next = h2.next + 1 := by rw [h3d]; rfl
 have L3 : Lst h3 RE (.slice (some ⟨h2.next, 0, none⟩) 1 1) [P] := lst_one P (by omega) (by rw [h3d, hP]; exact obj_new_same _ _) (by rw [hP]; rfl)
 simp (disch := omega) only [d7, ↓RD7, b1, g2, fillIn, reps, List.append_nil, ← h3d, ↓RnP, RnQ, Nat.reduceEqDiff, Nat.reduceAdd, Nat.reduceMul, Nat.reduceSub, Nat.reduceLT, Nat.reduceLeDiff, Nat.reduceBEq, Int.reduceLT, Int.reduceLE, reduceCtorEq, Int.reduceToNat, Int.reduceAdd, Int.reduceSub, Int.reduceMul, ↓evD_lift, ↓evD_seq, ↓evD_cond, ↓evD_block, ↓seqE_normal, ↓seqE_ret, ↓seqE_exit, condE_true, condE_false, ↓evD_rd, ↓runRD_mv, ↓runRD_un, afterRD_some, ↓runRD_done, ↓runRD_dcall]
 refine config_ok h3 _ [P] L3 (by simp) 0 fun h4 v4 b4 o4 V4 hb4 => ?_
 have n4 := o4.next
 have hRs : planRs [P] = [planR P] := rfl
 rw [hRs] at V4
 have cfg := cfgSmall [planR P] (fun r hr => by rw [List.mem_singleton.1 hr]; exact planR_ok P) (by simp) 0 (by decide)
 obtain ⟨va, vc, rfl, _⟩ := V4.val
 obtain ⟨h5, h5d⟩ : ∃ h5, h5 = (h4.new (.cells [.int .i64 0, .int .i64 0, .int .i64 0, .slice none 0 0] 30 .fix)).upd h4.next (.cells [.int .i64 4294967296, .int .i64 3, .int .i64 (660 + 0 % 256), .slice va 1 vc] 30 .fix) := ⟨_, rfl⟩
 have o5 : Old h4 h5 := by rw [h5d]; exact (Old.refl h4).put _ _
 have n5 : h5.next = h4.next + 1 := by rw [h5d]; rfl
 have g5 : h5.obj h4.next = .cells [.int .i64 4294967296, .int .i64 3, .int .i64 660, .slice va 1 vc] 30 .fix := by rw [h5d]; exact obj_upd_same _ _ _
 have V5 := V4.old o5
 simp (disch := omega) only [d7, ↓RD7, List.map_cons, List.map_nil, List.length_cons, List.length_nil, ← h5d, g5, ↓RnP, RnQ, Nat.reduceEqDiff, Nat.reduceAdd, Nat.reduceMul, Nat.reduceSub, Nat.reduceLT, Nat.reduceLeDiff, Nat.reduceBEq, Int.reduceLT, Int.reduceLE, reduceCtorEq, Int.reduceToNat, Int.reduceAdd, Int.reduceSub, Int.reduceMul, ↓evD_lift, ↓evD_seq, ↓evD_cond, ↓evD_block, ↓seqE_normal, ↓seqE_ret, ↓seqE_exit, condE_true, condE_false, ↓evD_rd, ↓runRD_mv, ↓runRD_un, afterRD_some, ↓runRD_done, ↓runRD_dcall]
 refine newSrv_ok h5 4294967296 3 660 (.slice va 1 vc) [planR P] b4 V5 cfg (fun r hr => by rw [List.mem_singleton.1 hr]; exact planR_ok P) (.slice none 0 0) [] (by simp) ⟨none, 0, rfl, fun i x hx => by simp at hx⟩ fun h6 a o6 S6 hlas hcas hou hrows hown => ?_
 have n6 := o6.next
 obtain ⟨L, hLs, hLR⟩ : ∃ L, a.las = [L] ∧ L.R = planR P := by
  cases e : a.las with
  | nil => rw [e] at hlas; simp at hlas
  | cons x t => cases t with
   | nil => rw [e] at hlas; exact ⟨x, rfl, by simpa using hlas⟩
   | cons y z => rw [e] at hlas; simp at hlas
 obtain ⟨A, hA⟩ : ∃ A, a.cas[0]? = some A := ⟨a.cas[0]'(by omega), List.getElem?_eq_getElem _⟩
 obtain ⟨hAr, hAS⟩ := S6.cr 0 A hA
 have ap : ∀ z, A.own z → ¬ L.own z := fun z h1 h2 => by
  have e1 := S6.tC 0 A z hA h1
  have e2 := S6.tL 0 L z (by rw [hLs]; rfl) h2
  omega
 have ok : L.R.OK := by rw [hLR]; exact planR_ok P
 have r1 : (a.las.length : Int) = 1 := by rw [hLs]; rfl
 simp (disch := omega) only [d7, ↓RD7, fillIn, ↓RnP, RnQ, Nat.reduceEqDiff, Nat.reduceAdd, Nat.reduceMul, Nat.reduceSub, Nat.reduceLT, Nat.reduceLeDiff, Nat.reduceBEq, Int.reduceLT, Int.reduceLE, reduceCtorEq, Int.reduceToNat, Int.reduceAdd, Int.reduceSub, Int.reduceMul, ↓evD_lift, ↓evD_seq, ↓evD_cond, ↓evD_block, ↓seqE_normal, ↓seqE_ret, ↓seqE_exit, condE_true, condE_false, ↓evD_rd, ↓runRD_mv, ↓runRD_un, afterRD_some, ↓runRD_done, ↓runRD_dcall]
 refine do_open (k := 0) S6 hA (c := cv0) rfl rfl 0 0 fun h7 o7 S7 => ?_
 have n7 := o7.next
 obtain ⟨m, hm, m0, m1⟩ : ∃ m, n0 % 2 ^ 62 = m ∧ 0 ≤ m ∧ m < 4611686018427387904 := ⟨_, rfl, by omega, by omega⟩
 have a1 := and_i64 62 (by decide) n0 4611686018427387903 (by decide)
 have a2 := or_i62 m m0 m1
 simp (disch := omega) only [d7, ↓RD7, a1, hm, a2, fillIn, ↓RnP, RnQ, Nat.reduceEqDiff, Nat.reduceAdd, Nat.reduceMul, Nat.reduceSub, Nat.reduceLT, Nat.reduceLeDiff, Nat.reduceBEq, Int.reduceLT, Int.reduceLE, reduceCtorEq, Int.reduceToNat, Int.reduceAdd, Int.reduceSub, Int.reduceMul, ↓evD_lift, ↓evD_seq, ↓evD_cond, ↓evD_block, ↓seqE_normal, ↓seqE_ret, ↓seqE_exit, condE_true, condE_false, ↓evD_rd, ↓runRD_mv, ↓runRD_un, afterRD_some, ↓runRD_done, ↓runRD_dcall]
 refine do_drain (k := 0) S7 hA (c := cvOpen A.rr) rfl rfl (4611686018427387904 + m) 0 fun h8 u8 b8 o8 S8 V8 hb8 => ?_
 have n8 := o8.next
 obtain ⟨sa, scap, rfl, hrd⟩ := hs.sl
 have oh6 : Old h h6 := ((((o1.trans o2).trans o3).trans o4).trans o5).trans o6
 have ofs : ∀ {hh hk : Heap}, Old h hh → OldF (a.own none) hh hk → Old h hk := fun o q => ⟨Nat.le_trans o.next q.next, fun z hz => by rw [q.obj z (Nat.lt_of_lt_of_le hz o.next) (fun hz' => by have := hown z hz'; omega), o.obj z hz]⟩
 have oh8 : Old h h8 := ofs (ofs oh6 o7) o8
 have T8 : ({ ({ (srvV0 3 [planR P]).rd 0 with cs := (srvV0 3 [planR P]).cs.set 0 (cvOpen A.rr) } : SrvV).rd (4611686018427387904 + m) with cs := (({ (srvV0 3 [planR P]).rd 0 with cs := (srvV0 3 [planR P]).cs.set 0 (cvOpen A.rr) } : SrvV).cs).set 0 { cvOpen A.rr with qs := (cvOpen A.rr).qs.drop (0 : Int).toNat } } : SrvV).T := by
  refine ⟨?_, ?_⟩
  ·show 0 ≤ max (max (max (max 0 0) 0) (4611686018427387904 + m)) 0 ∧ I64 (max (max (max (max 0 0) 0) (4611686018427387904 + m)) 0)
   unfold I64; omega
  ·show 0 ≤ max (max (0 : Int) 0) 0 ∧ I64 (max (max (0 : Int) 0) 0)
   unfold I64; omega
 obtain ⟨v8, hv8⟩ : ∃ v8, v8 = ({ ({ (srvV0 3 [planR P]).rd 0 with cs := (srvV0 3 [planR P]).cs.set 0 (cvOpen A.rr) } : SrvV).rd (4611686018427387904 + m) with cs := (({ (srvV0 3 [planR P]).rd 0 with cs := (srvV0 3 [planR P]).cs.set 0 (cvOpen A.rr) } : SrvV).cs).set 0 { cvOpen A.rr with qs := (cvOpen A.rr).qs.drop (0 : Int).toNat } } : SrvV) := ⟨_, rfl⟩
 have w8 : v8.now = 4611686018427387904 + m := by
  rw [hv8]
  show max (max (max (max 0 0) 0) (4611686018427387904 + m)) 0 = _
  omega
 have c8 : v8.cs[0]? = some (cvOpen A.rr) := by rw [hv8]; rfl
 have l8 : v8.ls[0]? = some (limV0 (planR P)) := by rw [hv8]; rfl
 rw [← hv8] at S8 T8
 simp (disch := omega) only [d7, ↓RD7, ↓RnP, RnQ, Nat.reduceEqDiff, Nat.reduceAdd, Nat.reduceMul, Nat.reduceSub, Nat.reduceLT, Nat.reduceLeDiff, Nat.reduceBEq, Int.reduceLT, Int.reduceLE, reduceCtorEq, Int.reduceToNat, Int.reduceAdd, Int.reduceSub, Int.reduceMul, ↓evD_lift, ↓evD_seq, ↓evD_cond, ↓evD_block, ↓seqE_normal, ↓seqE_ret, ↓seqE_exit, condE_true, condE_false, ↓evD_rd, ↓runRD_mv, ↓runRD_un, afterRD_some, ↓runRD_done, ↓runRD_dcall]
 refine evD_loop d7_l0 _ (fun d e hh => ∃ (j : Nat) (vv : SrvV) (c : CV), j + d = l.length ∧ Old h hh ∧ h6.next ≤ hh.next ∧ SrvAt hh a vv nilS none ∧ vv.T ∧ 4611686018427387904 + m ≤ vv.now ∧ vv.cs[0]? = some c ∧ c.w = true ∧ c.r = A.rr ∧ c.e = 0 ∧ c.n = 0 ∧ c.bs.length = 75 ∧ c.qs = [] ∧ (∃ l0, vv.ls[0]? = some l0 ∧ l0.al = 0) ∧
   e 1 = .int .i64 (4611686018427387904 + m) ∧ e 8 = .pointer (some ⟨a.s, 0, none⟩) ∧ e 39 = .slice sa l.length scap ∧ e 40 = .int .i64 l.length ∧ e 41 = .int .i64 j) ?_ l.length _ _
  ⟨0, v8, cvOpen A.rr, by omega, oh8, by omega, S8, T8, by omega, c8, rfl, rfl, rfl, rfl, List.length_replicate, rfl, ⟨_, l8, rfl⟩, rfl, rfl, rfl, rfl, rfl⟩
 rintro d e hh ⟨j, vv, c, hj, oh, hn, S, T, hnow, hc, cw, crr, ce, cn, cbs, cqs, ⟨l0, hl0, hal⟩, e1, e8, e39, e40, e41⟩
 have ohn := oh.next
 by_cases cj : j < l.length
 rotate_left
 ·have b2 : decide ((j : Int) < (l.length : Int)) = false := decide_eq_false (by omega)
  obtain rfl : j = l.length := by omega
  have fR := fun Q => srvRule_ok S (i := 0) (L := L) (by rw [hLs]; rfl) Q
  simp (disch := omega) only [d7_l0, d7, ↓RD7, e1, e8, e39, e40, e41, b2, Int.natCast_zero, ↓RnP, RnQ, Nat.reduceEqDiff, Nat.reduceAdd, Nat.reduceMul, Nat.reduceSub, Nat.reduceLT, Nat.reduceLeDiff, Nat.reduceBEq, Int.reduceLT, Int.reduceLE, reduceCtorEq, Int.reduceToNat, Int.reduceAdd, Int.reduceSub, Int.reduceMul, ↓evD_lift, ↓evD_seq, ↓evD_cond, ↓evD_block, ↓seqE_normal, ↓seqE_ret, ↓seqE_exit, condE_true, condE_false, ↓evD_rd, ↓runRD_mv, ↓runRD_un, afterRD_some, ↓runRD_done, ↓runRD_dcall]
  refine (fR _).2 ?_
  simp (disch := omega) only [d7, ↓RD7, ↓RnP, RnQ, Nat.reduceEqDiff, Nat.reduceAdd, Nat.reduceMul, Nat.reduceSub, Nat.reduceLT, Nat.reduceLeDiff, Nat.reduceBEq, Int.reduceLT, Int.reduceLE, reduceCtorEq, Int.reduceToNat, Int.reduceAdd, Int.reduceSub, Int.reduceMul, ↓evD_lift, ↓evD_seq, ↓evD_cond, ↓evD_block, ↓seqE_normal, ↓seqE_ret, ↓seqE_exit, condE_true, condE_false, ↓evD_rd, ↓runRD_mv, ↓runRD_un, afterRD_some, ↓runRD_done, ↓runRD_dcall]
  refine totals_ok (S.L 0 L l0 (by rw [hLs]; rfl) hl0) fun h9 o9 => ?_
  unfold totV
  rw [hal]
  simp (disch := omega) only [d7, ↓RD7, Int.reduceBEq, ↓RnP, RnQ, Nat.reduceEqDiff, Nat.reduceAdd, Nat.reduceMul, Nat.reduceSub, Nat.reduceLT, Nat.reduceLeDiff, Nat.reduceBEq, Int.reduceLT, Int.reduceLE, reduceCtorEq, Int.reduceToNat, Int.reduceAdd, Int.reduceSub, Int.reduceMul, ↓evD_lift, ↓evD_seq, ↓evD_cond, ↓evD_block, ↓seqE_normal, ↓seqE_ret, ↓seqE_exit, condE_true, condE_false, ↓evD_rd, ↓runRD_mv, ↓runRD_un, afterRD_some, ↓runRD_done, ↓runRD_dcall]
 have b2 : decide ((j : Int) < (l.length : Int)) = true := decide_eq_true (by omega)
 have nx : (j : Int) + 1 = ((j + 1 : Nat) : Int) := by omega
 have wj : IntKind.i64.wrap ((j + 1 : Nat) : Int) = ((j + 1 : Nat) : Int) := by have := hL.1; rw [wi64]; omega
 have hx : l[j]? = some l[j] := List.getElem?_eq_getElem cj
 obtain ⟨x, hxd⟩ : ∃ x, x = l[j] := ⟨_, rfl⟩
 rw [← hxd] at hx
 obtain ⟨bx, of, rfl, hbx, hr⟩ := hrd j x hx
 rw [← oh.obj bx hbx] at hr
 have hmem := List.mem_of_getElem? hx
 have hsz := hL.2 x hmem
 obtain ⟨g, co, key, pk⟩ := x
 have hr : (hh.obj bx).read (of + j * 4) 4 = some [.int .i64 g, .int .i64 co, .string key, .bool pk] := hr
 simp only at hsz
 obtain ⟨kl, hkl, rfl⟩ := bs_of key
 rw [bs_size] at hsz
 have sh := shr_k .i64 g 2 (by decide)
 obtain ⟨h9, h9d⟩ : ∃ h9, h9 = (hh.new (.cells [.int .i64 0, .int .i64 0, .string ⟨#[]⟩, .bool false] 48 .fix)).upd hh.next (.cells [.int .i64 g, .int .i64 co, .string (bs kl), .bool pk] 48 .fix) := ⟨_, rfl⟩
 have o9 : Old hh h9 := by rw [h9d]; exact (Old.refl hh).put _ _
 have n9 : h9.next = hh.next + 1 := by rw [h9d]; rfl
 have g9 : h9.obj hh.next = .cells [.int .i64 g, .int .i64 co, .string (bs kl), .bool pk] 48 .fix := by rw [h9d]; exact obj_upd_same _ _ _
 simp (disch := omega) only [d7_l0, d7, ↓RD7, e1, e8, e39, e40, e41, b2, hr, ← h9d, g9, sh, fillIn, ↓RnP, RnQ, Nat.reduceEqDiff, Nat.reduceAdd, Nat.reduceMul, Nat.reduceSub, Nat.reduceLT, Nat.reduceLeDiff, Nat.reduceBEq, Int.reduceLT, Int.reduceLE, reduceCtorEq, Int.reduceToNat, Int.reduceAdd, Int.reduceSub, Int.reduceMul, ↓evD_lift, ↓evD_seq, ↓evD_cond, ↓evD_block, ↓seqE_normal, ↓seqE_ret, ↓seqE_exit, condE_true, condE_false, ↓evD_rd, ↓runRD_mv, ↓runRD_un, afterRD_some, ↓runRD_done, ↓runRD_dcall]
 refine encode_ok h9 1 0 1 kl 0 (.inl rfl) (by decide) hkl hsz fun h10 v10 b10 V10 o10 hb10 => ?_
 have n10 := o10.next
 have g10 := (o10.obj hh.next (by omega)).trans g9
 have S10 := S.old (o9.trans o10)
 obtain ⟨q, hq⟩ : ∃ q : ReqV, q = ⟨1, 0, 1, kl, 0⟩ := ⟨_, rfl⟩
 have hqc : ReqC A.rr q := by
  rw [hq]
  exact ⟨⟨.inl rfl, by rw [hAr, r1]; show (0 : Int) ≤ 0 ∧ (0 : Int) < 1 ∧ (0 : Int) < 256; decide, by show (0 : Int) ≤ 1 ∧ (1 : Int) < 4294967296; decide, hsz, hkl, by show (0 : Int) ≤ 0 ∧ (0 : Int) < 256; decide⟩, fun _ => rfl, fun h => by simp at h, fun _ => rfl⟩
 have hfb : frameB q = wholeB 167 (reqB 1 0 1 kl 0) := by rw [hq]; rfl
 rw [← hfb] at V10
 obtain ⟨bs', hbs', hacc⟩ := accept_req (fun _ _ => 22) hzAns A.S hqc (vv.rd (g / 2 ^ 2), []) c cbs ce cn crr (by rw [cqs, hAS, hou]; decide)
 have hin : Fr (frameB q) A.rr ∧ reqOf (frameB q) = q ∧ (frameB q).length ≤ 75 := frameB_ok hqc
 obtain ⟨fa, fcap, hv10, _⟩ := V10.val
 obtain ⟨fl, hfl⟩ : ∃ n, n = (frameB q).length := ⟨_, rfl⟩
 rw [← hfl] at hv10
 subst hv10
 simp (disch := omega) only [d7, ↓RD7, e1, e8, e39, e40, e41, g10, fillIn, ↓RnP, RnQ, Nat.reduceEqDiff, Nat.reduceAdd, Nat.reduceMul, Nat.reduceSub, Nat.reduceLT, Nat.reduceLeDiff, Nat.reduceBEq, Int.reduceLT, Int.reduceLE, reduceCtorEq, Int.reduceToNat, Int.reduceAdd, Int.reduceSub, Int.reduceMul, ↓evD_lift, ↓evD_seq, ↓evD_cond, ↓evD_block, ↓seqE_normal, ↓seqE_ret, ↓seqE_exit, condE_true, condE_false, ↓evD_rd, ↓runRD_mv, ↓runRD_un, afterRD_some, ↓runRD_done, ↓runRD_dcall]
 have hgr : I64 g := wf_i64 (hg _ hmem).1
 have Trd : ({ (vv.rd (g / 2 ^ 2)) with cs := vv.cs } : SrvV).T ∧ (vv.rd (g / 2 ^ 2)).T ∧ 4611686018427387904 + m ≤ (vv.rd (g / 2 ^ 2)).now := by
  have t1 := T.now
  have t2 := T.first
  unfold I64 at t1 t2 hgr
  have hnw : (vv.rd (g / 2 ^ 2)).now = max (max vv.now (g / 2 ^ 2)) 0 := rfl
  have hfr : (vv.rd (g / 2 ^ 2)).first = if vv.read then vv.first else max (max vv.now (g / 2 ^ 2)) 0 := rfl
  have : (vv.rd (g / 2 ^ 2)).T := by
   refine ⟨?_, ?_⟩
   ·rw [hnw]; unfold I64; omega
   ·rw [hfr]; unfold I64; split <;> omega
  exact ⟨this, this, by rw [hnw]; omega⟩
 refine do_chunk (k := 0) (F := fun _ => L.own) (fun N => hz_host hA hLs hAr ok ap N) (fun N z hz => .inl (.inr (.inr (.inr (.inr (.inr ⟨0, L, by rw [hLs]; rfl, hz⟩)))))) S10 hA hc cw crr (fun _ => by rw [cn]; exact ⟨by decide, .inl rfl⟩) (g / 2 ^ 2) 0
  ⟨Trd.2.1, by have := Trd.2.2; show 4611686018427387904 ≤ (vv.rd (g / 2 ^ 2)).now; omega, l0, hl0, hal⟩ (.slice fa fl fcap) (frameB q) V10.bys ?_ (by omega) ?_ ?_ fun h11 evv eb o11 J11 S11 V11 => ?_
 ·exact (byts_frame hkl hq)
 ·exact ok_req (fun _ _ => 22) hzAns A.S (okq := fun q => q.op = 1 ∧ q.cost = 1) hqc (by rw [hq]; exact ⟨rfl, rfl⟩) _ c cbs cn crr
 ·intro z o' cap' e hz
  have : z = b10 := V10.blk e
  have := S.lt hz
  omega
 rw [hacc] at J11 S11 V11
 rw [hacc]
 have n11 := o11.next
 have old11 : ∀ z, hh.next ≤ z → z < h10.next → h11.obj z = h10.obj z := fun z h1 h2 => o11.obj z h2 fun hz => by have := S.lt hz; omega
 have g11 := (old11 hh.next (by omega) (by omega)).trans g10
 have an : (hzAns (vv.rd (g / 2 ^ 2), []) q) = (({ vv.rd (g / 2 ^ 2) with ls := vv.ls.set 0 (l0.cnt 2) }, []), ansB 1 2 0 9223372036854775807) := by
  have : (vv.rd (g / 2 ^ 2)).ls[q.rule.toNat]? = some l0 := by rw [hq]; exact hl0
  unfold hzAns
  rw [this, hq]; rfl
 rw [an] at J11 S11 V11
 have cs0 : 0 < vv.cs.length := (List.getElem?_eq_some_iff.1 hc).1
 obtain ⟨v11, hv11⟩ : ∃ v11 : SrvV, v11 = { vv.rd (g / 2 ^ 2) with ls := vv.ls.set 0 (l0.cnt 2), cs := vv.cs.set 0 { c with bs := bs', n := 0, qs := c.qs ++ ansB 1 2 0 9223372036854775807 } } := ⟨_, rfl⟩
 have S11 : SrvAt h11 a v11 nilS none := by rw [hv11]; exact S11
 have c11 : v11.cs[0]? = some { c with bs := bs', n := 0, qs := ansB 1 2 0 9223372036854775807 } := by
  rw [hv11]
  show (vv.cs.set 0 _)[0]? = _
  rw [List.getElem?_set_self cs0, cqs]; rfl
 have T11 : v11.T := by rw [hv11]; exact ⟨Trd.2.1.now, Trd.2.1.first⟩
 have w11 : 4611686018427387904 + m ≤ v11.now := by rw [hv11]; exact Trd.2.2
 have l11 : ∃ l1, v11.ls[0]? = some l1 ∧ l1.al = 0 := by
  obtain ⟨_, _, l1, k1, k2⟩ := J11
  exact ⟨l1, by rw [hv11]; exact k1, k2⟩
 simp (disch := omega) only [d7, ↓RD7, e1, e8, e39, e40, e41, g11, fillIn, ↓RnP, RnQ, Nat.reduceEqDiff, Nat.reduceAdd, Nat.reduceMul, Nat.reduceSub, Nat.reduceLT, Nat.reduceLeDiff, Nat.reduceBEq, Int.reduceLT, Int.reduceLE, reduceCtorEq, Int.reduceToNat, Int.reduceAdd, Int.reduceSub, Int.reduceMul, ↓evD_lift, ↓evD_seq, ↓evD_cond, ↓evD_block, ↓seqE_normal, ↓seqE_ret, ↓seqE_exit, condE_true, condE_false, ↓evD_rd, ↓runRD_mv, ↓runRD_un, afterRD_some, ↓runRD_done, ↓runRD_dcall]
 refine do_drain (k := 0) S11 hA c11 cw 0 99 fun h12 u12 b12 o12 S12 V12 hb12 => ?_
 have n12 := o12.next
 have old12 : ∀ z, hh.next ≤ z → z < h11.next → h12.obj z = h11.obj z := fun z h1 h2 => o12.obj z h2 fun hz => by have := S.lt hz; omega
 have g12 := (old12 hh.next (by omega) (by omega)).trans g11
 have e22 : (ansB 1 2 0 9223372036854775807).take (99 : Int).toNat = ansB 1 2 0 9223372036854775807 := List.take_of_length_le (by rw [ansB_len]; decide)
 have d22 : (ansB 1 2 0 9223372036854775807).drop (99 : Int).toNat = [] := List.drop_eq_nil_of_le (by rw [ansB_len]; decide)
 have V12 : Vec h12 5 B8 u12 (ansB 1 2 0 9223372036854775807) b12 := by rw [← e22]; exact V12
 obtain ⟨ua, ucap, hu, _⟩ := V12.val
 rw [ansB_len] at hu
 subst hu
 obtain ⟨h13, h13d⟩ : ∃ h13, h13 = (h12.new (.cells [.int .i64 0, .int .i64 0, .slice none 0 0, .slice none 0 0] 42 .fix)).upd h12.next (.cells [.int .i64 0, .int .i64 0, .slice ua 22 ucap, .slice none 0 0] 42 .fix) := ⟨_, rfl⟩
 have o13 : Old h12 h13 := by rw [h13d]; exact (Old.refl h12).put _ _
 have n13 : h13.next = h12.next + 1 := by rw [h13d]; rfl
 have q13 : h13.obj h12.next = .cells [.int .i64 0, .int .i64 0, .slice ua 22 ucap, .slice none 0 0] 42 .fix := by rw [h13d]; exact obj_upd_same _ _ _
 have g13 := (o13.obj hh.next (by omega)).trans g12
 simp (disch := omega) only [d7, ↓RD7, e1, e8, e39, e40, e41, nilS, fillIn, ← h13d, q13, ↓RnP, RnQ, Nat.reduceEqDiff, Nat.reduceAdd, Nat.reduceMul, Nat.reduceSub, Nat.reduceLT, Nat.reduceLeDiff, Nat.reduceBEq, Int.reduceLT, Int.reduceLE, reduceCtorEq, Int.reduceToNat, Int.reduceAdd, Int.reduceSub, Int.reduceMul, ↓evD_lift, ↓evD_seq, ↓evD_cond, ↓evD_block, ↓seqE_normal, ↓seqE_ret, ↓seqE_exit, condE_true, condE_false, ↓evD_rd, ↓runRD_mv, ↓runRD_un, afterRD_some, ↓runRD_done, ↓runRD_dcall]
 refine readAns_ok h13 1 (.inl rfl) _ 2 0 9223372036854775807 (by decide) (by unfold I64; omega) (by unfold I64; omega) (V12.old o13).bys fun h14 o14 => ?_
 have n14 := o14.next
 have q14 := (o14.obj h12.next (by omega)).trans q13
 have g14 := (o14.obj hh.next (by omega)).trans g13
 obtain ⟨h15, h15d⟩ : ∃ h15, h15 = (h14.new (.cells (saidC 0 0 0 0) 66 .fix)).upd h14.next (.cells (saidC 1 2 0 9223372036854775807) 66 .fix) := ⟨_, rfl⟩
 have o15 : Old h14 h15 := by rw [h15d]; exact (Old.refl h14).put _ _
 have n15 : h15.next = h14.next + 1 := by rw [h15d]; rfl
 have q15 : h15.obj h14.next = .cells (saidC 1 2 0 9223372036854775807) 66 .fix := by rw [h15d]; exact obj_upd_same _ _ _
 have g15 := (o15.obj hh.next (by omega)).trans g14
 have S15 := (S12.old o13).old (o14.trans o15)
 have fN := fun Q => clkNow_ok S15.os Q
 obtain ⟨v12, hv12⟩ : ∃ v12 : SrvV, v12 = { v11.rd 0 with cs := v11.cs.set 0 { c with bs := bs', n := 0, qs := (ansB 1 2 0 9223372036854775807).drop (99 : Int).toNat } } := ⟨_, rfl⟩
 have S15' : SrvAt h15 a v12 nilS none := by rw [hv12]; exact S15
 have fN := fun Q => clkNow_ok S15'.os Q
 have nw12 : v12.now = max (max v11.now 0) 0 := by rw [hv12]; rfl
 have c12' : v12.cs[0]? = some { c with bs := bs', n := 0, qs := [] } := by
  rw [hv12, d22]
  show (v11.cs.set 0 _)[0]? = _
  rw [List.getElem?_set_self (List.getElem?_eq_some_iff.1 c11).1]
 have T12 : v12.T := by
  have t1 := T11.now
  have t2 := T11.first
  refine ⟨?_, ?_⟩
  ·rw [nw12]; unfold I64 at t1 ⊢; omega
  ·rw [hv12]
   show 0 ≤ (if v11.read then v11.first else max (max v11.now 0) 0) ∧ I64 (if v11.read then v11.first else max (max v11.now 0) 0)
   unfold I64 at t1 t2 ⊢
   split <;> omega
 have lt : decide (v12.now < 4611686018427387904 + m) = false := decide_eq_false (by rw [nw12]; omega)
 have fin : ∃ d', d' < d ∧ ∃ (j' : Nat) (vv : SrvV) (c : CV), j' + d' = l.length ∧ Old h h15 ∧ h6.next ≤ h15.next ∧ SrvAt h15 a vv nilS none ∧ vv.T ∧ 4611686018427387904 + m ≤ vv.now ∧ vv.cs[0]? = some c ∧ c.w = true ∧ c.r = A.rr ∧ c.e = 0 ∧ c.n = 0 ∧ c.bs.length = 75 ∧ c.qs = [] ∧ (∃ l0, vv.ls[0]? = some l0 ∧ l0.al = 0) ∧ j' = j + 1 :=
  ⟨d - 1, by omega, j + 1, v12, { c with bs := bs', n := 0, qs := [] }, by omega, (ofs (ofs (oh.trans (o9.trans o10)) o11) o12).trans ((o13.trans o14).trans o15), by omega, S15', T12, by rw [nw12]; omega, c12', cw, crr, ce, rfl, hbs', rfl, by rw [hv12]; exact l11, rfl⟩
 obtain ⟨d', hd', j', vv', c', f1, f2, f3, f4, f5, f6, f7, f8, f9, f10, f11, f12, f13, f14, rfl⟩ := fin
 cases hb : (v12.now != max (4611686018427387904 + m) (g / 2 ^ 2))
 all_goals
  simp (disch := omega) only [d7, ↓RD7, e1, e8, e39, e40, e41, fillIn, ← h15d, q15, g15, fN, hb, lt, sh, eqL, eqS, Int.reduceBEq, Bool.and_self, ↓mm_max, nx, wj, ↓RnP, RnQ, Nat.reduceEqDiff, Nat.reduceAdd, Nat.reduceMul, Nat.reduceSub, Nat.reduceLT, Nat.reduceLeDiff, Nat.reduceBEq, Int.reduceLT, Int.reduceLE, reduceCtorEq, Int.reduceToNat, Int.reduceAdd, Int.reduceSub, Int.reduceMul, ↓evD_lift, ↓evD_seq, ↓evD_cond, ↓evD_block, ↓seqE_normal, ↓seqE_ret, ↓seqE_exit, condE_true, condE_false, ↓evD_rd, ↓runRD_mv, ↓runRD_un, afterRD_some, ↓runRD_done, ↓runRD_dcall]
  refine ⟨d', hd', j + 1, vv', c', f1, f2, f3, f4, f5, f6, f7, f8, f9, f10, f11, f12, f13, f14, ?_⟩
  repeat' first | assumption | rfl | apply And.intro
end Go.Proofs.YtlakhgibjfmjjaaGreat.Can
namespace Go.Proofs.YtlakhgibjfmjjaaGreat.Can
open Go
theorem fnd7 : toFnD Tryz.prog dset p7 Tryz.f7 = some d7 := by kernel_rfl
end Go.Proofs.YtlakhgibjfmjjaaGreat.Can
namespace Go.Proofs.YtlakhgibjfmjjaaGreat.wholeHorizon
open Go.ChangeShapes Go.WideShapes Go.ChangeAt Go.RowKit Go.Proofs.YtlakhgibjfmjjaaGreat.Can
open Go.ChangeMaps (open_string shut_string)
theorem own : ownKnob Tryz.prog.godebug = none := by kernel_rfl
theorem laidOut : laidOutB Tryz.prog = true := by kernel_rfl
theorem op3 : Ar Tryz.prog 3 (Enc.int .i64) (fun x => (Lit.int .i64 x).wf = true) := Ar.int Tryz.underlying3 (by kernel_rfl)
theorem op4 : Ar Tryz.prog 4 Enc.bool (fun _ => True) := Ar.bool Tryz.underlying4 (by kernel_rfl)
theorem op23 : Ar Tryz.prog 23 (Enc.pair (Enc.int .i64) (Enc.pair (Enc.int .i64) (Enc.pair (Enc.int .i64) (Enc.pair (Enc.int .i64) (Enc.pair (Enc.int .i64) (Enc.pair (Enc.int .i64) (Enc.pair (Enc.int .i64) (Enc.pair (Enc.int .i64) Enc.bool)))))))) (fun x => ((Lit.int .i64 x.1).wf = true ∧ (Lit.int .i64 x.2.1).wf = true ∧ (Lit.int .i64 x.2.2.1).wf = true ∧ (Lit.int .i64 x.2.2.2.1).wf = true ∧ (Lit.int .i64 x.2.2.2.2.1).wf = true ∧ (Lit.int .i64 x.2.2.2.2.2.1).wf = true ∧ (Lit.int .i64 x.2.2.2.2.2.2.1).wf = true ∧ (Lit.int .i64 x.2.2.2.2.2.2.2.1).wf = true ∧ True)) := Ar.struct Tryz.underlying23 (by kernel_rfl) (Ar.fsCons op3 (Ar.fsCons op3 (Ar.fsCons op3 (Ar.fsCons op3 (Ar.fsCons op3 (Ar.fsCons op3 (Ar.fsCons op3 (Ar.fsCons op3 (Ar.fsOne op4)))))))))
theorem op2 : Ar Tryz.prog 2 (Enc.int .i64) (fun x => (Lit.int .i64 x).wf = true) := Ar.int Tryz.underlying2 (by kernel_rfl)
theorem op9 : Ar Tryz.prog 9 Enc.str (fun x => x.size ≤ maxLen) := Ar.str Tryz.underlying9 (by kernel_rfl)
theorem op48 : Ar Tryz.prog 48 (Enc.pair (Enc.int .i64) (Enc.pair (Enc.int .i64) (Enc.pair Enc.str Enc.bool))) (fun x => ((Lit.int .i64 x.1).wf = true ∧ (Lit.int .i64 x.2.1).wf = true ∧ x.2.2.1.size ≤ maxLen ∧ True)) := Ar.struct Tryz.underlying48 (by kernel_rfl) (Ar.fsCons op2 (Ar.fsCons op2 (Ar.fsCons op9 (Ar.fsOne op4))))
set_option maxRecDepth 100000 in
theorem lifted (os : Os) (started : os.Started) (H : Type) (enc : TypeId × Value → H) :
  ReturnsInHanded {} Tryz.checked os 7 .any (Rows.wholeHorizonSpec.pre6 enc Tryz.prog Tryz.f7 Rows.wholeHorizonRow.domain false) (Rows.wholeHorizonSpec.post enc Tryz.prog Tryz.f7 false true false false) := by
 refine returnsInHanded_of_change_sized (C := Tryz.checked) own started (by kernel_rfl) Tryz.func7
  (ChangeSpec.witness6 (enc := enc) (C := Tryz.checked) false ⟨#[], #[.agg #[.int .i64 0, .int .i64 0, .int .i64 0, .int .i64 0, .int .i64 0, .int .i64 0, .int .i64 0, .int .i64 0, .bool false], .int .i64 0, .slice none 0 0], []⟩ 8 (by kernel_rfl) (by kernel_rfl) (by kernel_rfl) (by kernel_rfl)) ?_
 intro W base args ds gs before hval0 hW hcnd hsz0 _
 have hsz : (DataW.weightsEach Tryz.prog (Tryz.f7.params.toList ++ Rows.wholeHorizonSpec.plain.varTypes Tryz.prog) (ds ++ gs)).all (· ≤ reachBytes) = true := hsz0
 have hval : ∀ (j : Nat) t v, Tryz.f7.params[j]? = some t → args[j]? = some v → Value.okWide Tryz.prog W .any base t v := hval0
 have hW' := hW
 obtain ⟨p, q, hA0, hV, rfl, hfz, hnd⟩ := hW
 have hA : DataW.TrodAll enc Tryz.prog W 0 (fun _ => true) true Tryz.f7.params.toList args.toList ds p := hA0
 rw [Tryz.params7] at hA hval hsz
 obtain ⟨v0, vs0, d0, ds0, p0, q0, hargs, rfl, rfl, h0, r0⟩ := trodAll_cons hA
 obtain ⟨v1, vs1, d1, ds1, p1, q1, rfl, rfl, rfl, h1, r1⟩ := trodAll_cons r0
 obtain ⟨v2, vs2, d2, ds2, p2, q2, rfl, rfl, rfl, h2, r2⟩ := trodAll_cons r1
 obtain ⟨rfl, rfl, rfl⟩ := trodAll_nil r2
 obtain rfl : args = #[v0, v1, v2] := by cases args; simp_all
 obtain ⟨rfl, rfl⟩ := trodVars_none hV
 obtain ⟨cs0, rfl, hz0⟩ := okWide_struct Tryz.underlying22 (hval 0 23 v0 rfl rfl)
 have k0 := h0
 have lt0 : ∀ x ∈ p0, x.block < W.heap.size := by obtain ⟨m, hm⟩ := k0; exact DataW.trod_lt m _ _ _ hm
 obtain ⟨x0, rfl, g0⟩ := Ar.agg op23 h0
 obtain ⟨a1, rfl, rfl, rfl, y1⟩ := open_int Tryz.underlying2 (hval 1 2 v1 rfl rfl) h1
 obtain ⟨a2, len2, cap2, rfl⟩ := okWide_slice Tryz.underlying25 (hval 2 25 v2 rfl rfl)
 have hb2 := okWide_slice_lt Tryz.underlying25 (hval 2 25 _ rfl rfl)
 have k2 := h2
 have lt2 : ∀ x ∈ p2, x.block < W.heap.size := by obtain ⟨m, hm⟩ := k2; exact DataW.trod_lt m _ _ _ hm
 obtain ⟨l2, u2, hS2, hR2, hl2, hc2, hm2, hg2⟩ := slice_in Tryz.underlying25 op48 (by decide) hb2 h2
 clear hA0 hval0 hsz0 hsz
 refine (law_soundE progs soundD_ok Tryz.func7 fnd7 (wholeHorizon_law (idHeap W) x0 g0 a1 y1 u2 l2 hS2 (by omega) hg2) (VL.cons (VR.enc _ _) (VL.cons (.int _ _) (VL.cons hR2 (VL.nil _)))) (Emb.id Tryz.prog W) (idMap_free Tryz.prog W)).mono fun e W' ⟨he, bel⟩ => ?_
 subst he
 exact ⟨_, rfl, _, _, _, [], _, [], hW', trodAll_mk1 (shut_bool Tryz.underlying4 _), (trodAll_cons_mk (Below.trod laidOut (by kernel_rfl) (of_decide_eq_true (by kernel_rfl)) k0 bel lt0) (trodAll_cons_mk (shut_int Tryz.underlying2 y1) (trodAll_cons_mk (Below.trod laidOut (by kernel_rfl) (of_decide_eq_true (by kernel_rfl)) k2 bel lt2) trodAll_mk0))), rfl, bel.frame _, fun h => by cases h⟩
theorem over : Rows.wholeHorizonRow.holds Tryz.pinned (OpenSpec.ofChange Rows.wholeHorizonSpec) :=
 OpenClaim.holds_of_wide 7 Tryz.f7 rfl rfl rfl rfl rfl rfl rfl ⟨rfl, rfl, rfl, rfl, rfl⟩ rfl rfl rfl rfl rfl (by kernel_rfl) Tryz.func7 (by kernel_rfl)
  (of_decide_eq_true (by kernel_rfl)) (by unfold Func.isWrapper; first | (rw [if_pos (by decide +kernel)]; kernel_rfl) | (rw [if_neg (by decide +kernel)]; exact ⟨rfl, rfl⟩))
  (fun os started H enc _ => lifted os started H enc)
theorem proved : Rows.WholeHorizonSaid := over
end Go.Proofs.YtlakhgibjfmjjaaGreat.wholeHorizon
namespace Go.Proofs.YtlakhgibjfmjjaaGreat
theorem wholeHorizon_holds : Rows.WholeHorizonSaid := wholeHorizon.proved
end Go.Proofs.YtlakhgibjfmjjaaGreat
