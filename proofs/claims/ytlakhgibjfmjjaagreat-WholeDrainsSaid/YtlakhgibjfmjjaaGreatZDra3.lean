/- Part 3 of 6 of the proof of the row RowWholeDrains: whatever the input, the law returns true. No condition. -/
import Derived.Test.YtlakhgibjfmjjaaGreatZDra2
import Derived.KernelRfl
import Derived.RowKit
import Derived.Test.YtlakhgibjfmjjaaGreatProg
set_option linter.unusedSimpArgs false
set_option linter.unusedVariables false
set_option linter.defProp false
set_option maxHeartbeats 4000000
open Nat renaming reduceEqDiff → zA, reduceAdd → zB, reduceMul → zC, reduceSub → zD, reduceLT → zE, reduceLeDiff → zF, reduceBEq → zG, lt_of_lt_of_le → yN, le_refl → yP, le_trans → yR, mul_one → yS
open Int renaming reduceLT → zH, reduceLE → zI, reduceToNat → zJ, reduceAdd → zK, reduceSub → zL, reduceMul → zM, reduceBEq → zN, mul_nonneg → yO, le_refl → yQ
open Option renaming some.inj → yA, some.injEq → yC, map_eq_some_iff → yD
open Prod renaming mk.injEq → yB
open List renaming getElem?_eq_some_iff → yE, getElem?_eq_getElem → yF, length_append → yG, getElem?_set_self → yH, getElem?_set_ne → yI, getElem?_map → yJ, mem_of_getElem? → yK, length_map → yL, length_cons → yM
namespace Go.Proofs.YtlakhgibjfmjjaaGreat.Can
open Go
open Reg renaming op->xA,opg->xB,done->xC,snap->xD,chk->xE
open COp renaming load->wA,mv->wB,fieldAddr->wC,call->wD,bin->wE,store->wF,extract->wG,alloc->wH,indexSl->wI,nilCheck->wJ,pick->wK,lenSl->wL,build->wM,box->wN,conv->wO,un->wP
def c8S:ByteArray:=⟨#[0,1,2,2,3,3,3,3,4,4,4,4,4,4,4,4,5,5,5,5,5,5,5,5,5,5,5,5,5,5,5,5,6,6,6,6,6,6,6,6,6,6,6,6,6,6,6,6,6,6,6,6,6,6,6,6,6,6,6,6,6,6,6,6,7,7,7,7,7,7,7,7,7,7,7,7,7,7,7,7,7,7,7,7,7,7,7,7,7,7,7,7,7,7,7,7,7,7,7,7,7,7,7,7,7,7,7,7,7,7,7,7,7,7,7,7,7,7,7,7,7,7,7,7,7,7,7,7,8,8,8,8,8,8,8,8,8,8,8,8,8,8,8,8,8,8,8,8,8,8,8,8,8,8,8,8,8,8,8,8,8,8,8,8,8,8,8,8,8,8,8,8,8,8,8,8,8,8,8,8,8,8,8,8,8,8,8,8,8,8,8,8,8,8,8,8,8,8,8,8,8,8,8,8,8,8,8,8,8,8,8,8,8,8,8,8,8,8,8,8,8,8,8,8,8,8,8,8,8,8,8,8,8,8,8,8,8,8,8,8,8,8,8,8,8,8,8,8,8,8,8,8,8,8,8,8]⟩
def e0C(e:a7):Reg:=xA (wB (.bool false)) fun a=>xC (e.upd 6 a)
def e0m(e:a7):Reg:=xA (wD 11 []) fun a=>xA (wP .not a) fun b=>xC (e.upd 19 b)
def e0e(e:a7):Reg:=xA (wB (.bool false)) fun a=>xC (e.upd 6 a)
def e1d(e:a7):Reg:=xA (wB (e 1)) fun a=>xA (wD 12 [a]) fun b=>xA (wP .not b) fun c=>xC (e.upd 22 c)
def e0w(e:a7):Reg:=xA (wB (.bool true)) fun a=>xC (e.upd 6 a)
def e1i(e:a7):Reg:=xA (wB (e 0)) fun a=>xA (wD 13 [a,(.int .i64 0)]) fun b=>xA (wH 30 [(.int .i64 0),(.int .i64 0),(.int .i64 0),(.slice none 0 0)]) fun c=>xA (wF 4 c b) fun _=>xC (e.upd 7 c)
def e0L(e:a7):Reg:=xA (wA (some 4) (e 7)) fun a=>xA (.buildSlice 78 1 [(.int .u64 0)] [(0,1,(.int .u64 6))]) fun b=>xA (wD 14 [a,b]) fun c=>xA (wB c) fun d=>xA (wG d 0) fun f=>xA (wG d 1) fun g=>xA (wB f) fun i=>xA (wB g) fun j=>xC ((e.upd 8 i).upd 9 j)
def e1v(e:a7):Reg:=xA (wA (some 4) (e 7)) fun a=>xA (.buildSlice 78 1 [(.int .u64 0)] [(0,1,(.int .u64 6))]) fun b=>xA (wD 14 [a,b]) fun c=>xA (wB c) fun d=>xA (wG d 0) fun f=>xA (wG d 1) fun g=>xA (wB f) fun i=>xA (wB g) fun j=>xC ((e.upd 10 i).upd 11 j)
def e0d(e:a7):Reg:=xA (wB (e 8)) fun a=>xA (wM [(.int .i64 0),(.int .i64 0),(.int .i64 0),(.slice none 0 0),(.int .i64 0),(.slice none 0 0)] [(0,1,(.int .i64 0))]) fun b=>xA (wD 15 [a,b]) fun c=>xC e
def e0G(e:a7):Reg:=xA (wB (e 10)) fun a=>xA (wM [(.int .i64 0),(.int .i64 0),(.int .i64 0),(.slice none 0 0),(.int .i64 0),(.slice none 0 0)] [(0,1,(.int .i64 0))]) fun b=>xA (wD 15 [a,b]) fun c=>xC e
def d8D(e:a7):Reg:=xA (wB (.string ⟨#[]⟩)) fun a=>xA (wB (.string ⟨#[]⟩)) fun b=>xC ((e.upd 12 a).upd 13 b)
def d9y(e:a7):Reg:=xA (wB (.int .i64 0)) fun a=>xC (e.upd 14 a)
def d9h(e:a7):Reg:=xA (wB (e 1)) fun a=>xA (wL a) fun b=>xA (wB (.int .i64 0)) fun c=>xC (((e.upd 43 a).upd 44 b).upd 45 c)
def d9d(e:a7):Reg:=xA (wE .lss (e 45) (e 44)) fun a=>xC (e.upd 46 a)
def d9i(e:a7):Reg:=xA (wB (e 45)) fun a=>xA (wI 4 (e 43) (e 45)) fun b=>xA (wA (some 4) b) fun c=>xA (wH 48 [(.int .i64 0),(.int .i64 0),(.string ⟨#[]⟩),(.bool false)]) fun d=>xA (wB a) fun f=>xA (wF 4 d c) fun _=>xC ((e.upd 16 d).upd 15 f)
def d8H(e:a7):Reg:=xA (wB (e 15)) fun a=>xA (wE .eql a (.int .i64 25)) fun b=>xC (e.upd 51 b)
def d8m(e:a7):Reg:=xA (wB (e 14)) fun a=>xA (wC 0 (e 16)) fun b=>xA (wA none b) fun c=>xA (wD 16 [c]) fun d=>xA (wE .add a d) fun f=>xA (wB f) fun g=>xC (e.upd 14 g)
def d7R(e:a7):Reg:=xA (wC 1 (e 16)) fun a=>xA (wA none a) fun b=>xA (wE .and b (.int .i64 31)) fun c=>xA (wO .u32 c) fun d=>xA (wC 2 (e 16)) fun f=>xA (wA none f) fun g=>xA (wM [(.int .i64 0),(.int .i64 0),(.int .u32 0),(.string ⟨#[]⟩),(.int .i64 0)] [(0,1,(.int .i64 1)),(2,1,d),(3,1,g)]) fun i=>xA (wD 20 [i]) fun j=>xA (wB j) fun k=>xC (e.upd 17 k)
def d7V(e:a7):Reg:=xA (wB (e 8)) fun a=>xA (wB (e 14)) fun b=>xA (wB (e 17)) fun c=>xA (wM [(.int .i64 0),(.int .i64 0),(.int .i64 0),(.slice none 0 0),(.int .i64 0),(.slice none 0 0)] [(0,1,(.int .i64 2)),(1,1,b),(3,1,c)]) fun d=>xA (wD 15 [a,d]) fun f=>xC e
def d8J(e:a7):Reg:=xA (wB (e 10)) fun a=>xA (wB (e 14)) fun b=>xA (wB (e 17)) fun c=>xA (wM [(.int .i64 0),(.int .i64 0),(.int .i64 0),(.slice none 0 0),(.int .i64 0),(.slice none 0 0)] [(0,1,(.int .i64 2)),(1,1,b),(3,1,c)]) fun d=>xA (wD 15 [a,d]) fun f=>xC e
def d9B(e:a7):Reg:=xA (wB (e 12)) fun a=>xA (wB (e 8)) fun b=>xA (wB (e 14)) fun c=>xA (wM [(.int .i64 0),(.int .i64 0),(.int .i64 0),(.slice none 0 0),(.int .i64 0),(.slice none 0 0)] [(0,1,(.int .i64 3)),(1,1,c),(4,1,(.int .i64 99))]) fun d=>xA (wD 15 [b,d]) fun f=>xA (.field 2 none f) fun g=>xA (.toStr g) fun i=>xA (wE .add a i) fun j=>xA (wB j) fun k=>xC (e.upd 12 k)
def d9m(e:a7):Reg:=xA (wB (e 15)) fun a=>xA (wB (e 2)) fun b=>xA (wL b) fun c=>xA (wE .lss a c) fun d=>xA (wB d) fun f=>xB f true (wB (e 2)) fun g=>xB f true (wB (e 15)) fun i=>xB f true (wI 1 g i) fun j=>xB f true (wA none j) fun k=>xA (wK f k (.bool false)) fun m=>xC (e.upd 92 m)
def d9A(e:a7):Reg:=xA (wB (e 13)) fun a=>xA (wB (e 10)) fun b=>xA (wB (e 14)) fun c=>xA (wB (e 15)) fun d=>xA (wM [(.int .i64 0),(.int .i64 0),(.int .i64 0),(.slice none 0 0),(.int .i64 0),(.slice none 0 0)] [(0,1,(.int .i64 3)),(1,1,c),(4,1,d)]) fun f=>xA (wD 15 [b,f]) fun g=>xA (.field 2 none g) fun i=>xA (.toStr i) fun j=>xA (wE .add a j) fun k=>xA (wB k) fun m=>xC (e.upd 13 m)
def d9n(e:a7):Reg:=xA (wE .add (e 45) (.int .i64 1)) fun a=>xA (wB a) fun b=>xC (e.upd 45 b)
def e0u:CC:=(.seq (.region d9d) (.seq (.cond (fun e=>e 46) .skip (.exit 0)) (.seq (.block 1 (.seq (.region d9i) (.seq (.seq (.region d8H) (.cond (fun e=>e 51) (.exit 0) .skip)) (.seq (.region d8m) (.seq (.region d7R) (.seq (.region d7V) (.seq (.region d8J) (.seq (.region d9B) (.seq (.region d9m) (.cond (fun e=>e 92) (.region d9A) .skip)))))))))) (.region d9n))))
def d8p(e:a7):Reg:=xA (wB (e 13)) fun a=>xA (wB (e 10)) fun b=>xA (wB (e 14)) fun c=>xA (wM [(.int .i64 0),(.int .i64 0),(.int .i64 0),(.slice none 0 0),(.int .i64 0),(.slice none 0 0)] [(0,1,(.int .i64 3)),(1,1,c),(4,1,(.int .i64 65536))]) fun d=>xA (wD 15 [b,d]) fun f=>xA (.field 2 none f) fun g=>xA (.toStr g) fun i=>xA (wE .add a i) fun j=>xA (wB j) fun k=>xC (e.upd 13 k)
def d8Q(e:a7):Reg:=xA (wB (e 12)) fun a=>xA (wB (e 13)) fun b=>xA (wE .eql a b) fun c=>xA (wB c) fun d=>xB d true (wB (e 8)) fun f=>xB d true (wD 27 [f,(.int .i64 0)]) fun g=>xB d true (wD 28 [g]) fun i=>xB d true (wB (e 10)) fun j=>xB d true (wD 27 [j,(.int .i64 0)]) fun k=>xB d true (wD 28 [k]) fun m=>xB d true (.eqAgg false [.int,.int,.int,.int,.int] i m) fun n=>xA (wK d n (.bool false)) fun o=>xA (wB o) fun p=>xC (e.upd 6 p)
def c10:CFn:=⟨(.seq (.region e0C) (.seq (.seq (.region e0m) (.cond (fun e=>e 19) (.seq (.region e0e) .ret) .skip)) (.seq (.seq (.region e1d) (.cond (fun e=>e 22) (.seq (.region e0w) .ret) .skip)) (.seq (.region e1i) (.seq (.region e0L) (.seq (.region e1v) (.seq (.region e0d) (.seq (.region e0G) (.seq (.region d8D) (.seq (.region d9y) (.seq (.seq (.region d9h) (.block 0 (.loop e0u))) (.seq (.region d8p) (.seq (.region d8Q) .ret))))))))))))),[.t 6]⟩
def p10:Pers:=⟨18,[19,22,43,44,45,46,51,92],123,[]⟩
def e1c(e:a7):Reg:=xA (wB (.bool false)) fun a=>xC (e.upd 0 a)
def e0B(e:a7):Reg:=xA (wM [(.int .i64 0),(.int .i64 0),(.int .i64 0),(.int .i64 0),(.int .i64 0),(.int .i64 0),(.int .i64 0),(.int .i64 0),(.bool false)] []) fun a=>xA (.buildSlice 23 1 [(.int .i64 0),(.int .i64 0),(.int .i64 0),(.int .i64 0),(.int .i64 0),(.int .i64 0),(.int .i64 0),(.int .i64 0),(.bool false)] [(0,9,a)]) fun b=>xA (wD 13 [b,(.int .i64 0)]) fun c=>xA (wD 14 [c,(.slice none 0 0)]) fun d=>xA (wB d) fun f=>xA (wG f 0) fun g=>xA (wG f 1) fun i=>xA (wB g) fun j=>xA (wB i) fun k=>xC ((e.upd 1 j).upd 2 k)
def e0b(e:a7):Reg:=xA (wB (e 2)) fun a=>xA (wE .neq a (.int .i64 0)) fun b=>xA (wB b) fun c=>xB c false (wB (e 1)) fun d=>xB c false (.eqK .ptr false d (.pointer none)) fun f=>xA (wK c (.bool true) f) fun g=>xC (e.upd 20 g)
def d9W(e:a7):Reg:=xA (wB (.bool false)) fun a=>xC (e.upd 0 a)
def e0h(e:a7):Reg:=xA (wB (e 1)) fun a=>xA (wM [(.int .i64 0),(.int .i64 0),(.int .i64 0),(.slice none 0 0),(.int .i64 0),(.slice none 0 0)] [(0,1,(.int .i64 0))]) fun b=>xA (wD 15 [a,b]) fun c=>xC e
def d9O(e:a7):Reg:=xA (wB (e 1)) fun a=>xA (wM [(.int .i64 0),(.int .i64 0),(.int .u32 0),(.string ⟨#[]⟩),(.int .i64 0)] [(0,1,(.int .i64 1)),(2,1,(.int .u32 1)),(3,1,(.string ⟨#[97]⟩))]) fun b=>xA (wD 20 [b]) fun c=>xA (wM [(.int .i64 0),(.int .i64 0),(.int .i64 0),(.slice none 0 0),(.int .i64 0),(.slice none 0 0)] [(0,1,(.int .i64 2)),(1,1,(.int .i64 5)),(3,1,c)]) fun d=>xA (wD 15 [a,d]) fun f=>xA (wH 42 [(.int .i64 0),(.int .i64 0),(.slice none 0 0),(.slice none 0 0)]) fun g=>xA (wF 4 g f) fun _=>xC (e.upd 3 g)
def e0A(e:a7):Reg:=xA (wB (e 1)) fun a=>xA (wM [(.int .i64 0),(.int .i64 0),(.int .i64 0),(.slice none 0 0),(.int .i64 0),(.slice none 0 0)] [(0,1,(.int .i64 3)),(1,1,(.int .i64 5)),(4,1,(.int .i64 99))]) fun b=>xA (wD 15 [a,b]) fun c=>xA (wH 42 [(.int .i64 0),(.int .i64 0),(.slice none 0 0),(.slice none 0 0)]) fun d=>xA (wF 4 d c) fun _=>xC (e.upd 4 d)
def c6Y(e:a7)(a b c d:Value):Reg:=xA (wF 12 d a) fun _=>xA (wB b) fun f=>xA (wB c) fun g=>xC (((e.upd 5 d).upd 6 f).upd 7 g)
def e1q(e:a7):Reg:=xA (wC 2 (e 4)) fun a=>xA (wA none a) fun b=>xA (wD 21 [b]) fun c=>xA (wB c) fun d=>xA (wG d 0) fun f=>xA (wG d 1) fun g=>xA (wG d 2) fun i=>xA (wH 66 [(.int .i64 0),(.int .i64 0),(.int .i64 0),(.int .i64 0),(.int .i64 0),(.int .i64 0),(.int .i64 0),(.int .i64 0),(.int .i64 0),(.int .i64 0),(.slice none 0 0),(.int .i64 0)]) fun j=>c6Y e f g i j
def c5J(e:a7)(a:Value):Reg:=xA (wB a) fun b=>xB b true (wC 2 (e 5)) fun c=>xB b true (wC 0 c) fun d=>xB b true (wA none d) fun f=>xB b true (wE .eql f (.int .i64 1)) fun g=>xA (wK b g (.bool false)) fun i=>xA (wB i) fun j=>xC (e.upd 0 j)
def c7j(e:a7)(a b:Value):Reg:=xA (wK a b (.bool false)) fun c=>xA (wB c) fun d=>xB d true (wB (e 7)) fun f=>xA (wK d f (.bool false)) fun g=>xA (wB g) fun i=>xB i true (wB (e 6)) fun j=>xB i true (wE .eql j (.int .i64 22)) fun k=>xA (wK i k (.bool false)) fun m=>c5J e m
def e0g(e:a7):Reg:=xA (wC 1 (e 3)) fun a=>xA (wA none a) fun b=>xA (wE .eql b (.int .i64 12)) fun c=>xA (wB c) fun d=>xB d true (wC 3 (e 3)) fun f=>xB d true (wA none f) fun g=>xB d true (wL g) fun i=>xB d true (wE .eql i (.int .i64 1)) fun j=>c7j e d j
def c11:CFn:=⟨(.seq (.region e1c) (.seq (.region e0B) (.seq (.seq (.region e0b) (.cond (fun e=>e 20) (.seq (.region d9W) .ret) .skip)) (.seq (.region e0h) (.seq (.region d9O) (.seq (.region e0A) (.seq (.region e1q) (.seq (.region e0g) .ret)))))))),[.t 0]⟩
def p11:Pers:=⟨8,[20],61,[]⟩
def d5R(e:a7):Reg:=xA (wB (.bool false)) fun a=>xC (e.upd 2 a)
def c7Y(e:a7):Reg:=xA (wB (e 0)) fun a=>xA (wL a) fun b=>xA (wE .gtr b (.int .i64 150)) fun c=>xC (e.upd 7 c)
def d0i(e:a7):Reg:=xA (wB (.bool false)) fun a=>xC (e.upd 2 a)
def d0F(e:a7):Reg:=xA (wB (e 0)) fun a=>xA (wL a) fun b=>xA (wB (.int .i64 0)) fun c=>xC (((e.upd 8 a).upd 9 b).upd 10 c)
def d2j(e:a7):Reg:=xA (wE .lss (e 10) (e 9)) fun a=>xC (e.upd 11 a)
def d1A(e:a7):Reg:=xA (wI 4 (e 8) (e 10)) fun a=>xA (wA (some 4) a) fun b=>xA (wH 48 [(.int .i64 0),(.int .i64 0),(.string ⟨#[]⟩),(.bool false)]) fun c=>xA (wF 4 c b) fun _=>xC (e.upd 4 c)
def c9x(e:a7):Reg:=xA (wC 2 (e 4)) fun a=>xA (wA none a) fun b=>xA (.lenStr b) fun c=>xA (wE .gtr c (.int .i64 64)) fun d=>xC (e.upd 17 d)
def d0V(e:a7):Reg:=xA (wB (.bool false)) fun a=>xC (e.upd 2 a)
def c9c(e:a7):Reg:=xA (wE .add (e 10) (.int .i64 1)) fun a=>xA (wB a) fun b=>xC (e.upd 10 b)
def a6w:CC:=(.seq (.region d2j) (.seq (.cond (fun e=>e 11) .skip (.exit 0)) (.seq (.block 1 (.seq (.region d1A) (.seq (.region c9x) (.cond (fun e=>e 17) (.seq (.region d0V) .ret) .skip)))) (.region c9c))))
def d2s(e:a7):Reg:=xA (wB (.bool true)) fun a=>xC (e.upd 2 a)
def R12:=an (ro d5R.eq_1)<|an (ro c7Y.eq_1)<|an (ro d0i.eq_1)<|an (ro d0F.eq_1)<|an (ro d2j.eq_1)<|an (ro d1A.eq_1)<|an (ro c9x.eq_1)<|an (ro d0V.eq_1)<|an (ro c9c.eq_1)<|ro d2s.eq_1
def c12:CFn:=⟨(.seq (.region d5R) (.seq (.seq (.region c7Y) (.cond (fun e=>e 7) (.seq (.region d0i) .ret) .skip)) (.seq (.seq (.region d0F) (.block 0 (.loop a6w))) (.seq (.region d2s) .ret)))),[.t 2]⟩
def p12:Pers:=⟨5,[7,8,9,10,11,17],19,[]⟩
def d7s(e:a7):Reg:=xA (wH 30 [(.int .i64 0),(.int .i64 0),(.int .i64 0),(.slice none 0 0)]) fun a=>xC (e.upd 4 a)
def d1E(e:a7):Reg:=xA (wB (e 1)) fun a=>xA (wE .and a (.int .i64 255)) fun b=>xA (wE .add (.int .i64 660) b) fun c=>xA (wM [(.int .i64 0),(.int .i64 0),(.int .i64 0),(.slice none 0 0)] [(0,1,(.int .i64 4294967296)),(1,1,(.int .i64 3)),(2,1,c)]) fun d=>xA (wH 30 [(.int .i64 0),(.int .i64 0),(.int .i64 0),(.slice none 0 0)]) fun f=>xA (wF 4 f d) fun _=>xC (e.upd 5 f)
def d0v(e:a7):Reg:=xA (wB (e 0)) fun a=>xA (wL a) fun b=>xA (wB (.int .i64 0)) fun c=>xC (((e.upd 12 a).upd 13 b).upd 14 c)
def d3J(e:a7):Reg:=xA (wE .lss (e 14) (e 13)) fun a=>xC (e.upd 15 a)
def d1c(e:a7):Reg:=xA (wB (e 14)) fun a=>xA (wI 9 (e 12) (e 14)) fun b=>xA (wA (some 9) b) fun c=>xA (wH 23 [(.int .i64 0),(.int .i64 0),(.int .i64 0),(.int .i64 0),(.int .i64 0),(.int .i64 0),(.int .i64 0),(.int .i64 0),(.bool false)]) fun d=>xA (wB a) fun f=>xA (wF 9 d c) fun _=>xC ((e.upd 7 d).upd 6 f)
def d4X(e:a7):Reg:=xA (wB (e 6)) fun a=>xA (wE .lss a (.int .i64 3)) fun b=>xC (e.upd 20 b)
def a9r(e:a7)(a b:Value):Reg:=xA (.append 34 9 72 a b) fun c=>xA (wC 3 (e 5)) fun d=>xD fun h7=>xA (wF 1 d c) fun _=>xC e
def d7F(e:a7):Reg:=xA (wC 3 (e 5)) fun a=>xA (wA none a) fun b=>xA (wA (some 9) (e 7)) fun c=>xD fun h3=>xA (wD 30 [c]) fun d=>xE none none (wA none a) b<|xA (.buildSlice 34 1 [(.int .i64 0),(.int .i64 0),(.int .i64 0),(.int .i64 0),(.int .i64 0),(.int .i64 0),(.int .i64 0),(.int .i64 0),(.bool false)] [(0,9,d)]) fun f=>xD fun h5=>a9r e b f
def d0k(e:a7):Reg:=xA (wE .add (e 14) (.int .i64 1)) fun a=>xA (wB a) fun b=>xC (e.upd 14 b)
def a2r:CC:=(.seq (.region d3J) (.seq (.cond (fun e=>e 15) .skip (.exit 0)) (.seq (.block 1 (.seq (.region d1c) (.seq (.region d4X) (.cond (fun e=>e 20) (.region d7F) .skip)))) (.region d0k))))
def d3F(e:a7):Reg:=xA (wC 3 (e 5)) fun a=>xA (wA none a) fun b=>xA (wL b) fun c=>xA (wE .eql c (.int .i64 0)) fun d=>xC (e.upd 32 d)
def a8g(e:a7)(a b:Value):Reg:=xA (.append 34 9 72 a b) fun c=>xA (wC 3 (e 5)) fun d=>xD fun h7=>xA (wF 1 d c) fun _=>xC e
def d3B(e:a7):Reg:=xA (wC 3 (e 5)) fun a=>xA (wA none a) fun b=>xA (wM [(.int .i64 0),(.int .i64 0),(.int .i64 0),(.int .i64 0),(.int .i64 0),(.int .i64 0),(.int .i64 0),(.int .i64 0),(.bool false)] []) fun c=>xD fun h3=>xA (wD 30 [c]) fun d=>xE none none (wA none a) b<|xA (.buildSlice 34 1 [(.int .i64 0),(.int .i64 0),(.int .i64 0),(.int .i64 0),(.int .i64 0),(.int .i64 0),(.int .i64 0),(.int .i64 0),(.bool false)] [(0,9,d)]) fun f=>xD fun h5=>a8g e b f
def b9R(e:a7):Reg:=xA (wA (some 4) (e 5)) fun a=>xA (wF 4 (e 4) a) fun _=>xC e
def R13:=an (ro d7s.eq_1)<|an (ro d1E.eq_1)<|an (ro d0v.eq_1)<|an (ro d3J.eq_1)<|an (ro d1c.eq_1)<|an (ro d4X.eq_1)<|an (Q7 a9r.eq_1)<|an (ro d7F.eq_1)<|an (ro d0k.eq_1)<|an (ro d3F.eq_1)<|an (Q7 a8g.eq_1)<|an (ro d3B.eq_1)<|ro b9R.eq_1
def c13:CFn:=⟨(.seq (.region d7s) (.seq (.region d1E) (.seq (.seq (.region d0v) (.block 0 (.loop a2r))) (.seq (.seq (.region d3F) (.cond (fun e=>e 32) (.region d3B) .skip)) (.seq (.region b9R) .ret))))),[.c 4 (some 4)]⟩
def p13:Pers:=⟨8,[12,13,14,15,20,32],41,[]⟩
def d0U(e:a7):Reg:=xA (wN 30 (e 0)) fun a=>xA (wB (.pointer none)) fun b=>xA (wB (.int .i64 0)) fun c=>xC (((e.upd 2 a).upd 4 b).upd 5 c)
def d0q(e:a7):Reg:=xA (wA (some 4) (e 2)) fun a=>xA (wD 31 [a]) fun b=>xA (wP .not b) fun c=>xC (e.upd 9 c)
def d4Y(e:a7):Reg:=xA (wB (.pointer none)) fun a=>xA (wB (.int .i64 1)) fun b=>xC ((e.upd 4 a).upd 5 b)
def d3z(e:a7):Reg:=xA (wA (some 4) (e 2)) fun a=>xA (wM [(.int .i64 0),(.int .i64 0),(.bool false),(.bool false),(.int .i64 0),(.int .i64 0),(.int .i64 0),(.slice none 0 0),(.slice none 0 0),(.slice none 0 0),(.slice none 0 0)] [(4,4,a)]) fun b=>xA (wN 93 b) fun c=>xA (wB c) fun d=>xC (e.upd 6 d)
def c7S(e:a7):Reg:=xA (wB (e 6)) fun a=>xA (wC 3 (e 2)) fun b=>xA (wA none b) fun c=>xA (.append 34 9 72 (.slice none 0 0) c) fun d=>xA (wJ a) fun f=>xA (wC 4 f) fun g=>xA (wC 3 g) fun i=>xA (wF 1 i d) fun _=>xC e
def d0r(e:a7):Reg:=xA (wB (e 6)) fun a=>xA (wB (e 1)) fun b=>xA (wD 32 [a,b]) fun c=>xC e
def d4s(e:a7):Reg:=xA (wB (e 6)) fun a=>xA (wB a) fun b=>xA (wB (.int .i64 0)) fun c=>xC ((e.upd 4 b).upd 5 c)
def R14:=an (ro d0U.eq_1)<|an (ro d0q.eq_1)<|an (ro d4Y.eq_1)<|an (ro d3z.eq_1)<|an (ro c7S.eq_1)<|an (ro d0r.eq_1)<|ro d4s.eq_1
def c14:CFn:=⟨(.seq (.region d0U) (.seq (.seq (.region d0q) (.cond (fun e=>e 9) (.seq (.region d4Y) .ret) .skip)) (.seq (.region d3z) (.seq (.region c7S) (.seq (.region d0r) (.seq (.region d4s) .ret)))))),[.t 4,.t 5]⟩
def p14:Pers:=⟨7,[9],24,[]⟩
def c9N(e:a7):Reg:=xA (wN 35 (e 0)) fun a=>xA (wN 45 (e 1)) fun b=>xA (wH 42 [(.int .i64 0),(.int .i64 0),(.slice none 0 0),(.slice none 0 0)]) fun c=>xC (((e.upd 2 a).upd 3 b).upd 4 c)
def c9Z(e:a7):Reg:=xA (wA none (e 2)) fun a=>xA (.eqK .ptr false a (.pointer none)) fun b=>xC (e.upd 9 b)
def d3f(e:a7):Reg:=xA (wM [(.int .i64 0),(.int .i64 0),(.slice none 0 0),(.slice none 0 0)] [(0,1,(.int .i64 1))]) fun a=>xA (wF 4 (e 4) a) fun _=>xC e
def d0u(e:a7):Reg:=xA (wC 0 (e 3)) fun a=>xA (wA none a) fun b=>xA (wE .eql b (.int .i64 4)) fun c=>xC (e.upd 13 c)
def d6o(e:a7):Reg:=xA (wA none (e 2)) fun a=>xA (wJ a) fun b=>xA (wC 0 b) fun c=>xA (wD 33 [c]) fun d=>xC e
def d2O(e:a7):Reg:=xA (wA none (e 2)) fun a=>xA (wJ a) fun b=>xA (wC 0 b) fun c=>xA (wC 1 (e 3)) fun d=>xA (wA none d) fun f=>xD fun h5=>xA (wD 34 [c,f]) fun g=>xC e
def d2F(e:a7):Reg:=xA (wA none (e 2)) fun a=>xA (wC 5 (e 3)) fun b=>xA (wA none b) fun c=>xA (wD 32 [a,c]) fun d=>xC e
def d4b(e:a7):Reg:=xA (wM [(.int .i64 0),(.int .i64 0),(.slice none 0 0),(.slice none 0 0)] []) fun a=>xA (wF 4 (e 4) a) fun _=>xC e
def c8b(e:a7):Reg:=xA (wA none (e 2)) fun a=>xA (wJ a) fun b=>xA (wC 0 b) fun c=>xA (wC 1 (e 3)) fun d=>xA (wA none d) fun f=>xD fun h5=>xA (wD 34 [c,f]) fun g=>xC e
def a7F(e:a7)(a b:Value):Reg:=xB a false (wA none (e 2)) fun c=>xB a false (wJ c) fun d=>xB a false (wC 8 d) fun f=>xB a false (wA none f) fun g=>xB a false (wL g) fun i=>xB a false (wE .geq b i) fun j=>xA (wK a (.bool true) j) fun k=>xC (e.upd 57 k)
def a7J(e:a7)(a:Value):Reg:=xA (wB a) fun b=>xB b false (wC 2 (e 3)) fun c=>xB b false (wA none c) fun d=>xB b false (wE .lss d (.int .i64 0)) fun f=>xA (wK b (.bool true) f) fun g=>xA (wB g) fun i=>xB i false (wC 2 (e 3)) fun j=>xB i false (wA none j) fun k=>a7F e i k
def d6H(e:a7):Reg:=xA (wC 0 (e 3)) fun a=>xA (wA none a) fun b=>xA (wE .lss b (.int .i64 0)) fun c=>xA (wB c) fun d=>xB d false (wC 0 (e 3)) fun f=>xB d false (wA none f) fun g=>xB d false (wE .gtr g (.int .i64 4)) fun i=>xA (wK d (.bool true) i) fun j=>a7J e j
def c4A(e:a7):Reg:=xA (wM [(.int .i64 0),(.int .i64 0),(.slice none 0 0),(.slice none 0 0)] [(0,1,(.int .i64 1))]) fun a=>xA (wF 4 (e 4) a) fun _=>xC e
def a7c(e:a7)(a:Value):Reg:=xA (wM [(.int .i64 0),(.int .i64 0),(.slice none 0 0),(.slice none 0 0)] []) fun b=>xA (wH 42 [(.int .i64 0),(.int .i64 0),(.slice none 0 0),(.slice none 0 0)]) fun c=>xA (wB a) fun d=>xD fun h11=>xA (wF 4 c b) fun _=>xC ((e.upd 6 c).upd 5 d)
def b6s(e:a7):Reg:=xA (wA none (e 2)) fun a=>xA (wJ a) fun b=>xA (wC 8 b) fun c=>xA (wA none c) fun d=>xA (wC 2 (e 3)) fun f=>xA (wA none f) fun g=>xA (wI 1 d g) fun i=>xA (wA none i) fun j=>a7c e j
def b5z(e:a7):Reg:=xA (wB (.bool true)) fun a=>xC (e.upd 7 a)
def b5R(e:a7):Reg:=xA (wC 0 (e 3)) fun a=>xA (wA none a) fun b=>xC (e.upd 70 b)
def b7e(e:a7):Reg:=xA (wE .eql (e 70) (.int .i64 0)) fun a=>xA (wB a) fun b=>xC (e.upd 79 b)
def b6h(e:a7):Reg:=xA (wB (e 5)) fun a=>xA (wD 36 [a]) fun b=>xA (wB b) fun c=>xC (e.upd 7 c)
def b9b(e:a7):Reg:=xA (wE .eql (e 70) (.int .i64 1)) fun a=>xA (wB a) fun b=>xC (e.upd 83 b)
def c4O(e:a7):Reg:=xA (wB (e 5)) fun a=>xA (wD 37 [a]) fun b=>xA (wB b) fun c=>xC (e.upd 7 c)
def c0p(e:a7):Reg:=xA (wE .eql (e 70) (.int .i64 2)) fun a=>xA (wB a) fun b=>xC (e.upd 87 b)
def b9L(e:a7):Reg:=xA (wB (e 5)) fun a=>xA (wD 38 [a]) fun b=>xA (wB b) fun c=>xC (e.upd 7 c)
def c2q(e:a7):Reg:=xA (wB (e 7)) fun a=>xC (e.upd 91 a)
def b8N(e:a7):Reg:=xA (wB (e 5)) fun a=>xA (wC 3 (e 3)) fun b=>xA (wA none b) fun c=>xA (wA none (e 2)) fun d=>xA (wB (.iface 35 d)) fun f=>xA (wD 39 [a,c,f]) fun g=>xA (wC 1 (e 6)) fun i=>xA (wF 1 i g) fun _=>xC e
def b6K(e:a7):Reg:=xA (wB (e 5)) fun a=>xA (wD 38 [a]) fun b=>xA (wB b) fun c=>xC (e.upd 7 c)
def c3t(e:a7):Reg:=xA (wB (e 7)) fun a=>xC (e.upd 73 a)
def b8d(e:a7):Reg:=xA (wB (e 5)) fun a=>xA (wC 4 (e 3)) fun b=>xA (wA none b) fun c=>xA (wD 40 [a,c]) fun d=>xA (wC 2 (e 6)) fun f=>xA (wF 1 f d) fun _=>xC e
def b7y(e:a7):Reg:=xA (wB (e 7)) fun a=>xA (wP .not a) fun b=>xC (e.upd 100 b)
def b9Q(e:a7):Reg:=xA (wM [(.int .i64 0),(.int .i64 0),(.slice none 0 0),(.slice none 0 0)] [(0,1,(.int .i64 11))]) fun a=>xA (wF 4 (e 4) a) fun _=>xC e
def b8J(e:a7):Reg:=xA (wA none (e 2)) fun a=>xA (wJ a) fun b=>xA (wC 10 b) fun c=>xA (wA none c) fun d=>xA (wC 3 (e 6)) fun f=>xA (wF 1 f d) fun _=>xC e
def c4y(e:a7):Reg:=xA (wA (some 4) (e 6)) fun a=>xA (wF 4 (e 4) a) fun _=>xC e
def R15:=an (ro c9N.eq_1)<|an (ro c9Z.eq_1)<|an (ro d3f.eq_1)<|an (ro d0u.eq_1)<|an (ro d6o.eq_1)<|an (ro d2O.eq_1)<|an (ro d2F.eq_1)<|an (ro d4b.eq_1)<|an (ro c8b.eq_1)<|an (Q7 a7F.eq_1)<|an (ro1 a7J.eq_1)<|an (ro d6H.eq_1)<|an (ro c4A.eq_1)<|an (ro1 a7c.eq_1)<|an (ro b6s.eq_1)<|an (ro b5z.eq_1)<|an (ro b5R.eq_1)<|an (ro b7e.eq_1)<|an (ro b6h.eq_1)<|an (ro b9b.eq_1)<|an (ro c4O.eq_1)<|an (ro c0p.eq_1)<|an (ro b9L.eq_1)<|an (ro c2q.eq_1)<|an (ro b8N.eq_1)<|an (ro b6K.eq_1)<|an (ro c3t.eq_1)<|an (ro b8d.eq_1)<|an (ro b7y.eq_1)<|an (ro b9Q.eq_1)<|an (ro b8J.eq_1)<|ro c4y.eq_1
def c15:CFn:=⟨(.dfr (.seq (.region c9N) (.seq (.seq (.region c9Z) (.cond (fun e=>e 9) (.seq (.region d3f) .ret) .skip)) (.seq (.seq (.region d0u) (.cond (fun e=>e 13) (.seq (.region d6o) (.seq (.region d2O) (.seq (.region d2F) (.seq (.region d4b) .ret)))) .skip)) (.seq (.region c8b) (.seq (.seq (.region d6H) (.cond (fun e=>e 57) (.seq (.region c4A) .ret) .skip)) .skip))))) 35 (fun e=>[(e 2)]) (.seq (.region b6s) (.seq (.region b5z) (.seq (.seq (.region b5R) (.block 0 (.seq (.region b7e) (.cond (fun e=>e 79) (.region b6h) (.seq (.region b9b) (.cond (fun e=>e 83) (.region c4O) (.seq (.region c0p) (.cond (fun e=>e 87) (.seq (.region b9L) (.seq (.region c2q) (.cond (fun e=>e 91) (.region b8N) .skip))) (.seq (.region b6K) (.seq (.region c3t) (.cond (fun e=>e 73) (.region b8d) .skip))))))))))) (.seq (.seq (.region b7y) (.cond (fun e=>e 100) (.seq (.region b9Q) .ret) .skip)) (.seq (.region b8J) (.seq (.region c4y) .ret))))))),[.c 4 (some 4)]⟩
def p15:Pers:=⟨8,[9,13,57,70,73,79,83,87,91,100],108,[]⟩
def d3c(e:a7):Reg:=xA (wB (.int .i64 0)) fun a=>xC (e.upd 2 a)
def c9z(e:a7):Reg:=xA (wB (e 0)) fun a=>xA (wE .and a (.int .i64 1)) fun b=>xA (wE .eql b (.int .i64 1)) fun c=>xC (e.upd 5 c)
def d2b(e:a7):Reg:=xA (wB (e 0)) fun a=>xA (wE .shr a (.int .u64 1)) fun b=>xA (wE .and b (.int .i64 1023)) fun c=>xA (wB c) fun d=>xC (e.upd 2 d)
def d6D(e:a7):Reg:=xA (wB (e 0)) fun a=>xA (wE .shr a (.int .u64 1)) fun b=>xA (wE .and b (.int .i64 15)) fun c=>xA (wB c) fun d=>xC (e.upd 2 d)
def R16:=an (ro d3c.eq_1)<|an (ro c9z.eq_1)<|an (ro d2b.eq_1)<|ro d6D.eq_1
def c16:CFn:=⟨(.seq (.region d3c) (.seq (.seq (.region c9z) (.cond (fun e=>e 5) (.seq (.region d2b) .ret) .skip)) (.seq (.region d6D) .ret))),[.t 2]⟩
def p16:Pers:=⟨3,[5],12,[]⟩
def d6v(e:a7):Reg:=xA (wN 61 (e 0)) fun a=>xA (wB (.slice none 0 0)) fun b=>xC ((e.upd 1 a).upd 2 b)
def d0J(e:a7):Reg:=xA (wC 0 (e 1)) fun a=>xA (wA none a) fun b=>xA (wO .u8 b) fun c=>xA (wC 1 (e 1)) fun d=>xA (wA none d) fun f=>xA (wO .u8 f) fun g=>xA (.buildSlice 5 2 [(.int .u8 0)] [(0,1,c),(1,1,g)]) fun i=>xA (wB i) fun j=>xC (e.upd 3 j)
def d1s(e:a7):Reg:=xA (wC 0 (e 1)) fun a=>xA (wA none a) fun b=>xC (e.upd 12 b)
def d2m(e:a7):Reg:=xA (wE .eql (e 12) (.int .i64 1)) fun a=>xA (wB a) fun b=>xC (e.upd 13 b)
def c9M(e:a7):Reg:=xA (wE .eql (e 12) (.int .i64 2)) fun a=>xA (wB a) fun b=>xC (e.upd 15 b)
def d6O(e:a7):Reg:=xA (wE .eql (e 12) (.int .i64 4)) fun a=>xA (wB a) fun b=>xC (e.upd 17 b)
def a8Y(e:a7)(h4:Heap)(a b c:Value):Reg:=xE none (some h4) (wA none b) c<|xA (.lenStr c) fun d=>xA (wO .u8 d) fun f=>xA (.buildSlice 5 1 [(.int .u8 0)] [(0,1,f)]) fun g=>xD fun h10=>xA (.append 5 1 1 a g) fun i=>xA (wB i) fun j=>xC (e.upd 3 j)
def d4C(e:a7):Reg:=xA (wB (e 3)) fun a=>xA (wC 2 (e 1)) fun b=>xA (wA none b) fun c=>xA (wO .u64 c) fun d=>xD fun h4=>xA (wD 44 [a,(.int .i64 4),d]) fun f=>xA (wC 3 (e 1)) fun g=>xA (wA none g) fun i=>a8Y e h4 f g i
def d3Q(e:a7):Reg:=xA (wB (e 3)) fun a=>xA (wC 3 (e 1)) fun b=>xA (wA none b) fun c=>xA (.append 5 1 1 a c) fun d=>xA (wB d) fun f=>xC (e.upd 3 f)
def d4T(e:a7):Reg:=xA (wB (e 3)) fun a=>xA (wC 4 (e 1)) fun b=>xA (wA none b) fun c=>xA (wO .u8 c) fun d=>xA (.buildSlice 5 1 [(.int .u8 0)] [(0,1,d)]) fun f=>xA (.append 5 1 1 a f) fun g=>xA (wB g) fun i=>xC (e.upd 3 i)
def d1z(e:a7):Reg:=xA (wB (e 3)) fun a=>xA (wD 45 [(.int .u8 167),a]) fun b=>xA (wB b) fun c=>xC (e.upd 2 c)
def R20:=an (ro d6v.eq_1)<|an (ro d0J.eq_1)<|an (ro d1s.eq_1)<|an (ro d2m.eq_1)<|an (ro c9M.eq_1)<|an (ro d6O.eq_1)<|an (ro4 a8Y.eq_1)<|an (ro d4C.eq_1)<|an (ro d3Q.eq_1)<|an (ro d4T.eq_1)<|ro d1z.eq_1
def c20:CFn:=⟨(.seq (.region d6v) (.seq (.region d0J) (.seq (.seq (.region d1s) (.block 0 (.seq (.block 3 (.seq (.block 2 (.block 1 (.seq (.seq (.seq (.region d2m) (.cond (fun e=>e 13) (.exit 1) .skip)) (.seq (.seq (.region c9M) (.cond (fun e=>e 15) (.exit 2) .skip)) (.seq (.region d6O) (.cond (fun e=>e 17) (.exit 3) .skip)))) (.exit 0)))) (.seq (.seq (.region d4C) (.region d3Q)) (.exit 0)))) (.seq (.region d4T) (.exit 0))))) (.seq (.region d1z) .ret)))),[.t 2]⟩
def p20:Pers:=⟨4,[12,13,15,17],42,[]⟩
def e0Z(e:a7):Reg:=xA (wH 66 [(.int .i64 0),(.int .i64 0),(.int .i64 0),(.int .i64 0),(.int .i64 0),(.int .i64 0),(.int .i64 0),(.int .i64 0),(.int .i64 0),(.int .i64 0),(.slice none 0 0),(.int .i64 0)]) fun a=>xA (wB (.int .i64 0)) fun b=>xA (wB (.bool false)) fun c=>xC (((e.upd 2 a).upd 3 b).upd 4 c)
def c5b(e:a7)(a b:Value):Reg:=xA (wK a (.bool true) b) fun c=>xA (wB c) fun d=>xB d false (wB (e 0)) fun f=>xB d false (wI 1 f (.int .i64 1)) fun g=>xB d false (wA none g) fun i=>xB d false (wE .neq i (.int .u8 1)) fun j=>xA (wK d (.bool true) j) fun k=>xC (e.upd 21 k)
def d9S(e:a7):Reg:=xA (wB (e 0)) fun a=>xA (wL a) fun b=>xA (wE .lss b (.int .i64 6)) fun c=>xA (wB c) fun d=>xB d false (wB (e 0)) fun f=>xB d false (wI 1 f (.int .i64 0)) fun g=>xB d false (wA none g) fun i=>xB d false (wE .neq i (.int .u8 168)) fun j=>c5b e d j
def e0I(e:a7):Reg:=xA (wM [(.int .i64 0),(.int .i64 0),(.int .i64 0),(.int .i64 0),(.int .i64 0),(.int .i64 0),(.int .i64 0),(.int .i64 0),(.int .i64 0),(.int .i64 0),(.slice none 0 0),(.int .i64 0)] []) fun a=>xA (wF 12 (e 2) a) fun _=>xA (wB (.int .i64 0)) fun b=>xA (wB (.bool false)) fun c=>xC ((e.upd 3 b).upd 4 c)
def e1e(e:a7):Reg:=xA (wB (e 0)) fun a=>xA (.slice 5 1 a (some (.int .i64 2)) (some (.int .i64 4))) fun b=>xA (wD 46 [b]) fun c=>xA (wO .i64 c) fun d=>xA (wE .add (.int .i64 4) d) fun f=>xA (wB f) fun g=>xC (e.upd 5 g)
def c7c(e:a7)(a:Value):Reg:=xA (wB a) fun b=>xB b false (wB (e 0)) fun c=>xB b false (wI 1 c (.int .i64 4)) fun d=>xB b false (wA none d) fun f=>xB b false (wE .lss f (.int .u8 128)) fun g=>xA (wK b (.bool true) g) fun i=>xC (e.upd 41 i)
def e1C(e:a7):Reg:=xA (wB (e 5)) fun a=>xA (wE .lss a (.int .i64 6)) fun b=>xA (wB b) fun c=>xB c false (wB (e 0)) fun d=>xB c false (wL d) fun f=>xB c false (wB (e 5)) fun g=>xB c false (wE .lss f g) fun i=>xA (wK c (.bool true) i) fun j=>c7c e j
def e1s(e:a7):Reg:=xA (wM [(.int .i64 0),(.int .i64 0),(.int .i64 0),(.int .i64 0),(.int .i64 0),(.int .i64 0),(.int .i64 0),(.int .i64 0),(.int .i64 0),(.int .i64 0),(.slice none 0 0),(.int .i64 0)] []) fun a=>xA (wF 12 (e 2) a) fun _=>xA (wB (.int .i64 0)) fun b=>xA (wB (.bool false)) fun c=>xC ((e.upd 3 b).upd 4 c)
def e0a(e:a7):Reg:=xA (wB (e 0)) fun a=>xA (wI 1 a (.int .i64 4)) fun b=>xA (wA none b) fun c=>xA (wE .and c (.int .u8 127)) fun d=>xA (wO .i64 d) fun f=>xA (wM [(.int .i64 0),(.int .i64 0),(.int .i64 0),(.int .i64 0),(.int .i64 0),(.int .i64 0),(.int .i64 0),(.int .i64 0),(.int .i64 0),(.int .i64 0),(.slice none 0 0),(.int .i64 0)] [(0,1,f)]) fun g=>xA (wH 66 [(.int .i64 0),(.int .i64 0),(.int .i64 0),(.int .i64 0),(.int .i64 0),(.int .i64 0),(.int .i64 0),(.int .i64 0),(.int .i64 0),(.int .i64 0),(.slice none 0 0),(.int .i64 0)]) fun i=>xA (wF 12 i g) fun _=>xC (e.upd 6 i)
def e1l(e:a7):Reg:=xA (wB (e 0)) fun a=>xA (wB (e 5)) fun b=>xA (.slice 5 1 a (some (.int .i64 5)) (some b)) fun c=>xA (wD 47 [(e 6),c]) fun d=>xA (wP .not d) fun f=>xC (e.upd 53 f)
def e0i(e:a7):Reg:=xA (wM [(.int .i64 0),(.int .i64 0),(.int .i64 0),(.int .i64 0),(.int .i64 0),(.int .i64 0),(.int .i64 0),(.int .i64 0),(.int .i64 0),(.int .i64 0),(.slice none 0 0),(.int .i64 0)] []) fun a=>xA (wF 12 (e 2) a) fun _=>xA (wB (.int .i64 0)) fun b=>xA (wB (.bool false)) fun c=>xC ((e.upd 3 b).upd 4 c)
def e0O(e:a7):Reg:=xA (wA (some 12) (e 6)) fun a=>xA (wB (e 5)) fun b=>xA (wF 12 (e 2) a) fun _=>xA (wB b) fun c=>xA (wB (.bool true)) fun d=>xC ((e.upd 3 c).upd 4 d)
def c21:CFn:=⟨(.seq (.region e0Z) (.seq (.seq (.region d9S) (.cond (fun e=>e 21) (.seq (.region e0I) .ret) .skip)) (.seq (.region e1e) (.seq (.seq (.region e1C) (.cond (fun e=>e 41) (.seq (.region e1s) .ret) .skip)) (.seq (.region e0a) (.seq (.seq (.region e1l) (.cond (fun e=>e 53) (.seq (.region e0i) .ret) .skip)) (.seq (.region e0O) .ret))))))),[.c 2 (some 12),.t 3,.t 4]⟩
def p21:Pers:=⟨7,[21,41,53],57,[]⟩
def e0P(e:a7):Reg:=xA (wN 42 (e 0)) fun a=>xA (wN 42 (e 1)) fun b=>xA (wB (.bool false)) fun c=>xC (((e.upd 2 a).upd 3 b).upd 4 c)
def c6z(e:a7)(a b:Value):Reg:=xB a false (wL b) fun c=>xB a false (wC 3 (e 3)) fun d=>xB a false (wA none d) fun f=>xB a false (wL f) fun g=>xB a false (wE .neq c g) fun i=>xA (wK a (.bool true) i) fun j=>xC (e.upd 35 j)
def c5Y(e:a7)(a b:Value):Reg:=xB a false (wC 2 (e 3)) fun c=>xB a false (wA none c) fun d=>xB a false (.toStr d) fun f=>xB a false (wE .neq b f) fun g=>xA (wK a (.bool true) g) fun i=>xA (wB i) fun j=>xB j false (wC 3 (e 2)) fun k=>xB j false (wA none k) fun m=>c6z e j m
def c5m(e:a7)(a b:Value):Reg:=xB a false (wC 1 (e 3)) fun c=>xB a false (wA none c) fun d=>xB a false (wE .neq b d) fun f=>xA (wK a (.bool true) f) fun g=>xA (wB g) fun i=>xB i false (wC 2 (e 2)) fun j=>xB i false (wA none j) fun k=>xB i false (.toStr k) fun m=>c5Y e i m
def d9U(e:a7):Reg:=xA (wC 0 (e 2)) fun a=>xA (wA none a) fun b=>xA (wC 0 (e 3)) fun c=>xA (wA none c) fun d=>xA (wE .neq b d) fun f=>xA (wB f) fun g=>xB g false (wC 1 (e 2)) fun i=>xB g false (wA none i) fun j=>c5m e g j
def e1b(e:a7):Reg:=xA (wB (.bool false)) fun a=>xC (e.upd 4 a)
def d9R(e:a7):Reg:=xA (wC 3 (e 2)) fun a=>xA (wA none a) fun b=>xA (wL b) fun c=>xA (wB (.int .i64 0)) fun d=>xC ((e.upd 38 c).upd 39 d)
def e0k(e:a7):Reg:=xA (wE .lss (e 39) (e 38)) fun a=>xC (e.upd 40 a)
def e0W(e:a7):Reg:=xA (wB (e 39)) fun a=>xA (wB a) fun b=>xC (e.upd 5 b)
def c7p(e:a7)(a b c:Value):Reg:=xA (wI 4 b c) fun d=>xA (wA (some 4) d) fun f=>xA (.eqAgg true [.int,.str,.bool,.int] a f) fun g=>xC (e.upd 52 g)
def e0f(e:a7):Reg:=xA (wC 3 (e 2)) fun a=>xA (wA none a) fun b=>xA (wB (e 5)) fun c=>xA (wI 4 b c) fun d=>xA (wA (some 4) d) fun f=>xA (wC 3 (e 3)) fun g=>xA (wA none g) fun i=>xA (wB (e 5)) fun j=>c7p e f i j
def e0y(e:a7):Reg:=xA (wB (.bool false)) fun a=>xC (e.upd 4 a)
def e0x(e:a7):Reg:=xA (wE .add (e 39) (.int .i64 1)) fun a=>xA (wB a) fun b=>xC (e.upd 39 b)
def e0Q:CC:=(.seq (.region e0k) (.seq (.cond (fun e=>e 40) .skip (.exit 0)) (.seq (.block 1 (.seq (.region e0W) (.seq (.region e0f) (.cond (fun e=>e 52) (.seq (.region e0y) .ret) .skip)))) (.region e0x))))
def d9P(e:a7):Reg:=xA (wB (.bool true)) fun a=>xC (e.upd 4 a)
def c25:CFn:=⟨(.seq (.region e0P) (.seq (.seq (.region d9U) (.cond (fun e=>e 35) (.seq (.region e1b) .ret) .skip)) (.seq (.seq (.region d9R) (.block 0 (.loop e0Q))) (.seq (.region d9P) .ret)))),[.t 4]⟩
def p25:Pers:=⟨6,[35,38,39,40,52],54,[]⟩
def d1T(e:a7):Reg:=xA (wB (.int .i64 0)) fun a=>xC (e.upd 2 a)
def d4I(e:a7):Reg:=xA (wB (e 0)) fun a=>xA (wJ a) fun b=>xA (wC 0 b) fun c=>xA (wA none c) fun d=>xA (wB d) fun f=>xC (e.upd 2 f)
def R26:=an (ro d1T.eq_1)<|ro d4I.eq_1
def c26:CFn:=⟨(.seq (.region d1T) (.seq (.region d4I) .ret)),[.t 2]⟩
def p26:Pers:=⟨3,[],7,[]⟩
def d5h(e:a7):Reg:=xA (wB (.pointer none)) fun a=>xC (e.upd 4 a)
def a8j(e:a7)(a b:Value):Reg:=xB a false (wB (e 0)) fun c=>xB a false (wJ c) fun d=>xB a false (wC 9 d) fun f=>xB a false (wA none f) fun g=>xB a false (wL g) fun i=>xB a false (wE .geq b i) fun j=>xA (wK a (.bool true) j) fun k=>xC (e.upd 19 k)
def d0n(e:a7):Reg:=xA (wB (e 0)) fun a=>xA (.eqK .ptr false a (.pointer none)) fun b=>xA (wB b) fun c=>xB c false (wB (e 1)) fun d=>xB c false (wE .lss d (.int .i64 0)) fun f=>xA (wK c (.bool true) f) fun g=>xA (wB g) fun i=>xB i false (wB (e 1)) fun j=>a8j e i j
def c7Q(e:a7):Reg:=xA (wB (.pointer none)) fun a=>xC (e.upd 4 a)
def d2t(e:a7):Reg:=xA (wB (e 0)) fun a=>xA (wJ a) fun b=>xA (wC 9 b) fun c=>xA (wA none c) fun d=>xA (wB (e 1)) fun f=>xA (wI 1 d f) fun g=>xA (wA none g) fun i=>xA (wB i) fun j=>xC (e.upd 4 j)
def R27:=an (ro d5h.eq_1)<|an (Q7 a8j.eq_1)<|an (ro d0n.eq_1)<|an (ro c7Q.eq_1)<|ro d2t.eq_1
def c27:CFn:=⟨(.seq (.region d5h) (.seq (.seq (.region d0n) (.cond (fun e=>e 19) (.seq (.region c7Q) .ret) .skip)) (.seq (.region d2t) .ret))),[.t 4]⟩
def p27:Pers:=⟨5,[19],27,[]⟩
def d0s(e:a7):Reg:=xA (wH 63 [(.int .i64 0),(.int .i64 0),(.int .i64 0),(.int .i64 0),(.int .i64 0)]) fun a=>xC (e.upd 2 a)
def c9s(e:a7):Reg:=xA (wB (e 0)) fun a=>xA (wJ a) fun b=>xA (wC 16 b) fun c=>xA (wA (some 5) c) fun d=>xA (wH 63 [(.int .i64 0),(.int .i64 0),(.int .i64 0),(.int .i64 0),(.int .i64 0)]) fun f=>xA (wF 5 f d) fun _=>xC (e.upd 3 f)
def a9z(e:a7)(a:Value):Reg:=xA (wC 4 (e 3)) fun b=>xD fun h13=>xA (wF 1 b a) fun _=>xC e
def a7G(e:a7)(h4:Heap)(a b:Value):Reg:=xA (wC 15 b) fun c=>xA (wA none c) fun d=>xE none (some h4) (wA none c) d<|xD fun h9=>xA (wD 50 [d]) fun f=>xA (wC 3 (e 3)) fun g=>xD fun h11=>xA (wF 1 g a) fun _=>a9z e f
def d6Z(e:a7):Reg:=xA (wB (e 0)) fun a=>xA (wJ a) fun b=>xA (wC 13 b) fun c=>xA (wA none c) fun d=>xD fun h4=>xA (wD 49 [d]) fun f=>xA (wB (e 0)) fun g=>xA (wJ g) fun i=>a7G e h4 f i
def d0T(e:a7):Reg:=xA (wA (some 5) (e 3)) fun a=>xA (wF 5 (e 2) a) fun _=>xC e
def R28:=an (ro d0s.eq_1)<|an (ro c9s.eq_1)<|an (ro1 a9z.eq_1)<|an (T4 a7G.eq_1)<|an (ro d6Z.eq_1)<|ro d0T.eq_1
def c28:CFn:=⟨(.seq (.region d0s) (.seq (.region c9s) (.seq (.region d6Z) (.seq (.region d0T) .ret)))),[.c 2 (some 5)]⟩
def p28:Pers:=⟨4,[],21,[]⟩
def d5I(e:a7):Reg:=xA (wN 23 (e 0)) fun a=>xA (wH 34 [(.int .i64 0),(.int .i64 0),(.int .i64 0),(.int .i64 0),(.int .i64 0),(.int .i64 0),(.int .i64 0),(.int .i64 0),(.bool false)]) fun b=>xC ((e.upd 1 a).upd 2 b)
def d1L(e:a7):Reg:=xA (wC 0 (e 1)) fun a=>xA (wA none a) fun b=>xA (wE .and b (.int .i64 31)) fun c=>xA (wE .add c (.int .i64 1)) fun d=>xA (wB d) fun f=>xC (e.upd 3 f)
def d3S(e:a7):Reg:=xA (wC 3 (e 1)) fun a=>xA (wA none a) fun b=>xA (wE .and b (.int .i64 7)) fun c=>xA (wE .add c (.int .i64 1)) fun d=>xA (wB d) fun f=>xC (e.upd 4 f)
def a8P(e:a7)(a b c d f g i:Value):Reg:=xA (wE .and i (.int .i64 15)) fun j=>xA (wE .add j (.int .i64 1)) fun k=>xA (wC 7 (e 1)) fun m=>xA (wA none m) fun n=>xA (wE .and n (.int .i64 7)) fun o=>xA (wE .add o (.int .i64 1)) fun p=>xA (wM [(.int .i64 0),(.int .i64 0),(.int .i64 0),(.int .i64 0),(.int .i64 0),(.int .i64 0),(.int .i64 0),(.int .i64 0),(.bool false)] [(0,1,a),(1,1,b),(2,1,c),(3,1,d),(4,1,f),(5,1,g),(6,1,k),(7,1,p)]) fun q=>xA (wH 34 [(.int .i64 0),(.int .i64 0),(.int .i64 0),(.int .i64 0),(.int .i64 0),(.int .i64 0),(.int .i64 0),(.int .i64 0),(.bool false)]) fun r=>xD fun h32=>xA (wF 9 r q) fun _=>xC (e.upd 5 r)
def a9d(e:a7)(a b c d f:Value):Reg:=xA (wE .and f (.int .i64 7)) fun g=>xA (wE .add g (.int .i64 1)) fun i=>xA (wC 5 (e 1)) fun j=>xA (wA none j) fun k=>xA (wE .and k (.int .i64 3)) fun m=>xA (wE .add m (.int .i64 1)) fun n=>xA (wC 6 (e 1)) fun o=>xA (wA none o) fun p=>a8P e a b c d i n p
def a8B(e:a7)(a b c:Value):Reg:=xA (wA none c) fun d=>xA (wE .and d (.int .i64 31)) fun f=>xA (wB (e 3)) fun g=>xA (wE .rem f g) fun i=>xA (wE .add i (.int .i64 1)) fun j=>xA (wB (e 4)) fun k=>xA (wC 4 (e 1)) fun m=>xA (wA none m) fun n=>a9d e a b j k n
def d5A(e:a7):Reg:=xA (wB (e 3)) fun a=>xA (wC 1 (e 1)) fun b=>xA (wA none b) fun c=>xA (wE .and c (.int .i64 31)) fun d=>xA (wE .add d (.int .i64 1)) fun f=>xA (wB (e 4)) fun g=>xA (wE .mul f g) fun i=>xA (wC 2 (e 1)) fun j=>a8B e a i j
def c8T(e:a7):Reg:=xA (wC 8 (e 1)) fun a=>xA (wA none a) fun b=>xA (wB b) fun c=>xB c true (wB (e 4)) fun d=>xB c true (wE .gtr d (.int .i64 1)) fun f=>xA (wK c f (.bool false)) fun g=>xA (wC 8 (e 5)) fun i=>xA (wF 1 i g) fun _=>xC e
def c9q(e:a7):Reg:=xA (wA (some 9) (e 5)) fun a=>xA (wF 9 (e 2) a) fun _=>xC e
def R30:=an (ro d5I.eq_1)<|an (ro d1L.eq_1)<|an (ro d3S.eq_1)<|an (ro7 a8P.eq_1)<|an (ro5 a9d.eq_1)<|an (T4 a8B.eq_1)<|an (ro d5A.eq_1)<|an (ro c8T.eq_1)<|ro c9q.eq_1
def c30:CFn:=⟨(.seq (.region d5I) (.seq (.region d1L) (.seq (.region d3S) (.seq (.region d5A) (.seq (.region c8T) (.seq (.region c9q) .ret)))))),[.c 2 (some 9)]⟩
def p30:Pers:=⟨6,[],53,[]⟩
def d2w(e:a7):Reg:=xA (wN 30 (e 0)) fun a=>xA (wB (.bool false)) fun b=>xC ((e.upd 1 a).upd 2 b)
def a7K(e:a7)(a b:Value):Reg:=xA (wK a (.bool true) b) fun c=>xA (wB c) fun d=>xB d false (wC 2 (e 1)) fun f=>xB d false (wA none f) fun g=>xB d false (wE .gtr g (.int .i64 65536)) fun i=>xA (wK d (.bool true) i) fun j=>xC (e.upd 26 j)
def a8L(e:a7)(a b:Value):Reg:=xB a false (wD 54 [b,(.int .i64 8)]) fun c=>xB a false (wP .not c) fun d=>xA (wK a (.bool true) d) fun f=>xA (wB f) fun g=>xB g false (wC 0 (e 1)) fun i=>xB g false (wA none i) fun j=>xB g false (wD 54 [j,(.int .i64 4294967296)]) fun k=>xB g false (wP .not k) fun m=>a7K e g m
def d5S(e:a7):Reg:=xA (wC 1 (e 1)) fun a=>xA (wA none a) fun b=>xA (wD 54 [b,(.int .i64 16)]) fun c=>xA (wP .not c) fun d=>xA (wB d) fun f=>xB f false (wC 3 (e 1)) fun g=>xB f false (wA none g) fun i=>xB f false (wL i) fun j=>a8L e f j
def d1o(e:a7):Reg:=xA (wB (.bool false)) fun a=>xC (e.upd 2 a)
def d5p(e:a7):Reg:=xA (wC 3 (e 1)) fun a=>xA (wA none a) fun b=>xA (wL b) fun c=>xA (wB (.int .i64 0)) fun d=>xC (((e.upd 28 b).upd 29 c).upd 30 d)
def c8E(e:a7):Reg:=xA (wE .lss (e 30) (e 29)) fun a=>xC (e.upd 31 a)
def d5y(e:a7):Reg:=xA (wI 9 (e 28) (e 30)) fun a=>xA (wA (some 9) a) fun b=>xA (wH 34 [(.int .i64 0),(.int .i64 0),(.int .i64 0),(.int .i64 0),(.int .i64 0),(.int .i64 0),(.int .i64 0),(.int .i64 0),(.bool false)]) fun c=>xA (wF 9 c b) fun _=>xC (e.upd 4 c)
def d3M(e:a7):Reg:=xA (wA (some 9) (e 4)) fun a=>xA (wD 55 [a]) fun b=>xA (wP .not b) fun c=>xC (e.upd 36 c)
def c9n(e:a7):Reg:=xA (wB (.bool false)) fun a=>xC (e.upd 2 a)
def d2a(e:a7):Reg:=xA (wE .add (e 30) (.int .i64 1)) fun a=>xA (wB a) fun b=>xC (e.upd 30 b)
def a4r:CC:=(.seq (.region c8E) (.seq (.cond (fun e=>e 31) .skip (.exit 0)) (.seq (.block 1 (.seq (.region d5y) (.seq (.region d3M) (.cond (fun e=>e 36) (.seq (.region c9n) .ret) .skip)))) (.region d2a))))
def a9A(e:a7)(a:Value):Reg:=xB a true (wA (some 4) (e 1)) fun b=>xD fun h7=>xB a true (wD 57 [b]) fun c=>xB a true (wC 0 (e 1)) fun d=>xB a true (wA none d) fun f=>xE (some (a,true)) (some h7) (.load none d) f<|xB a true (wE .leq c f) fun g=>xA (wK a g (.bool false)) fun i=>xA (wB i) fun j=>xC (e.upd 2 j)
def c7R(e:a7):Reg:=xA (wC 2 (e 1)) fun a=>xA (wA none a) fun b=>xA (wA (some 4) (e 1)) fun c=>xD fun h3=>xA (wD 56 [c]) fun d=>xE none none (wA none a) b<|xA (wE .geq b d) fun f=>xA (wB f) fun g=>a9A e g
def R31:=an (ro d2w.eq_1)<|an (Q7 a7K.eq_1)<|an (Q7 a8L.eq_1)<|an (ro d5S.eq_1)<|an (ro d1o.eq_1)<|an (ro d5p.eq_1)<|an (ro c8E.eq_1)<|an (ro d5y.eq_1)<|an (ro d3M.eq_1)<|an (ro c9n.eq_1)<|an (ro d2a.eq_1)<|an (ro1 a9A.eq_1)<|ro c7R.eq_1
def c31:CFn:=⟨(.seq (.region d2w) (.seq (.seq (.region d5S) (.cond (fun e=>e 26) (.seq (.region d1o) .ret) .skip)) (.seq (.seq (.region d5p) (.block 0 (.loop a4r))) (.seq (.region c7R) .ret)))),[.t 2]⟩
def p31:Pers:=⟨5,[26,28,29,30,31,36],50,[]⟩
def c8H(e:a7):Reg:=xA (wB (e 0)) fun a=>xA (wB (e 0)) fun b=>xA (wJ a) fun c=>xA (wC 8 c) fun d=>xA (wF 1 d (.slice none 0 0)) fun _=>xA (wJ b) fun f=>xA (wC 9 f) fun g=>xA (wF 1 g (.slice none 0 0)) fun _=>xC e
def d5D(e:a7):Reg:=xA (wB (e 0)) fun a=>xA (wJ a) fun b=>xA (wC 4 b) fun c=>xA (wC 1 c) fun d=>xA (wA none d) fun f=>xA (wB (.int .i64 0)) fun g=>xC ((e.upd 17 f).upd 18 g)
def d3E(e:a7):Reg:=xA (wE .lss (e 18) (e 17)) fun a=>xC (e.upd 19 a)
def a7L(e:a7)(a b c d f:Value):Reg:=xD fun h16=>xA (wD 58 [d,f]) fun g=>xE none none (wA none b) c<|xA (.buildSlice 110 1 [(.pointer none)] [(0,1,g)]) fun i=>xD fun h18=>xA (.append 110 1 8 c i) fun j=>xA (wJ a) fun k=>xA (wC 8 k) fun m=>xD fun h21=>xA (wF 1 m j) fun _=>xC e
def a8p(e:a7)(a b c d:Value):Reg:=xA (wC 3 d) fun f=>xA (wA none f) fun g=>xA (wL g) fun i=>xA (wB (e 0)) fun j=>xA (wJ j) fun k=>xA (wC 4 k) fun m=>xA (wC 2 m) fun n=>xA (wA none n) fun o=>a7L e a b c i o
def d2J(e:a7):Reg:=xA (wB (e 0)) fun a=>xA (wB (e 0)) fun b=>xA (wJ b) fun c=>xA (wC 8 c) fun d=>xA (wA none d) fun f=>xA (wB (e 0)) fun g=>xA (wJ g) fun i=>xA (wC 4 i) fun j=>a8p e a d f j
def d3v(e:a7):Reg:=xA (wE .add (e 18) (.int .i64 1)) fun a=>xA (wB a) fun b=>xC (e.upd 18 b)
def b0v:CC:=(.seq (.region d3E) (.seq (.cond (fun e=>e 19) .skip (.exit 0)) (.seq (.block 1 (.region d2J)) (.region d3v))))
def d5x(e:a7):Reg:=xA (wB (e 0)) fun a=>xA (wJ a) fun b=>xA (wC 4 b) fun c=>xA (wC 3 c) fun d=>xA (wA none d) fun f=>xA (wL f) fun g=>xA (wB (.int .i64 0)) fun i=>xC (((e.upd 46 f).upd 47 g).upd 48 i)
def d6I(e:a7):Reg:=xA (wE .lss (e 48) (e 47)) fun a=>xC (e.upd 49 a)
def d7m(e:a7):Reg:=xA (wB (e 48)) fun a=>xA (wI 9 (e 46) (e 48)) fun b=>xA (wA (some 9) b) fun c=>xA (wH 34 [(.int .i64 0),(.int .i64 0),(.int .i64 0),(.int .i64 0),(.int .i64 0),(.int .i64 0),(.int .i64 0),(.int .i64 0),(.bool false)]) fun d=>xA (wB a) fun f=>xA (wF 9 d c) fun _=>xC ((e.upd 5 d).upd 4 f)
def c7E(e:a7):Reg:=xA (wC 5 (e 5)) fun a=>xA (wA none a) fun b=>xA (wE .add b (.int .i64 1)) fun c=>xA (wE .mul (.int .i64 3) c) fun d=>xA (wB d) fun f=>xC (e.upd 6 f)
def a8k(e:a7)(a b c:Value):Reg:=xA (.buildSlice 94 1 [(.pointer none)] [(0,1,c)]) fun d=>xD fun h12=>xA (.append 94 1 8 b d) fun f=>xA (wJ a) fun g=>xA (wC 9 g) fun i=>xD fun h15=>xA (wF 1 i f) fun _=>xC e
def a9h(e:a7)(a b c d f g:Value):Reg:=xA (wB (e 6)) fun i=>xD fun h9=>xA (wD 60 [f,g,i]) fun j=>xE none none (wA (some 9) (e 5)) d<|xE none none (wA none b) c<|xD fun h10=>xA (wD 59 [d,j]) fun k=>xE none none (wA none b) c<|a8k e a c k
def c7N(e:a7):Reg:=xA (wB (e 0)) fun a=>xA (wB (e 0)) fun b=>xA (wJ b) fun c=>xA (wC 9 c) fun d=>xA (wA none d) fun f=>xA (wA (some 9) (e 5)) fun g=>xA (wB (e 1)) fun i=>xA (wB (e 4)) fun j=>a9h e a d f g i j
def c4d(e:a7):Reg:=xA (wE .add (e 48) (.int .i64 1)) fun a=>xA (wB a) fun b=>xC (e.upd 48 b)
def b0r:CC:=(.seq (.region d6I) (.seq (.cond (fun e=>e 49) .skip (.exit 2)) (.seq (.block 3 (.seq (.region d7m) (.seq (.region c7E) (.region c7N)))) (.region c4d))))
def R32:=an (ro c8H.eq_1)<|an (ro d5D.eq_1)<|an (ro d3E.eq_1)<|an (ro5 a7L.eq_1)<|an (ro4 a8p.eq_1)<|an (ro d2J.eq_1)<|an (ro d3v.eq_1)<|an (ro d5x.eq_1)<|an (ro d6I.eq_1)<|an (ro d7m.eq_1)<|an (ro c7E.eq_1)<|an (T4 a8k.eq_1)<|an (ro6 a9h.eq_1)<|an (ro c7N.eq_1)<|ro c4d.eq_1
def c32:CFn:=⟨(.seq (.region c8H) (.seq (.seq (.region d5D) (.block 0 (.loop b0v))) (.seq (.region d5x) (.block 2 (.loop b0r))))),[]⟩
def p32:Pers:=⟨7,[17,18,19,46,47,48,49],73,[]⟩
def c7y(e:a7):Reg:=xA (wB (.int .i64 0)) fun a=>xC (e.upd 4 a)
def d4j(e:a7):Reg:=xA (wB (e 0)) fun a=>xA (wB (e 0)) fun b=>xA (wJ b) fun c=>xA (wC 0 c) fun d=>xA (wA none d) fun f=>xA (wB (e 1)) fun g=>xA (.minmax true [f,g,(.int .i64 0)]) fun i=>xA (wJ a) fun j=>xA (wC 0 j) fun k=>xA (wF 1 k i) fun _=>xC e
def c9r(e:a7):Reg:=xA (wB (e 0)) fun a=>xA (wJ a) fun b=>xA (wC 3 b) fun c=>xA (wA none c) fun d=>xA (wP .not d) fun f=>xC (e.upd 18 f)
def a7T(e:a7)(a b c:Value):Reg:=xA (wF 1 c b) fun _=>xA (wJ a) fun d=>xA (wC 3 d) fun f=>xA (wF 1 f (.bool true)) fun _=>xC e
def c9t(e:a7):Reg:=xA (wB (e 0)) fun a=>xA (wB (e 0)) fun b=>xA (wB (e 0)) fun c=>xA (wJ c) fun d=>xA (wC 0 d) fun f=>xA (wA none f) fun g=>xA (wJ a) fun i=>xA (wC 1 i) fun j=>a7T e b g j
def d5Z(e:a7):Reg:=xA (wB (e 0)) fun a=>xA (wJ a) fun b=>xA (wC 0 b) fun c=>xA (wA none c) fun d=>xA (wB d) fun f=>xC (e.upd 4 f)
def R34:=an (ro c7y.eq_1)<|an (ro d4j.eq_1)<|an (ro c9r.eq_1)<|an (T4 a7T.eq_1)<|an (ro c9t.eq_1)<|ro d5Z.eq_1
def c34:CFn:=⟨(.seq (.region c7y) (.seq (.region d4j) (.seq (.seq (.region c9r) (.cond (fun e=>e 18) (.region c9t) .skip)) (.seq (.region d5Z) .ret)))),[.t 4]⟩
def p34:Pers:=⟨5,[18],33,[]⟩
def d4n(e:a7):Reg:=xA (wA none (e 0)) fun a=>xA (wJ a) fun b=>xA (wC 10 b) fun c=>xA (wF 1 c (.slice none 0 0)) fun _=>xC e
def R35:=ro d4n.eq_1
def c35:CFn:=⟨(.region d4n),[]⟩
def p35:Pers:=⟨0,[0],4,[]⟩
def d2k(e:a7):Reg:=xA (wB (.bool false)) fun a=>xC (e.upd 2 a)
def c7K(e:a7):Reg:=xA (wB (e 0)) fun a=>xA (.eqK .ptr false a (.pointer none)) fun b=>xA (wB b) fun c=>xB c false (wB (e 0)) fun d=>xB c false (wJ d) fun f=>xB c false (wC 80 f) fun g=>xB c false (wA none g) fun i=>xA (wK c (.bool true) i) fun j=>xC (e.upd 10 j)
def c9J(e:a7):Reg:=xA (wB (.bool false)) fun a=>xC (e.upd 2 a)
def a9p(e:a7)(a b c:Value):Reg:=xA (wC 0 c) fun d=>xA (wF 78 d b) fun _=>xA (wJ a) fun f=>xA (wC 80 f) fun g=>xA (wF 1 g (.bool true)) fun _=>xC e
def d1x(e:a7):Reg:=xA (wB (e 0)) fun a=>xA (wB (e 0)) fun b=>xA (wB (e 0)) fun c=>xA (wJ c) fun d=>xA (wC 79 d) fun f=>xA (wA none f) fun g=>xA (wD 51 [g]) fun i=>xA (wJ a) fun j=>a9p e b i j
def d7z(e:a7):Reg:=xA (wB (e 0)) fun a=>xA (wJ a) fun b=>xA (wC 78 b) fun c=>xA (wA none c) fun d=>xA (wD 61 [d]) fun f=>xC e
def d4c(e:a7):Reg:=xA (wB (.bool true)) fun a=>xC (e.upd 2 a)
def R36:=an (ro d2k.eq_1)<|an (ro c7K.eq_1)<|an (ro c9J.eq_1)<|an (T4 a9p.eq_1)<|an (ro d1x.eq_1)<|an (ro d7z.eq_1)<|ro d4c.eq_1
def c36:CFn:=⟨(.seq (.region d2k) (.seq (.seq (.region c7K) (.cond (fun e=>e 10) (.seq (.region c9J) .ret) .skip)) (.seq (.region d1x) (.seq (.region d7z) (.seq (.region d4c) .ret))))),[.t 2]⟩
def p36:Pers:=⟨3,[10],27,[]⟩
def d4S(e:a7):Reg:=xA (wB (.bool false)) fun a=>xC (e.upd 2 a)
def d4R(e:a7):Reg:=xA (wB (e 0)) fun a=>xA (.eqK .ptr true a (.pointer none)) fun b=>xA (wB b) fun c=>xB c true (wB (e 0)) fun d=>xB c true (wJ d) fun f=>xB c true (wC 80 f) fun g=>xB c true (wA none g) fun i=>xA (wK c i (.bool false)) fun j=>xA (wB j) fun k=>xC (e.upd 2 k)
def R38:=an (ro d4S.eq_1)<|ro d4R.eq_1
def c38:CFn:=⟨(.seq (.region d4S) (.seq (.region d4R) .ret)),[.t 2]⟩
def p38:Pers:=⟨3,[],11,[]⟩
def d1y(e:a7):Reg:=xA (wB (.int .i64 0)) fun a=>xC (e.upd 6 a)
def d0Y(e:a7):Reg:=xA (wB (e 0)) fun a=>xA (wD 38 [a]) fun b=>xA (wP .not b) fun c=>xC (e.upd 16 c)
def d4M(e:a7):Reg:=xA (wB (.int .i64 0)) fun a=>xC (e.upd 6 a)
def c8J(e:a7):Reg:=xA (wB (e 1)) fun a=>xA (wL a) fun b=>xA (wB (.int .i64 0)) fun c=>xC (((e.upd 17 a).upd 18 b).upd 19 c)
def c8Q(e:a7):Reg:=xA (wE .lss (e 19) (e 18)) fun a=>xC (e.upd 20 a)
def d7q(e:a7):Reg:=xA (wB (e 19)) fun a=>xA (wI 1 (e 17) (e 19)) fun b=>xA (wA none b) fun c=>xA (wB a) fun d=>xA (wB c) fun f=>xC ((e.upd 7 d).upd 8 f)
def d1e(e:a7):Reg:=xA (wB (e 0)) fun a=>xA (wJ a) fun b=>xA (wC 0 b) fun c=>xA (wD 62 [c]) fun d=>xA (wE .neq d (.int .i64 0)) fun f=>xC (e.upd 28 f)
def d7t(e:a7):Reg:=xA (wB (e 7)) fun a=>xA (wB a) fun b=>xC (e.upd 6 b)
def a7X(e:a7)(a b c:Value):Reg:=xA (wG a 2) fun d=>xA (wH 61 [(.int .i64 0),(.int .i64 0),(.int .u32 0),(.string ⟨#[]⟩),(.int .i64 0)]) fun f=>xA (wF 5 f b) fun _=>xA (wB c) fun g=>xA (wB d) fun i=>xC (((e.upd 9 f).upd 10 g).upd 11 i)
def c9l(e:a7):Reg:=xA (wB (e 0)) fun a=>xA (wJ a) fun b=>xA (wC 0 b) fun c=>xA (wB (e 8)) fun d=>xA (wD 52 [c,d]) fun f=>xA (wB f) fun g=>xA (wG g 0) fun i=>xA (wG g 1) fun j=>a7X e g i j
def c8y(e:a7):Reg:=xA (wB (e 11)) fun a=>xA (wE .neq a (.int .i64 0)) fun b=>xA (wB b) fun c=>xC (e.upd 39 c)
def c4L(e:a7):Reg:=xA (wB (e 0)) fun a=>xA (wJ a) fun b=>xA (wC 78 b) fun c=>xA (wA none c) fun d=>xA (wD 63 [d]) fun f=>xA (wE .lss f (.int .i64 6)) fun g=>xC (e.upd 47 g)
def b9a(e:a7):Reg:=xA (wB (e 7)) fun a=>xA (wB a) fun b=>xC (e.upd 6 b)
def b6f(e:a7):Reg:=xA (wB (e 0)) fun a=>xA (wJ a) fun b=>xA (wC 78 b) fun c=>xA (wA none c) fun d=>xA (wB (e 11)) fun f=>xD fun h5=>xA (wD 65 [f]) fun g=>xE none none (wA none c) d<|xD fun h6=>xA (wD 64 [d,g]) fun i=>xC e
def b9g(e:a7):Reg:=xA (wB (e 10)) fun a=>xA (wB a) fun b=>xC (e.upd 56 b)
def a5F(e:a7)(h4:Heap)(a b c:Value):Reg:=xE none (some h4) (wA (some 5) (e 9)) c<|xD fun h7=>xA (.callv (a1I [(35,118)] b) [c]) fun d=>xA (wE .lss a d) fun f=>xC (e.upd 66 f)
def b9x(e:a7):Reg:=xA (wB (e 0)) fun a=>xA (wJ a) fun b=>xA (wC 78 b) fun c=>xA (wA none c) fun d=>xD fun h4=>xA (wD 63 [d]) fun f=>xA (wB (e 2)) fun g=>xA (wA (some 5) (e 9)) fun i=>a5F e h4 f g i
def c2r(e:a7):Reg:=xA (wB (e 7)) fun a=>xA (wB a) fun b=>xC (e.upd 6 b)
def a4o(e:a7)(a b c:Value):Reg:=xE none none (wA none a) b<|xD fun h7=>xA (wD 64 [b,c]) fun d=>xC e
def c4C(e:a7):Reg:=xA (wB (e 0)) fun a=>xA (wJ a) fun b=>xA (wC 78 b) fun c=>xA (wA none c) fun d=>xA (wB (e 2)) fun f=>xA (wA (some 5) (e 9)) fun g=>xD fun h6=>xA (.callv (a1I [(35,117)] f) [g]) fun i=>a4o e c d i
def b6u(e:a7):Reg:=xA (wB (e 2)) fun a=>xA (.assertI 291 [] .nilIface a) fun b=>xA (wB b) fun c=>xA (wG c 0) fun d=>xA (wG c 1) fun f=>xA (wB d) fun g=>xA (wB f) fun i=>xC ((e.upd 12 g).upd 13 i)
def b9f(e:a7):Reg:=xA (wB (e 13)) fun a=>xC (e.upd 81 a)
def b8G(e:a7):Reg:=xA (wB (e 12)) fun a=>xA (wA (some 5) (e 9)) fun b=>xA (.callv (a1I [] a) [b]) fun c=>xC e
def b6R(e:a7):Reg:=xA (wB (e 0)) fun a=>xA (wJ a) fun b=>xA (wC 0 b) fun c=>xA (wB (e 8)) fun d=>xA (wD 53 [c,d]) fun f=>xC e
def b7S(e:a7):Reg:=xA (wE .add (e 19) (.int .i64 1)) fun a=>xA (wB a) fun b=>xC (e.upd 19 b)
def a6A:CC:=(.seq (.region c8Q) (.seq (.cond (fun e=>e 20) .skip (.exit 0)) (.seq (.block 1 (.seq (.region d7q) (.seq (.seq (.region d1e) (.cond (fun e=>e 28) (.seq (.region d7t) .ret) .skip)) (.seq (.region c9l) (.seq (.block 2 (.seq (.region c8y) (.cond (fun e=>e 39) (.seq (.seq (.region c4L) (.cond (fun e=>e 47) (.seq (.region b9a) .ret) .skip)) (.region b6f)) (.seq (.region b9g) (.cond (fun e=>e 56) (.seq (.seq (.region b9x) (.cond (fun e=>e 66) (.seq (.region c2r) .ret) .skip)) (.seq (.region c4C) (.seq (.region b6u) (.seq (.region b9f) (.cond (fun e=>e 81) (.region b8G) .skip))))) .skip))))) (.region b6R)))))) (.region b7S))))
def c4V(e:a7):Reg:=xA (wB (e 1)) fun a=>xA (wL a) fun b=>xA (wB b) fun c=>xC (e.upd 6 c)
def R39:=an (ro d1y.eq_1)<|an (ro d0Y.eq_1)<|an (ro d4M.eq_1)<|an (ro c8J.eq_1)<|an (ro c8Q.eq_1)<|an (ro d7q.eq_1)<|an (ro d1e.eq_1)<|an (ro d7t.eq_1)<|an (T4 a7X.eq_1)<|an (ro c9l.eq_1)<|an (ro c8y.eq_1)<|an (ro c4L.eq_1)<|an (ro b9a.eq_1)<|an (ro b6f.eq_1)<|an (ro b9g.eq_1)<|an (ro4 a5F.eq_1)<|an (ro b9x.eq_1)<|an (ro c2r.eq_1)<|an (T4 a4o.eq_1)<|an (ro c4C.eq_1)<|an (ro b6u.eq_1)<|an (ro b9f.eq_1)<|an (ro b8G.eq_1)<|an (ro b6R.eq_1)<|an (ro b7S.eq_1)<|ro c4V.eq_1
def c39:CFn:=⟨(.seq (.region d1y) (.seq (.seq (.region d0Y) (.cond (fun e=>e 16) (.seq (.region d4M) .ret) .skip)) (.seq (.seq (.region c8J) (.block 0 (.loop a6A))) (.seq (.region c4V) .ret)))),[.t 6]⟩
def p39:Pers:=⟨14,[16,17,18,19,20,28,39,47,56,66,81],93,[]⟩
def d1R(e:a7):Reg:=xA (wB (.slice none 0 0)) fun a=>xC (e.upd 4 a)
def d3G(e:a7):Reg:=xA (wB (e 0)) fun a=>xA (wD 38 [a]) fun b=>xA (wP .not b) fun c=>xC (e.upd 7 c)
def c8g(e:a7):Reg:=xA (wB (.slice none 0 0)) fun a=>xC (e.upd 4 a)
def d7u(e:a7):Reg:=xA (wB (e 0)) fun a=>xA (wJ a) fun b=>xA (wC 78 b) fun c=>xA (wA none c) fun d=>xA (wB (e 1)) fun f=>xA (wD 66 [d,f]) fun g=>xA (wB g) fun i=>xC (e.upd 4 i)
def R40:=an (ro d1R.eq_1)<|an (ro d3G.eq_1)<|an (ro c8g.eq_1)<|ro d7u.eq_1
def c40:CFn:=⟨(.seq (.region d1R) (.seq (.seq (.region d3G) (.cond (fun e=>e 7) (.seq (.region c8g) .ret) .skip)) (.seq (.region d7u) .ret))),[.t 4]⟩
def p40:Pers:=⟨5,[7],14,[]⟩
def d4B(e:a7):Reg:=xA (wB (.slice none 0 0)) fun a=>xC (e.upd 6 a)
def d2z(e:a7):Reg:=xA (wB (e 1)) fun a=>xA (wE .sub a (.int .i64 1)) fun b=>xA (wB b) fun c=>xC (e.upd 7 c)
def d2h(e:a7):Reg:=xA (wB (e 7)) fun a=>xA (wE .geq a (.int .i64 0)) fun b=>xC (e.upd 11 b)
def d1F(e:a7):Reg:=xA (wB (e 0)) fun a=>xA (wB (e 2)) fun b=>xA (wB (e 7)) fun c=>xA (wE .mul (.int .i64 8) c) fun d=>xA (wE .shr b d) fun f=>xA (wO .u8 f) fun g=>xA (.buildSlice 5 1 [(.int .u8 0)] [(0,1,g)]) fun i=>xA (.append 5 1 1 a i) fun j=>xA (wB j) fun k=>xC (e.upd 0 k)
def d2o(e:a7):Reg:=xA (wB (e 7)) fun a=>xA (wE .sub a (.int .i64 1)) fun b=>xA (wB b) fun c=>xC (e.upd 7 c)
def b0B:CC:=(.seq (.seq (.region d2h) (.cond (fun e=>e 11) .skip (.exit 0))) (.seq (.block 1 (.region d1F)) (.region d2o)))
def d0j(e:a7):Reg:=xA (wB (e 0)) fun a=>xA (wB a) fun b=>xC (e.upd 6 b)
def R44:=an (ro d4B.eq_1)<|an (ro d2z.eq_1)<|an (ro d2h.eq_1)<|an (ro d1F.eq_1)<|an (ro d2o.eq_1)<|ro d0j.eq_1
def c44:CFn:=⟨(.seq (.region d4B) (.seq (.seq (.region d2z) (.block 0 (.loop b0B))) (.seq (.region d0j) .ret))),[.t 6]⟩
def p44:Pers:=⟨8,[11],23,[]⟩
def d7p(e:a7):Reg:=xA (wB (.slice none 0 0)) fun a=>xC (e.upd 4 a)
def a8G(e:a7)(a b c:Value):Reg:=xA (.buildSlice 5 4 [(.int .u8 0)] [(0,1,a),(1,1,(.int .u8 1)),(2,1,b),(3,1,c)]) fun d=>xA (wB (e 1)) fun f=>xA (.append 5 1 1 d f) fun g=>xA (wB g) fun i=>xC (e.upd 4 i)
def c8c(e:a7):Reg:=xA (wB (e 0)) fun a=>xA (wB (e 1)) fun b=>xA (wL b) fun c=>xA (wE .shr c (.int .u64 8)) fun d=>xA (wO .u8 d) fun f=>xA (wB (e 1)) fun g=>xA (wL g) fun i=>xA (wO .u8 i) fun j=>a8G e a f j
def R45:=an (ro d7p.eq_1)<|an (T4 a8G.eq_1)<|ro c8c.eq_1
def c45:CFn:=⟨(.seq (.region d7p) (.seq (.region c8c) .ret)),[.t 4]⟩
def p45:Pers:=⟨5,[],16,[]⟩
def c8e(e:a7):Reg:=xA (wB (.int .u64 0)) fun a=>xC (e.upd 2 a)
def d0D(e:a7):Reg:=xA (wB (.int .u64 0)) fun a=>xC (e.upd 3 a)
def d6E(e:a7):Reg:=xA (wB (e 0)) fun a=>xA (wL a) fun b=>xA (wB (.int .i64 0)) fun c=>xC (((e.upd 6 a).upd 7 b).upd 8 c)
def d2R(e:a7):Reg:=xA (wE .lss (e 8) (e 7)) fun a=>xC (e.upd 9 a)
def d4y(e:a7):Reg:=xA (wI 1 (e 6) (e 8)) fun a=>xA (wA none a) fun b=>xA (wB b) fun c=>xC (e.upd 5 c)
def d7g(e:a7):Reg:=xA (wB (e 3)) fun a=>xA (wE .shl a (.int .u64 8)) fun b=>xA (wB (e 5)) fun c=>xA (wO .u64 c) fun d=>xA (wE .or b d) fun f=>xA (wB f) fun g=>xC (e.upd 3 g)
def d5e(e:a7):Reg:=xA (wE .add (e 8) (.int .i64 1)) fun a=>xA (wB a) fun b=>xC (e.upd 8 b)
def a9H:CC:=(.seq (.region d2R) (.seq (.cond (fun e=>e 9) .skip (.exit 0)) (.seq (.block 1 (.seq (.region d4y) (.region d7g))) (.region d5e))))
def c8k(e:a7):Reg:=xA (wB (e 3)) fun a=>xA (wB a) fun b=>xC (e.upd 2 b)
def R46:=an (ro c8e.eq_1)<|an (ro d0D.eq_1)<|an (ro d6E.eq_1)<|an (ro d2R.eq_1)<|an (ro d4y.eq_1)<|an (ro d7g.eq_1)<|an (ro d5e.eq_1)<|ro c8k.eq_1
def c46:CFn:=⟨(.seq (.region c8e) (.seq (.region d0D) (.seq (.seq (.region d6E) (.block 0 (.loop a9H))) (.seq (.region c8k) .ret)))),[.t 2]⟩
def p46:Pers:=⟨6,[6,7,8,9],19,[]⟩
def e1u(e:a7):Reg:=xA (wN 39 (e 1)) fun a=>xA (wB (.bool false)) fun b=>xC ((e.upd 3 a).upd 4 b)
def c7g(e:a7)(a:Value):Reg:=xB a true (wA none (e 3)) fun b=>xB a true (wI 1 b (.int .i64 0)) fun c=>xB a true (wA none c) fun d=>xB a true (wE .leq d (.int .u8 3)) fun f=>xA (wK a f (.bool false)) fun g=>xA (wB g) fun i=>xC (e.upd 6 i)
def c5h(e:a7)(a b:Value):Reg:=xA (wK a b (.bool false)) fun c=>xA (wB c) fun d=>xB d true (wA none (e 3)) fun f=>xB d true (wI 1 f (.int .i64 0)) fun g=>xB d true (wA none g) fun i=>xB d true (wE .geq i (.int .u8 1)) fun j=>xA (wK d j (.bool false)) fun k=>xA (wB k) fun m=>c7g e m
def c5o(e:a7)(a b:Value):Reg:=xB a false (wC 0 b) fun c=>xB a false (wA none c) fun d=>xB a false (wE .eql d (.int .i64 2)) fun f=>xA (wK a (.bool true) f) fun g=>xA (wB g) fun i=>xB i true (wA none (e 3)) fun j=>xB i true (wL j) fun k=>xB i true (wE .eql k (.int .i64 17)) fun m=>c5h e i m
def e0t(e:a7):Reg:=xA (wB (e 0)) fun a=>xA (wJ a) fun b=>xA (wC 0 b) fun c=>xA (wA none c) fun d=>xA (wE .eql d (.int .i64 1)) fun f=>xA (wB f) fun g=>xB g false (wB (e 0)) fun i=>xB g false (wJ i) fun j=>c5o e g j
def c7e(e:a7)(a b c d f g i:Value):Reg:=xD fun h11=>xA (wD 46 [i]) fun j=>xE none none (wA none c) d<|xE none none (wA none (e 3)) b<|xA (wO .i64 j) fun k=>xA (wM [(.int .i64 0),(.int .i64 0),(.int .i64 0)] [(0,1,f),(1,1,g),(2,1,k)]) fun m=>xA (wJ a) fun n=>xA (wC 2 n) fun o=>xD fun h16=>xA (wF 3 o m) fun _=>xC e
def c5C(e:a7)(a b c d f g:Value)(h7:Heap):Reg:=xA (wD 46 [g]) fun i=>xE none none (wA none c) d<|xE none none (wA none (e 3)) b<|xA (wO .i64 i) fun j=>xA (wA none (e 3)) fun k=>xE none (some h7) (wA none (e 3)) k<|xA (.slice 5 1 k (some (.int .i64 9)) none) fun m=>xE none (some h7) (.slice 5 1 k (some (.int .i64 9)) none) m<|c7e e a b c d f j m
def e0V(e:a7):Reg:=xA (wB (e 0)) fun a=>xA (wA none (e 3)) fun b=>xA (wI 1 b (.int .i64 0)) fun c=>xA (wA none c) fun d=>xA (wO .i64 d) fun f=>xA (wA none (e 3)) fun g=>xA (.slice 5 1 g (some (.int .i64 1)) (some (.int .i64 9))) fun i=>xD fun h7=>c5C e a b c d f i h7
def c6q(e:a7)(a b:Value):Reg:=xB a true (wE .eql b (.int .i64 41)) fun c=>xA (wK a c (.bool false)) fun d=>xA (wB d) fun f=>xC (e.upd 52 f)
def e1p(e:a7):Reg:=xA (wB (e 0)) fun a=>xA (wJ a) fun b=>xA (wC 0 b) fun c=>xA (wA none c) fun d=>xA (wE .eql d (.int .i64 3)) fun f=>xA (wB f) fun g=>xB g true (wA none (e 3)) fun i=>xB g true (wL i) fun j=>c6q e g j
def d9V(e:a7):Reg:=xA (wB (e 0)) fun a=>xA (wA none (e 3)) fun b=>xA (wI 1 b (.int .i64 0)) fun c=>xA (wA none c) fun d=>xA (wO .i64 d) fun f=>xA (wJ a) fun g=>xA (wC 1 g) fun i=>xA (wF 1 i f) fun _=>xC e
def e0v(e:a7):Reg:=xA (.makeFunc 67 [] [(e 3)]) fun a=>xA (wB a) fun b=>xC (e.upd 5 b)
def c6W(e:a7)(a b c d f:Value):Reg:=xA (.callv f [(.int .i64 3)]) fun g=>xA (wB (e 5)) fun i=>xA (.callv i [(.int .i64 4)]) fun j=>xA (wM [(.int .i64 0),(.int .i64 0),(.int .i64 0),(.int .i64 0),(.int .i64 0)] [(0,1,b),(1,1,c),(2,1,d),(3,1,g),(4,1,j)]) fun k=>xA (wJ a) fun m=>xA (wC 5 m) fun n=>xA (wF 5 n k) fun _=>xC e
def e1j(e:a7):Reg:=xA (wB (e 0)) fun a=>xA (wB (e 5)) fun b=>xA (.callv b [(.int .i64 0)]) fun c=>xA (wB (e 5)) fun d=>xA (.callv d [(.int .i64 1)]) fun f=>xA (wB (e 5)) fun g=>xA (.callv g [(.int .i64 2)]) fun i=>xA (wB (e 5)) fun j=>c6W e a c f i j
def c6C(e:a7)(a b:Value):Reg:=xB a true (wE .geq b (.int .i64 2)) fun c=>xA (wK a c (.bool false)) fun d=>xA (wB d) fun f=>xC (e.upd 85 f)
def e1A(e:a7):Reg:=xA (wB (e 0)) fun a=>xA (wJ a) fun b=>xA (wC 0 b) fun c=>xA (wA none c) fun d=>xA (wE .eql d (.int .i64 4)) fun f=>xA (wB f) fun g=>xB g true (wA none (e 3)) fun i=>xB g true (wL i) fun j=>c6C e g j
def e0E(e:a7):Reg:=xA (wB (e 0)) fun a=>xA (wA none (e 3)) fun b=>xA (wI 1 b (.int .i64 0)) fun c=>xA (wA none c) fun d=>xA (wO .i64 d) fun f=>xA (wJ a) fun g=>xA (wC 1 g) fun i=>xA (wF 1 i f) fun _=>xC e
def d8a(e:a7):Reg:=xA (wB (e 0)) fun a=>xA (wA none (e 3)) fun b=>xA (.slice 5 1 b (some (.int .i64 2)) none) fun c=>xA (wA none (e 3)) fun d=>xA (wI 1 d (.int .i64 1)) fun f=>xA (wA none f) fun g=>xA (wO .i64 g) fun i=>xD fun h7=>xA (wD 68 [a,c,i]) fun j=>xA (wB j) fun k=>xC (e.upd 4 k)
def b4M(e:a7)(a b:Value):Reg:=xB a true (wE .eql b (.int .i64 1)) fun c=>xA (wK a c (.bool false)) fun d=>xA (wB d) fun f=>xB f true (wA none (e 3)) fun g=>xB f true (wI 1 g (.int .i64 0)) fun i=>xB f true (wA none i) fun j=>xB f true (wE .gtr j (.int .u8 0)) fun k=>xA (wK f k (.bool false)) fun m=>xA (wB m) fun n=>xC (e.upd 111 n)
def d7U(e:a7):Reg:=xA (wB (e 0)) fun a=>xA (wJ a) fun b=>xA (wC 0 b) fun c=>xA (wA none c) fun d=>xA (wE .eql d (.int .i64 127)) fun f=>xA (wB f) fun g=>xB g true (wA none (e 3)) fun i=>xB g true (wL i) fun j=>b4M e g j
def d9o(e:a7):Reg:=xA (wB (e 0)) fun a=>xA (wA none (e 3)) fun b=>xA (wI 1 b (.int .i64 0)) fun c=>xA (wA none c) fun d=>xA (wO .i64 d) fun f=>xA (wJ a) fun g=>xA (wC 11 g) fun i=>xA (wF 1 i f) fun _=>xC e
def e0q(e:a7):Reg:=xA (wB (.bool false)) fun a=>xC (e.upd 4 a)
def d8V(e:a7):Reg:=xA (wB (.bool true)) fun a=>xC (e.upd 4 a)
def c47:CFn:=⟨(.seq (.region e1u) (.seq (.block 0 (.seq (.region e0t) (.cond (fun e=>e 6) (.region e0V) (.seq (.region e1p) (.cond (fun e=>e 52) (.seq (.region d9V) (.seq (.region e0v) (.region e1j))) (.seq (.region e1A) (.cond (fun e=>e 85) (.seq (.region e0E) (.seq (.region d8a) .ret)) (.seq (.region d7U) (.cond (fun e=>e 111) (.region d9o) (.seq (.region e0q) .ret)))))))))) (.seq (.region d8V) .ret))),[.t 4]⟩
def p47:Pers:=⟨6,[6,52,85,111],135,[]⟩
def d6a(e:a7):Reg:=xA (wB (.int .i64 0)) fun a=>xC (e.upd 2 a)
def d4F(e:a7):Reg:=xA (wB (e 0)) fun a=>xA (.eqK .ptr false a (.pointer none)) fun b=>xC (e.upd 4 b)
def d0G(e:a7):Reg:=xA (wB (.int .i64 0)) fun a=>xC (e.upd 2 a)
def d6f(e:a7):Reg:=xA (wB (e 0)) fun a=>xA (wJ a) fun b=>xA (wC 0 b) fun c=>xA (wA none c) fun d=>xA (wD 70 [d]) fun f=>xA (wB f) fun g=>xC (e.upd 2 g)
def R49:=an (ro d6a.eq_1)<|an (ro d4F.eq_1)<|an (ro d0G.eq_1)<|ro d6f.eq_1
def c49:CFn:=⟨(.seq (.region d6a) (.seq (.seq (.region d4F) (.cond (fun e=>e 4) (.seq (.region d0G) .ret) .skip)) (.seq (.region d6f) .ret))),[.t 2]⟩
def p49:Pers:=⟨3,[4],10,[]⟩
def d0C(e:a7):Reg:=xA (wB (.int .i64 0)) fun a=>xC (e.upd 2 a)
def d7d(e:a7):Reg:=xA (wB (e 0)) fun a=>xA (.eqK .ptr false a (.pointer none)) fun b=>xC (e.upd 4 b)
def c7H(e:a7):Reg:=xA (wB (.int .i64 0)) fun a=>xC (e.upd 2 a)
def d1J(e:a7):Reg:=xA (wB (e 0)) fun a=>xA (wJ a) fun b=>xA (wC 6 b) fun c=>xA (wA none c) fun d=>xA (wB d) fun f=>xC (e.upd 2 f)
def R50:=an (ro d0C.eq_1)<|an (ro d7d.eq_1)<|an (ro c7H.eq_1)<|ro d1J.eq_1
def c50:CFn:=⟨(.seq (.region d0C) (.seq (.seq (.region d7d) (.cond (fun e=>e 4) (.seq (.region c7H) .ret) .skip)) (.seq (.region d1J) .ret))),[.t 2]⟩
def p50:Pers:=⟨3,[4],9,[]⟩
def d6G(e:a7):Reg:=xA (wH 135 [(.int .u8 0),(.int .u8 0),(.int .u8 0),(.int .u8 0),(.int .u8 0),(.int .u8 0),(.int .u8 0),(.int .u8 0),(.int .u8 0),(.int .u8 0),(.int .u8 0),(.int .u8 0),(.int .u8 0),(.int .u8 0),(.int .u8 0),(.int .u8 0),(.int .u8 0),(.int .u8 0),(.int .u8 0),(.int .u8 0),(.int .u8 0),(.int .u8 0),(.int .u8 0),(.int .u8 0),(.int .u8 0),(.int .u8 0),(.int .u8 0),(.int .u8 0),(.int .u8 0),(.int .u8 0),(.int .u8 0),(.int .u8 0),(.int .u8 0),(.int .u8 0),(.int .u8 0),(.int .u8 0),(.int .u8 0),(.int .u8 0),(.int .u8 0),(.int .u8 0),(.int .u8 0),(.int .u8 0),(.int .u8 0),(.int .u8 0),(.int .u8 0),(.int .u8 0),(.int .u8 0),(.int .u8 0),(.int .u8 0),(.int .u8 0),(.int .u8 0),(.int .u8 0),(.int .u8 0),(.int .u8 0),(.int .u8 0),(.int .u8 0),(.int .u8 0),(.int .u8 0),(.int .u8 0),(.int .u8 0),(.int .u8 0),(.int .u8 0),(.int .u8 0),(.int .u8 0),(.int .u8 0),(.int .u8 0),(.int .u8 0),(.int .u8 0),(.int .u8 0),(.int .u8 0),(.int .u8 0),(.int .u8 0),(.int .u8 0),(.int .u8 0),(.int .u8 0),(.int .i64 0),(.int .i64 0),(.int .i64 0)]) fun a=>xC (e.upd 2 a)
def d7i(e:a7):Reg:=xA (wB (e 0)) fun a=>xA (wM [(.int .u8 0),(.int .u8 0),(.int .u8 0),(.int .u8 0),(.int .u8 0),(.int .u8 0),(.int .u8 0),(.int .u8 0),(.int .u8 0),(.int .u8 0),(.int .u8 0),(.int .u8 0),(.int .u8 0),(.int .u8 0),(.int .u8 0),(.int .u8 0),(.int .u8 0),(.int .u8 0),(.int .u8 0),(.int .u8 0),(.int .u8 0),(.int .u8 0),(.int .u8 0),(.int .u8 0),(.int .u8 0),(.int .u8 0),(.int .u8 0),(.int .u8 0),(.int .u8 0),(.int .u8 0),(.int .u8 0),(.int .u8 0),(.int .u8 0),(.int .u8 0),(.int .u8 0),(.int .u8 0),(.int .u8 0),(.int .u8 0),(.int .u8 0),(.int .u8 0),(.int .u8 0),(.int .u8 0),(.int .u8 0),(.int .u8 0),(.int .u8 0),(.int .u8 0),(.int .u8 0),(.int .u8 0),(.int .u8 0),(.int .u8 0),(.int .u8 0),(.int .u8 0),(.int .u8 0),(.int .u8 0),(.int .u8 0),(.int .u8 0),(.int .u8 0),(.int .u8 0),(.int .u8 0),(.int .u8 0),(.int .u8 0),(.int .u8 0),(.int .u8 0),(.int .u8 0),(.int .u8 0),(.int .u8 0),(.int .u8 0),(.int .u8 0),(.int .u8 0),(.int .u8 0),(.int .u8 0),(.int .u8 0),(.int .u8 0),(.int .u8 0),(.int .u8 0),(.int .i64 0),(.int .i64 0),(.int .i64 0)] [(76,1,a)]) fun b=>xA (wF 78 (e 2) b) fun _=>xC e
def R51:=an (ro d6G.eq_1)<|ro d7i.eq_1
def c51:CFn:=⟨(.seq (.region d6G) (.seq (.region d7i) .ret)),[.c 2 (some 78)]⟩
def p51:Pers:=⟨3,[],5,[]⟩
def d3w(e:a7):Reg:=xA (wH 61 [(.int .i64 0),(.int .i64 0),(.int .u32 0),(.string ⟨#[]⟩),(.int .i64 0)]) fun a=>xA (wB (.bool false)) fun b=>xA (wB (.int .i64 0)) fun c=>xC (((e.upd 4 a).upd 5 b).upd 6 c)
def d6K(e:a7):Reg:=xA (wB (e 0)) fun a=>xA (wJ a) fun b=>xA (wC 77 b) fun c=>xA (wA none c) fun d=>xA (wE .neq d (.int .i64 0)) fun f=>xC (e.upd 15 f)
def d6C(e:a7):Reg:=xA (wM [(.int .i64 0),(.int .i64 0),(.int .u32 0),(.string ⟨#[]⟩),(.int .i64 0)] []) fun a=>xA (wB (e 0)) fun b=>xA (wJ b) fun c=>xA (wC 77 c) fun d=>xA (wA none d) fun f=>xD fun h5=>xA (wF 5 (e 4) a) fun _=>xE none none (wA none d) f<|xA (wB (.bool false)) fun g=>xA (wB f) fun i=>xC ((e.upd 5 g).upd 6 i)
def d4D(e:a7):Reg:=xA (wB (e 0)) fun a=>xA (wB (e 0)) fun b=>xA (wJ b) fun c=>xA (wC 75 c) fun d=>xA (wA none d) fun f=>xA (wJ a) fun g=>xA (wC 0 g) fun i=>xA (.indexArr 75 1 i f) fun j=>xA (wA none j) fun k=>xA (wB k) fun m=>xC (e.upd 7 m)
def a8o(e:a7)(a b c:Value):Reg:=xA (.indexArr 75 1 c a) fun d=>xD fun h9=>xA (wF 1 d b) fun _=>xC e
def d2S(e:a7):Reg:=xA (wB (e 0)) fun a=>xA (wB (e 0)) fun b=>xA (wJ b) fun c=>xA (wC 75 c) fun d=>xA (wA none d) fun f=>xA (wB (e 1)) fun g=>xA (wJ a) fun i=>xA (wC 0 i) fun j=>a8o e f g j
def a7O(e:a7)(a b c:Value):Reg:=xA (wH 61 [(.int .i64 0),(.int .i64 0),(.int .u32 0),(.string ⟨#[]⟩),(.int .i64 0)]) fun d=>xD fun h24=>xA (wF 5 d a) fun _=>xA (wB b) fun f=>xA (wB c) fun g=>xC (((e.upd 8 d).upd 9 f).upd 10 g)
def a9k(e:a7)(a b:Value):Reg:=xA (wC 76 b) fun c=>xA (wA none c) fun d=>xD fun h18=>xA (wD 71 [a,d]) fun f=>xA (wB f) fun g=>xA (wG g 0) fun i=>xA (wG g 1) fun j=>xA (wG g 2) fun k=>a7O e i j k
def a8D(e:a7)(a b:Value):Reg:=xA (wB (e 0)) fun c=>xA (wJ c) fun d=>xA (wC 75 d) fun f=>xA (wA none f) fun g=>xA (wE .add g (.int .i64 1)) fun i=>xA (.sliceArr3 75 1 a none (some b) i) fun j=>xA (wB (e 0)) fun k=>xA (wJ k) fun m=>a9k e j m
def d4u(e:a7):Reg:=xA (wB (e 0)) fun a=>xA (wJ a) fun b=>xA (wC 0 b) fun c=>xA (wB (e 0)) fun d=>xA (wJ d) fun f=>xA (wC 75 f) fun g=>xA (wA none g) fun i=>xA (wE .add i (.int .i64 1)) fun j=>a8D e c j
def a8w(e:a7)(a b c:Value):Reg:=xA (.indexArr 75 1 c a) fun d=>xD fun h9=>xA (wF 1 d b) fun _=>xC e
def d2l(e:a7):Reg:=xA (wB (e 0)) fun a=>xA (wB (e 0)) fun b=>xA (wJ b) fun c=>xA (wC 75 c) fun d=>xA (wA none d) fun f=>xA (wB (e 7)) fun g=>xA (wJ a) fun i=>xA (wC 0 i) fun j=>a8w e f g j
def d3b(e:a7):Reg:=xA (wA (some 5) (e 8)) fun a=>xA (wB (e 9)) fun b=>xA (wE .gtr b (.int .i64 0)) fun c=>xA (wB (e 10)) fun d=>xA (wF 5 (e 4) a) fun _=>xA (wB c) fun f=>xA (wB d) fun g=>xC ((e.upd 5 f).upd 6 g)
def R52:=an (ro d3w.eq_1)<|an (ro d6K.eq_1)<|an (ro d6C.eq_1)<|an (ro d4D.eq_1)<|an (T4 a8o.eq_1)<|an (ro d2S.eq_1)<|an (T4 a7O.eq_1)<|an (Q7 a9k.eq_1)<|an (Q7 a8D.eq_1)<|an (ro d4u.eq_1)<|an (T4 a8w.eq_1)<|an (ro d2l.eq_1)<|ro d3b.eq_1
def c52:CFn:=⟨(.seq (.region d3w) (.seq (.seq (.region d6K) (.cond (fun e=>e 15) (.seq (.region d6C) .ret) .skip)) (.seq (.region d4D) (.seq (.region d2S) (.seq (.region d4u) (.seq (.region d2l) (.seq (.region d3b) .ret))))))),[.c 4 (some 5),.t 5,.t 6]⟩
def p52:Pers:=⟨11,[15],75,[]⟩
def d6b(e:a7):Reg:=xA (wH 61 [(.int .i64 0),(.int .i64 0),(.int .u32 0),(.string ⟨#[]⟩),(.int .i64 0)]) fun a=>xA (wB (.bool false)) fun b=>xA (wB (.int .i64 0)) fun c=>xC (((e.upd 4 a).upd 5 b).upd 6 c)
def a9f(e:a7)(a b c d:Value):Reg:=xA (wF 5 d a) fun _=>xA (wB b) fun f=>xA (wB c) fun g=>xC (((e.upd 7 d).upd 8 f).upd 9 g)
def d1a(e:a7):Reg:=xA (wB (e 0)) fun a=>xA (wB (e 1)) fun b=>xA (wD 52 [a,b]) fun c=>xA (wB c) fun d=>xA (wG d 0) fun f=>xA (wG d 1) fun g=>xA (wG d 2) fun i=>xA (wH 61 [(.int .i64 0),(.int .i64 0),(.int .u32 0),(.string ⟨#[]⟩),(.int .i64 0)]) fun j=>a9f e f g i j
def d5f(e:a7):Reg:=xA (wB (e 9)) fun a=>xA (wE .neq a (.int .i64 0)) fun b=>xA (wB b) fun c=>xC (e.upd 33 c)
def c7s(e:a7):Reg:=xA (wB (e 0)) fun a=>xA (wB (e 0)) fun b=>xA (wB (e 9)) fun c=>xA (wJ a) fun d=>xA (wC 77 d) fun f=>xA (wF 1 f c) fun _=>xA (wJ b) fun g=>xA (wC 75 g) fun i=>xA (wF 1 i (.int .i64 0)) fun _=>xC e
def d0X(e:a7):Reg:=xA (wB (e 8)) fun a=>xA (wB a) fun b=>xC (e.upd 43 b)
def c7W(e:a7):Reg:=xA (wB (e 0)) fun a=>xA (wJ a) fun b=>xA (wC 75 b) fun c=>xA (wF 1 c (.int .i64 0)) fun _=>xC e
def a7I(e:a7)(a b c:Value):Reg:=xA (.indexArr 75 1 c a) fun d=>xD fun h9=>xA (wF 1 d b) fun _=>xC e
def d5L(e:a7):Reg:=xA (wB (e 0)) fun a=>xA (wB (e 0)) fun b=>xA (wJ b) fun c=>xA (wC 75 c) fun d=>xA (wA none d) fun f=>xA (wB (e 1)) fun g=>xA (wJ a) fun i=>xA (wC 0 i) fun j=>a7I e f g j
def d3N(e:a7):Reg:=xA (wB (e 0)) fun a=>xA (wJ a) fun b=>xA (wC 75 b) fun c=>xA (wA none c) fun d=>xA (wE .add d (.int .i64 1)) fun f=>xA (wJ a) fun g=>xA (wC 75 g) fun i=>xA (wF 1 i f) fun _=>xC e
def d6Q(e:a7):Reg:=xA (wA (some 5) (e 7)) fun a=>xA (wB (e 8)) fun b=>xA (wB (e 9)) fun c=>xA (wF 5 (e 4) a) fun _=>xA (wB b) fun d=>xA (wB c) fun f=>xC ((e.upd 5 d).upd 6 f)
def R53:=an (ro d6b.eq_1)<|an (ro4 a9f.eq_1)<|an (ro d1a.eq_1)<|an (ro d5f.eq_1)<|an (ro c7s.eq_1)<|an (ro d0X.eq_1)<|an (ro c7W.eq_1)<|an (T4 a7I.eq_1)<|an (ro d5L.eq_1)<|an (ro d3N.eq_1)<|ro d6Q.eq_1
def c53:CFn:=⟨(.seq (.region d6b) (.seq (.region d1a) (.seq (.block 0 (.seq (.region d5f) (.cond (fun e=>e 33) (.region c7s) (.seq (.region d0X) (.cond (fun e=>e 43) (.region c7W) (.seq (.region d5L) (.region d3N))))))) (.seq (.region d6Q) .ret)))),[.c 4 (some 5),.t 5,.t 6]⟩
def p53:Pers:=⟨10,[33,43],51,[]⟩
def d0N(e:a7):Reg:=xA (wB (.bool false)) fun a=>xC (e.upd 4 a)
def d3j(e:a7):Reg:=xA (wB (e 0)) fun a=>xA (wE .geq a (.int .i64 1)) fun b=>xA (wB b) fun c=>xB c true (wB (e 0)) fun d=>xB c true (wB (e 1)) fun f=>xB c true (wE .leq d f) fun g=>xA (wK c g (.bool false)) fun i=>xA (wB i) fun j=>xC (e.upd 4 j)
def R54:=an (ro d0N.eq_1)<|ro d3j.eq_1
def c54:CFn:=⟨(.seq (.region d0N) (.seq (.region d3j) .ret)),[.t 4]⟩
def p54:Pers:=⟨5,[],12,[]⟩
def d6T(e:a7):Reg:=xA (wN 34 (e 0)) fun a=>xA (wB (.bool false)) fun b=>xC ((e.upd 1 a).upd 2 b)
def d4P(e:a7):Reg:=xA (wA (some 9) (e 1)) fun a=>xA (wM [(.int .i64 0),(.int .i64 0),(.int .i64 0),(.int .i64 0),(.int .i64 0),(.int .i64 0),(.int .i64 0),(.int .i64 0),(.bool false)] []) fun b=>xA (.eqAgg false [.int,.int,.int,.int,.int,.int,.int,.int,.bool] a b) fun c=>xC (e.upd 7 c)
def d3Y(e:a7):Reg:=xA (wB (.bool false)) fun a=>xC (e.upd 2 a)
def a8V(e:a7)(a:Value):Reg:=xA (wB a) fun b=>xB b false (wC 1 (e 1)) fun c=>xB b false (wA none c) fun d=>xB b false (wC 3 (e 1)) fun f=>xB b false (wA none f) fun g=>xB b false (wE .rem d g) fun i=>xB b false (wE .neq i (.int .i64 0)) fun j=>xA (wK b (.bool true) j) fun k=>xC (e.upd 39 k)
def a8l(e:a7)(a b:Value):Reg:=xB a false (wP .not b) fun c=>xA (wK a (.bool true) c) fun d=>xA (wB d) fun f=>xB f false (wC 3 (e 1)) fun g=>xB f false (wA none g) fun i=>xB f false (wD 54 [i,(.int .i64 64)]) fun j=>xB f false (wP .not j) fun k=>xA (wK f (.bool true) k) fun m=>a8V e m
def a9s(e:a7)(a b:Value):Reg:=xB a false (wP .not b) fun c=>xA (wK a (.bool true) c) fun d=>xA (wB d) fun f=>xB f false (wC 2 (e 1)) fun g=>xB f false (wA none g) fun i=>xB f false (wC 0 (e 1)) fun j=>xB f false (wA none j) fun k=>xB f false (wD 54 [i,k]) fun m=>a8l e f m
def c9T(e:a7):Reg:=xA (wC 0 (e 1)) fun a=>xA (wA none a) fun b=>xA (wD 54 [b,(.int .i64 2147483648)]) fun c=>xA (wP .not c) fun d=>xA (wB d) fun f=>xB f false (wC 1 (e 1)) fun g=>xB f false (wA none g) fun i=>xB f false (wD 54 [i,(.int .i64 1099511627776)]) fun j=>a9s e f j
def d7B(e:a7):Reg:=xA (wB (.bool false)) fun a=>xC (e.upd 2 a)
def a7D(e:a7)(a b:Value):Reg:=xB a false (wA none b) fun c=>xB a false (wB c) fun d=>xB d true (wC 3 (e 1)) fun f=>xB d true (wA none f) fun g=>xB d true (wE .lss g (.int .i64 2)) fun i=>xB a false (wK d i (.bool false)) fun j=>xA (wK a (.bool true) j) fun k=>xC (e.upd 70 k)
def a9C(e:a7)(a:Value):Reg:=xA (wB a) fun b=>xB b false (wC 7 (e 1)) fun c=>xB b false (wA none c) fun d=>xB b false (wD 54 [d,(.int .i64 64)]) fun f=>xB b false (wP .not f) fun g=>xA (wK b (.bool true) g) fun i=>xA (wB i) fun j=>xB j false (wC 8 (e 1)) fun k=>a7D e j k
def a7H(e:a7)(a b:Value):Reg:=xB a false (wP .not b) fun c=>xA (wK a (.bool true) c) fun d=>xA (wB d) fun f=>xB f false (wC 6 (e 1)) fun g=>xB f false (wA none g) fun i=>xB f false (wD 54 [i,(.int .i64 4096)]) fun j=>xB f false (wP .not j) fun k=>xA (wK f (.bool true) k) fun m=>a9C e m
def d4U(e:a7):Reg:=xA (wC 4 (e 1)) fun a=>xA (wA none a) fun b=>xA (wD 54 [b,(.int .i64 1024)]) fun c=>xA (wP .not c) fun d=>xA (wB d) fun f=>xB f false (wC 5 (e 1)) fun g=>xB f false (wA none g) fun i=>xB f false (wD 54 [i,(.int .i64 8)]) fun j=>a7H e f j
def d4W(e:a7):Reg:=xA (wB (.bool false)) fun a=>xC (e.upd 2 a)
def a8y(e:a7)(a:Value):Reg:=xA (wG a 0) fun b=>xA (wG a 1) fun c=>xA (wB b) fun d=>xA (wB c) fun f=>xC ((e.upd 3 d).upd 4 f)
def a9g(e:a7)(a b c d f:Value):Reg:=xA (wA none f) fun g=>xA (wE .sub d g) fun i=>xD fun h10=>xA (wD 73 [c,i]) fun j=>xE none none (wA none a) b<|xD fun h11=>xA (wD 72 [b,j]) fun k=>xA (wB k) fun m=>a8y e m
def d5g(e:a7):Reg:=xA (wC 2 (e 1)) fun a=>xA (wA none a) fun b=>xA (wC 1 (e 1)) fun c=>xA (wA none c) fun d=>xA (wC 0 (e 1)) fun f=>xA (wA none f) fun g=>xA (wE .add g (.int .i64 1)) fun i=>xA (wC 2 (e 1)) fun j=>a9g e a b d i j
def d4A(e:a7):Reg:=xA (wB (e 4)) fun a=>xA (wB a) fun b=>xB b true (wB (e 3)) fun c=>xB b true (wE .leq c (.int .i64 1152921504606846976)) fun d=>xA (wK b d (.bool false)) fun f=>xA (wB f) fun g=>xC (e.upd 2 g)
def R55:=an (ro d6T.eq_1)<|an (ro d4P.eq_1)<|an (ro d3Y.eq_1)<|an (ro1 a8V.eq_1)<|an (Q7 a8l.eq_1)<|an (Q7 a9s.eq_1)<|an (ro c9T.eq_1)<|an (ro d7B.eq_1)<|an (Q7 a7D.eq_1)<|an (ro1 a9C.eq_1)<|an (Q7 a7H.eq_1)<|an (ro d4U.eq_1)<|an (ro d4W.eq_1)<|an (ro1 a8y.eq_1)<|an (ro5 a9g.eq_1)<|an (ro d5g.eq_1)<|ro d4A.eq_1
def c55:CFn:=⟨(.seq (.region d6T) (.seq (.seq (.region d4P) (.cond (fun e=>e 7) (.seq (.region d3Y) .ret) .skip)) (.seq (.seq (.region c9T) (.cond (fun e=>e 39) (.seq (.region d7B) .ret) .skip)) (.seq (.seq (.region d4U) (.cond (fun e=>e 70) (.seq (.region d4W) .ret) .skip)) (.seq (.region d5g) (.seq (.region d4A) .ret)))))),[.t 2]⟩
def p55:Pers:=⟨5,[7,39,70],91,[]⟩
def d2p(e:a7):Reg:=xA (wN 30 (e 0)) fun a=>xA (wB (.int .i64 0)) fun b=>xC ((e.upd 1 a).upd 2 b)
def d3q(e:a7):Reg:=xA (wB (.int .i64 6)) fun a=>xC (e.upd 3 a)
def d2A(e:a7):Reg:=xA (wC 3 (e 1)) fun a=>xA (wA none a) fun b=>xA (wL b) fun c=>xA (wB (.int .i64 0)) fun d=>xC (((e.upd 9 b).upd 10 c).upd 11 d)
def d2G(e:a7):Reg:=xA (wE .lss (e 11) (e 10)) fun a=>xC (e.upd 12 a)
def c7U(e:a7):Reg:=xA (wI 9 (e 9) (e 11)) fun a=>xA (wA (some 9) a) fun b=>xA (wH 34 [(.int .i64 0),(.int .i64 0),(.int .i64 0),(.int .i64 0),(.int .i64 0),(.int .i64 0),(.int .i64 0),(.int .i64 0),(.bool false)]) fun c=>xA (wF 9 c b) fun _=>xC (e.upd 5 c)
def c9b(e:a7):Reg:=xA (wM [(.int .i64 0),(.int .i64 0),(.int .i64 0)] [(0,1,(.int .i64 1)),(1,1,(.int .i64 3)),(2,1,(.int .i64 4))]) fun a=>xA (wB (.int .i64 0)) fun b=>xC ((e.upd 15 a).upd 16 b)
def d5T(e:a7):Reg:=xA (wE .lss (e 16) (.int .i64 3)) fun a=>xC (e.upd 17 a)
def d3C(e:a7):Reg:=xA (.indexAgg 3 1 none (e 15) (e 16)) fun a=>xA (wB a) fun b=>xC (e.upd 7 b)
def c8p(e:a7):Reg:=xA (wB (e 3)) fun a=>xA (wB (e 7)) fun b=>xA (wC 7 (e 5)) fun c=>xA (wA none c) fun d=>xA (wM [(.int .i64 0),(.int .i64 0),(.int .u32 0),(.string ⟨#[]⟩),(.int .i64 0)] [(0,1,b),(4,1,d)]) fun f=>xA (wC 7 (e 5)) fun g=>xA (wA none g) fun i=>xA (wD 74 [f,i]) fun j=>xA (.minmax true [a,j]) fun k=>xA (wB k) fun m=>xC (e.upd 3 m)
def d1v(e:a7):Reg:=xA (wE .add (e 16) (.int .i64 1)) fun a=>xA (wB a) fun b=>xC (e.upd 16 b)
def c9Q:CC:=(.seq (.region d5T) (.seq (.cond (fun e=>e 17) .skip (.exit 2)) (.seq (.block 3 (.seq (.region d3C) (.region c8p))) (.region d1v))))
def c0N(e:a7):Reg:=xA (wE .add (e 11) (.int .i64 1)) fun a=>xA (wB a) fun b=>xC (e.upd 11 b)
def a9I:CC:=(.seq (.region d2G) (.seq (.cond (fun e=>e 12) .skip (.exit 0)) (.seq (.block 1 (.seq (.region c7U) (.seq (.region c9b) (.block 2 (.loop c9Q))))) (.region c0N))))
def b6P(e:a7):Reg:=xA (wB (e 3)) fun a=>xA (wB a) fun b=>xC (e.upd 2 b)
def R56:=an (ro d2p.eq_1)<|an (ro d3q.eq_1)<|an (ro d2A.eq_1)<|an (ro d2G.eq_1)<|an (ro c7U.eq_1)<|an (ro c9b.eq_1)<|an (ro d5T.eq_1)<|an (ro d3C.eq_1)<|an (ro c8p.eq_1)<|an (ro d1v.eq_1)<|an (ro c0N.eq_1)<|ro b6P.eq_1
def c56:CFn:=⟨(.seq (.region d2p) (.seq (.region d3q) (.seq (.seq (.region d2A) (.block 0 (.loop a9I))) (.seq (.region b6P) .ret)))),[.t 2]⟩
def p56:Pers:=⟨8,[9,10,11,12,15,16,17],31,[]⟩
def d4o(e:a7):Reg:=xA (wN 30 (e 0)) fun a=>xA (wB (.int .i64 0)) fun b=>xC ((e.upd 1 a).upd 2 b)
def c9j(e:a7):Reg:=xA (wC 1 (e 1)) fun a=>xA (wA none a) fun b=>xA (wC 2 (e 1)) fun c=>xA (wA none c) fun d=>xD fun h4=>xA (wD 75 [d]) fun f=>xE none none (wA none a) b<|xA (wE .mul b f) fun g=>xA (wB g) fun i=>xC (e.upd 3 i)
def d7o(e:a7):Reg:=xA (wC 3 (e 1)) fun a=>xA (wA none a) fun b=>xA (wL b) fun c=>xA (wB (.int .i64 0)) fun d=>xC (((e.upd 13 b).upd 14 c).upd 15 d)
def d6p(e:a7):Reg:=xA (wE .lss (e 15) (e 14)) fun a=>xC (e.upd 16 a)
def d6P(e:a7):Reg:=xA (wI 9 (e 13) (e 15)) fun a=>xA (wA (some 9) a) fun b=>xA (wH 34 [(.int .i64 0),(.int .i64 0),(.int .i64 0),(.int .i64 0),(.int .i64 0),(.int .i64 0),(.int .i64 0),(.int .i64 0),(.bool false)]) fun c=>xA (wF 9 c b) fun _=>xC (e.upd 5 c)
def d0Z(e:a7):Reg:=xA (wB (e 3)) fun a=>xA (wA (some 9) (e 5)) fun b=>xA (wD 76 [b]) fun c=>xA (wE .add a c) fun d=>xA (wB d) fun f=>xC (e.upd 3 f)
def d1N(e:a7):Reg:=xA (wE .add (e 15) (.int .i64 1)) fun a=>xA (wB a) fun b=>xC (e.upd 15 b)
def b0g:CC:=(.seq (.region d6p) (.seq (.cond (fun e=>e 16) .skip (.exit 0)) (.seq (.block 1 (.seq (.region d6P) (.region d0Z))) (.region d1N))))
def d2e(e:a7):Reg:=xA (wB (e 3)) fun a=>xA (wB a) fun b=>xC (e.upd 2 b)
def R57:=an (ro d4o.eq_1)<|an (ro c9j.eq_1)<|an (ro d7o.eq_1)<|an (ro d6p.eq_1)<|an (ro d6P.eq_1)<|an (ro d0Z.eq_1)<|an (ro d1N.eq_1)<|ro d2e.eq_1
def c57:CFn:=⟨(.seq (.region d4o) (.seq (.region c9j) (.seq (.seq (.region d7o) (.block 0 (.loop b0g))) (.seq (.region d2e) .ret)))),[.t 2]⟩
def p57:Pers:=⟨6,[13,14,15,16],25,[]⟩
def c9P(e:a7):Reg:=xA (wB (.pointer none)) fun a=>xC (e.upd 4 a)
def d5t(e:a7):Reg:=xA (wB (e 1)) fun a=>xA (wD 77 [a]) fun b=>xA (wB b) fun c=>xC (e.upd 5 c)
def c9F(e:a7):Reg:=xA (wB (e 5)) fun a=>xA (.eqK .ptr false a (.pointer none)) fun b=>xC (e.upd 9 b)
def d3o(e:a7):Reg:=xA (wB (.pointer none)) fun a=>xC (e.upd 4 a)
def d0w(e:a7):Reg:=xA (wB (e 5)) fun a=>xA (wB (e 0)) fun b=>xA (wM [(.int .u8 0),(.int .u8 0),(.int .u8 0),(.int .u8 0),(.int .u8 0),(.int .u8 0),(.int .u8 0),(.int .u8 0),(.int .u8 0),(.int .u8 0),(.int .u8 0),(.int .u8 0),(.int .u8 0),(.int .u8 0),(.int .u8 0),(.int .u8 0),(.int .u8 0),(.int .u8 0),(.int .u8 0),(.int .u8 0),(.int .u8 0),(.int .u8 0),(.int .u8 0),(.int .u8 0),(.int .u8 0),(.int .u8 0),(.int .u8 0),(.int .u8 0),(.int .u8 0),(.int .u8 0),(.int .u8 0),(.int .u8 0),(.int .u8 0),(.int .u8 0),(.int .u8 0),(.int .u8 0),(.int .u8 0),(.int .u8 0),(.int .u8 0),(.int .u8 0),(.int .u8 0),(.int .u8 0),(.int .u8 0),(.int .u8 0),(.int .u8 0),(.int .u8 0),(.int .u8 0),(.int .u8 0),(.int .u8 0),(.int .u8 0),(.int .u8 0),(.int .u8 0),(.int .u8 0),(.int .u8 0),(.int .u8 0),(.int .u8 0),(.int .u8 0),(.int .u8 0),(.int .u8 0),(.int .u8 0),(.int .u8 0),(.int .u8 0),(.int .u8 0),(.int .u8 0),(.int .u8 0),(.int .u8 0),(.int .u8 0),(.int .u8 0),(.int .u8 0),(.int .u8 0),(.int .u8 0),(.int .u8 0),(.int .u8 0),(.int .u8 0),(.int .u8 0),(.int .i64 0),(.int .i64 0),(.int .i64 0),(.pointer none),(.int .i64 0),(.bool false)] [(78,1,a),(79,1,b)]) fun c=>xA (wN 149 c) fun d=>xA (wB d) fun f=>xC (e.upd 4 f)
def R58:=an (ro c9P.eq_1)<|an (ro d5t.eq_1)<|an (ro c9F.eq_1)<|an (ro d3o.eq_1)<|ro d0w.eq_1
def c58:CFn:=⟨(.seq (.region c9P) (.seq (.region d5t) (.seq (.seq (.region c9F) (.cond (fun e=>e 9) (.seq (.region d3o) .ret) .skip)) (.seq (.region d0w) .ret)))),[.t 4]⟩
def p58:Pers:=⟨6,[9],14,[]⟩
def d0o(e:a7):Reg:=xA (wN 34 (e 0)) fun a=>xA (wB (.pointer none)) fun b=>xC ((e.upd 2 a).upd 4 b)
def c8P(e:a7):Reg:=xA (wB (e 1)) fun a=>xA (wC 5 (e 2)) fun b=>xA (wA none b) fun c=>xA (wE .add c (.int .i64 1)) fun d=>xA (wD 78 [a,d]) fun f=>xA (wB f) fun g=>xC (e.upd 5 g)
def c7I(e:a7):Reg:=xA (wB (e 5)) fun a=>xA (wB (e 5)) fun b=>xA (wL b) fun c=>xA (wE .sub c (.int .i64 1)) fun d=>xA (wI 3 a d) fun f=>xA (wA (some 3) f) fun g=>xA (wH 182 [(.int .u64 0),(.int .u64 0),(.int .u64 0)]) fun i=>xA (wF 3 i g) fun _=>xC (e.upd 6 i)
def a8E(e:a7)(a:Value)(h2:Heap)(b:Value)(h6:Heap)(c:Value)(h12:Heap)(d f:Value):Reg:=xA (wA (some 3) (e 6)) fun g=>xE none (some h12) (wA (some 3) (e 6)) g<|xE none (some h6) (wA (some 3) (e 6)) g<|xE none (some h2) (wA (some 3) (e 6)) g<|xD fun h16=>xA (wD 82 [f,g]) fun i=>xE none none (wA (some 9) (e 2)) a<|xA (wM [(.int .i64 0),(.int .i64 0),(.int .i64 0),(.int .i64 0),(.int .i64 0),(.int .i64 0),(.int .i64 0),(.int .i64 0),(.bool false),(.int .i64 0),(.int .i64 0),(.int .i64 0),(.int .i64 0),(.pointer none),(.pointer none),(.pointer none),(.int .i64 0),(.int .i64 0),(.int .i64 0),(.int .i64 0),(.int .i64 0)] [(0,9,a),(9,4,b),(13,1,c),(14,1,d),(15,1,i)]) fun j=>xA (wN 131 j) fun k=>xA (wB k) fun m=>xC (e.upd 4 m)
def a9w(e:a7)(a:Value)(h2:Heap)(b:Value)(h6:Heap)(c d f:Value):Reg:=xD fun h12=>xA (wD 81 [d,f]) fun g=>xE none none (wA (some 9) (e 2)) a<|xA (wC 7 (e 2)) fun i=>xA (wA none i) fun j=>xE none (some h12) (wA none i) j<|xE none (some h6) (wA none i) j<|xE none (some h2) (wA none i) j<|a8E e a h2 b h6 c h12 g j
def a8O(e:a7)(a:Value)(h2:Heap)(b:Value)(h6:Heap)(c d:Value):Reg:=xA (wB (e 5)) fun f=>xA (wC 5 (e 2)) fun g=>xA (wA none g) fun i=>xE none (some h6) (wA none g) i<|xE none (some h2) (wA none g) i<|xA (.slice 182 3 f none (some i)) fun j=>xE none (some h6) (.slice 182 3 f none (some i)) j<|xE none (some h2) (.slice 182 3 f none (some i)) j<|a9w e a h2 b h6 c d j
def a8H(e:a7)(a:Value)(h2:Heap)(b c:Value):Reg:=xA (wA (some 3) (e 6)) fun d=>xE none (some h2) (wA (some 3) (e 6)) d<|xD fun h6=>xA (wD 80 [c,d]) fun f=>xE none none (wA (some 9) (e 2)) a<|xA (wA (some 9) (e 2)) fun g=>xE none (some h6) (wA (some 9) (e 2)) g<|xE none (some h2) (wA (some 9) (e 2)) g<|a8O e a h2 b h6 f g
def c8L(e:a7):Reg:=xA (wA (some 9) (e 2)) fun a=>xA (wA (some 9) (e 2)) fun b=>xD fun h2=>xA (wD 79 [b]) fun c=>xE none none (wA (some 9) (e 2)) a<|xA (wC 4 (e 2)) fun d=>xA (wA none d) fun f=>xE none (some h2) (wA none d) f<|a8H e a h2 c f
def R59:=an (ro d0o.eq_1)<|an (ro c8P.eq_1)<|an (ro c7I.eq_1)<|an (ro8 a8E.eq_1)<|an (ro7 a9w.eq_1)<|an (ro6 a8O.eq_1)<|an (ro4 a8H.eq_1)<|ro c8L.eq_1
def c59:CFn:=⟨(.seq (.region d0o) (.seq (.region c8P) (.seq (.region c7I) (.seq (.region c8L) .ret)))),[.t 4]⟩
def p59:Pers:=⟨7,[],37,[]⟩
def d6t(e:a7):Reg:=xA (wB (.slice none 0 0)) fun a=>xC (e.upd 6 a)
def c8v(e:a7):Reg:=xA (wB (e 2)) fun a=>xA (.makeSlice 78 1 8 [(.int .u64 0)] a a) fun b=>xA (wB b) fun c=>xC (e.upd 7 c)
def d1I(e:a7):Reg:=xA (wB (e 7)) fun a=>xA (wL a) fun b=>xA (wB (.int .i64 0)) fun c=>xC ((e.upd 12 b).upd 13 c)
def d3H(e:a7):Reg:=xA (wE .lss (e 13) (e 12)) fun a=>xC (e.upd 14 a)
def d2d(e:a7):Reg:=xA (wB (e 13)) fun a=>xA (wB a) fun b=>xC (e.upd 8 b)
def d2v(e:a7):Reg:=xA (wB (e 0)) fun a=>xA (wL a) fun b=>xA (wE .gtr b (.int .i64 0)) fun c=>xC (e.upd 18 c)
def a9b(e:a7)(a b c d:Value):Reg:=xA (wO .u64 d) fun f=>xA (wE .mul f (.int .u64 11400714819323198485)) fun g=>xA (wE .xor c g) fun i=>xA (wI 1 a b) fun j=>xA (wF 1 j i) fun _=>xC e
def a8F(e:a7)(a b c d f:Value):Reg:=xA (wE .rem d f) fun g=>xA (wI 1 c g) fun i=>xA (wA none i) fun j=>xA (wB (e 1)) fun k=>xA (wO .u64 k) fun m=>xA (wE .shl m (.int .u64 56)) fun n=>xA (wE .xor j n) fun o=>xA (wB (e 8)) fun p=>a9b e a b o p
def d6W(e:a7):Reg:=xA (wB (e 7)) fun a=>xA (wB (e 8)) fun b=>xA (wB (e 0)) fun c=>xA (wB (e 1)) fun d=>xA (wB (e 8)) fun f=>xA (wE .add d f) fun g=>xA (wB (e 0)) fun i=>xA (wL i) fun j=>a8F e a b c g j
def d1t(e:a7):Reg:=xA (wE .add (e 13) (.int .i64 1)) fun a=>xA (wB a) fun b=>xC (e.upd 13 b)
def a5E:CC:=(.seq (.region d3H) (.seq (.cond (fun e=>e 14) .skip (.exit 0)) (.seq (.block 1 (.seq (.region d2d) (.seq (.region d2v) (.cond (fun e=>e 18) (.region d6W) .skip)))) (.region d1t))))
def d3u(e:a7):Reg:=xA (wB (e 7)) fun a=>xA (wB a) fun b=>xC (e.upd 6 b)
def R60:=an (ro d6t.eq_1)<|an (ro c8v.eq_1)<|an (ro d1I.eq_1)<|an (ro d3H.eq_1)<|an (ro d2d.eq_1)<|an (ro d2v.eq_1)<|an (ro4 a9b.eq_1)<|an (ro5 a8F.eq_1)<|an (ro d6W.eq_1)<|an (ro d1t.eq_1)<|ro d3u.eq_1
def c60:CFn:=⟨(.seq (.region d6t) (.seq (.region c8v) (.seq (.seq (.region d1I) (.block 0 (.loop a5E))) (.seq (.region d3u) .ret)))),[.t 6]⟩
def p60:Pers:=⟨9,[12,13,14,18],41,[]⟩
def d3Z(e:a7):Reg:=xA (wB (e 0)) fun a=>xA (.eqK .ptr true a (.pointer none)) fun b=>xC (e.upd 3 b)
def d0W(e:a7):Reg:=xA (wB (e 0)) fun a=>xA (wB (e 0)) fun b=>xA (wJ a) fun c=>xA (wC 1 c) fun d=>xA (wF 1 d (.int .i64 0)) fun _=>xA (wJ b) fun f=>xA (wC 2 f) fun g=>xA (wF 1 g (.int .i64 0)) fun _=>xC e
def R61:=an (ro d3Z.eq_1)<|ro d0W.eq_1
def c61:CFn:=⟨(.seq (.region d3Z) (.cond (fun e=>e 3) (.region d0W) .skip)),[]⟩
def p61:Pers:=⟨2,[3],10,[]⟩
def d3K(e:a7):Reg:=xA (wB (.int .i64 0)) fun a=>xC (e.upd 2 a)
def d1u(e:a7):Reg:=xA (wB (e 0)) fun a=>xA (wJ a) fun b=>xA (wC 77 b) fun c=>xA (wA none c) fun d=>xA (wB d) fun f=>xC (e.upd 2 f)
def R62:=an (ro d3K.eq_1)<|ro d1u.eq_1
def c62:CFn:=⟨(.seq (.region d3K) (.seq (.region d1u) .ret)),[.t 2]⟩
def p62:Pers:=⟨3,[],7,[]⟩
def d5W(e:a7):Reg:=xA (wB (.int .i64 0)) fun a=>xC (e.upd 2 a)
def d4Q(e:a7):Reg:=xA (wB (e 0)) fun a=>xA (.eqK .ptr false a (.pointer none)) fun b=>xC (e.upd 4 b)
def d0E(e:a7):Reg:=xA (wB (.int .i64 0)) fun a=>xC (e.upd 2 a)
def a9e(e:a7)(a b:Value):Reg:=xA (wA none b) fun c=>xA (wE .sub a c) fun d=>xA (wB d) fun f=>xC (e.upd 2 f)
def c8z(e:a7):Reg:=xA (wB (e 0)) fun a=>xA (wJ a) fun b=>xA (wC 0 b) fun c=>xA (wA none c) fun d=>xA (wL d) fun f=>xA (wB (e 0)) fun g=>xA (wJ g) fun i=>xA (wC 2 i) fun j=>a9e e f j
def R63:=an (ro d5W.eq_1)<|an (ro d4Q.eq_1)<|an (ro d0E.eq_1)<|an (Q7 a9e.eq_1)<|ro c8z.eq_1
def c63:CFn:=⟨(.seq (.region d5W) (.seq (.seq (.region d4Q) (.cond (fun e=>e 4) (.seq (.region d0E) .ret) .skip)) (.seq (.region c8z) .ret))),[.t 2]⟩
def p63:Pers:=⟨3,[4],15,[]⟩
def d3x(e:a7):Reg:=xA (wB (.bool false)) fun a=>xC (e.upd 4 a)
def c7X(e:a7):Reg:=xA (wB (e 1)) fun a=>xA (wL a) fun b=>xA (wB (e 0)) fun c=>xA (wD 63 [c]) fun d=>xA (wE .gtr b d) fun f=>xC (e.upd 11 f)
def d3X(e:a7):Reg:=xA (wB (.bool false)) fun a=>xC (e.upd 4 a)
def d6Y(e:a7):Reg:=xA (wB (e 1)) fun a=>xA (wL a) fun b=>xA (wB (.int .i64 0)) fun c=>xC (((e.upd 12 a).upd 13 b).upd 14 c)
def c7D(e:a7):Reg:=xA (wE .lss (e 14) (e 13)) fun a=>xC (e.upd 15 a)
def d2E(e:a7):Reg:=xA (wI 1 (e 12) (e 14)) fun a=>xA (wA none a) fun b=>xA (wB b) fun c=>xC (e.upd 6 c)
def a8f(e:a7)(a b c:Value):Reg:=xA (wA none c) fun d=>xA (wL d) fun f=>xA (wE .rem b f) fun g=>xA (wB (e 6)) fun i=>xA (wI 1 a g) fun j=>xD fun h21=>xA (wF 1 j i) fun _=>xC e
def a8d(e:a7)(a b:Value):Reg:=xA (wB (e 0)) fun c=>xA (wJ c) fun d=>xA (wC 2 d) fun f=>xA (wA none f) fun g=>xA (wE .add b g) fun i=>xA (wB (e 0)) fun j=>xA (wJ j) fun k=>xA (wC 0 k) fun m=>a8f e a i m
def d6s(e:a7):Reg:=xA (wB (e 0)) fun a=>xA (wJ a) fun b=>xA (wC 0 b) fun c=>xA (wA none c) fun d=>xA (wB (e 0)) fun f=>xA (wJ f) fun g=>xA (wC 1 g) fun i=>xA (wA none i) fun j=>a8d e d j
def d0p(e:a7):Reg:=xA (wB (e 0)) fun a=>xA (wJ a) fun b=>xA (wC 2 b) fun c=>xA (wA none c) fun d=>xA (wE .add d (.int .i64 1)) fun f=>xA (wJ a) fun g=>xA (wC 2 g) fun i=>xA (wF 1 i f) fun _=>xC e
def d5K(e:a7):Reg:=xA (wE .add (e 14) (.int .i64 1)) fun a=>xA (wB a) fun b=>xC (e.upd 14 b)
def a9W:CC:=(.seq (.region c7D) (.seq (.cond (fun e=>e 15) .skip (.exit 0)) (.seq (.block 1 (.seq (.region d2E) (.seq (.region d6s) (.region d0p)))) (.region d5K))))
def c9E(e:a7):Reg:=xA (wB (.bool true)) fun a=>xC (e.upd 4 a)
def R64:=an (ro d3x.eq_1)<|an (ro c7X.eq_1)<|an (ro d3X.eq_1)<|an (ro d6Y.eq_1)<|an (ro c7D.eq_1)<|an (ro d2E.eq_1)<|an (T4 a8f.eq_1)<|an (Q7 a8d.eq_1)<|an (ro d6s.eq_1)<|an (ro d0p.eq_1)<|an (ro d5K.eq_1)<|ro c9E.eq_1
def c64:CFn:=⟨(.seq (.region d3x) (.seq (.seq (.region c7X) (.cond (fun e=>e 11) (.seq (.region d3X) .ret) .skip)) (.seq (.seq (.region d6Y) (.block 0 (.loop a9W))) (.seq (.region c9E) .ret)))),[.t 4]⟩
def p64:Pers:=⟨7,[11,12,13,14,15],47,[]⟩
def d4V(e:a7):Reg:=xA (wB (.slice none 0 0)) fun a=>xC (e.upd 2 a)
def c9X(e:a7):Reg:=xA (wB (e 0)) fun a=>xA (wO .u8 a) fun b=>xA (.buildSlice 5 2 [(.int .u8 0)] [(0,1,(.int .u8 255)),(1,1,b)]) fun c=>xA (wD 45 [(.int .u8 168),c]) fun d=>xA (wB d) fun f=>xC (e.upd 2 f)
def R65:=an (ro d4V.eq_1)<|ro c9X.eq_1
def c65:CFn:=⟨(.seq (.region d4V) (.seq (.region c9X) .ret)),[.t 2]⟩
def p65:Pers:=⟨3,[],7,[]⟩
def d4v(e:a7):Reg:=xA (wB (.slice none 0 0)) fun a=>xC (e.upd 4 a)
def d2i(e:a7):Reg:=xA (wB (.slice none 0 0)) fun a=>xC (e.upd 5 a)
def c8U(e:a7):Reg:=xA (wB (e 1)) fun a=>xA (.minmax true [a,(.int .i64 0)]) fun b=>xA (wB (e 0)) fun c=>xA (wD 83 [c]) fun d=>xA (.minmax false [b,d]) fun f=>xA (wB (.int .i64 0)) fun g=>xC ((e.upd 10 f).upd 11 g)
def c7t(e:a7):Reg:=xA (wE .lss (e 11) (e 10)) fun a=>xC (e.upd 12 a)
def a9l(e:a7)(a b c:Value):Reg:=xA (wA none c) fun d=>xA (wI 1 b d) fun f=>xA (wA none f) fun g=>xA (.buildSlice 5 1 [(.int .u8 0)] [(0,1,g)]) fun i=>xD fun h12=>xA (.append 5 1 1 a i) fun j=>xA (wB j) fun k=>xC (e.upd 5 k)
def d1g(e:a7):Reg:=xA (wB (e 5)) fun a=>xA (wB (e 0)) fun b=>xA (wJ b) fun c=>xA (wC 0 c) fun d=>xA (wA none d) fun f=>xA (wB (e 0)) fun g=>xA (wJ g) fun i=>xA (wC 1 i) fun j=>a9l e a f j
def a8R(e:a7)(a b c:Value):Reg:=xA (wC 0 c) fun d=>xA (wA none d) fun f=>xA (wL f) fun g=>xA (wE .rem b g) fun i=>xA (wJ a) fun j=>xA (wC 1 j) fun k=>xD fun h14=>xA (wF 1 k i) fun _=>xC e
def c8V(e:a7):Reg:=xA (wB (e 0)) fun a=>xA (wB (e 0)) fun b=>xA (wJ b) fun c=>xA (wC 1 c) fun d=>xA (wA none d) fun f=>xA (wE .add f (.int .i64 1)) fun g=>xA (wB (e 0)) fun i=>xA (wJ i) fun j=>a8R e a g j
def d6i(e:a7):Reg:=xA (wB (e 0)) fun a=>xA (wJ a) fun b=>xA (wC 2 b) fun c=>xA (wA none c) fun d=>xA (wE .sub d (.int .i64 1)) fun f=>xA (wJ a) fun g=>xA (wC 2 g) fun i=>xA (wF 1 i f) fun _=>xC e
def d0e(e:a7):Reg:=xA (wE .add (e 11) (.int .i64 1)) fun a=>xA (wB a) fun b=>xC (e.upd 11 b)
def b0h:CC:=(.seq (.region c7t) (.seq (.cond (fun e=>e 12) .skip (.exit 0)) (.seq (.block 1 (.seq (.region d1g) (.seq (.region c8V) (.region d6i)))) (.region d0e))))
def c9O(e:a7):Reg:=xA (wB (e 5)) fun a=>xA (wB a) fun b=>xC (e.upd 4 b)
def R66:=an (ro d4v.eq_1)<|an (ro d2i.eq_1)<|an (ro c8U.eq_1)<|an (ro c7t.eq_1)<|an (T4 a9l.eq_1)<|an (ro d1g.eq_1)<|an (T4 a8R.eq_1)<|an (ro c8V.eq_1)<|an (ro d6i.eq_1)<|an (ro d0e.eq_1)<|ro c9O.eq_1
def c66:CFn:=⟨(.seq (.region d4v) (.seq (.region d2i) (.seq (.seq (.region c8U) (.block 0 (.loop b0h))) (.seq (.region c9O) .ret)))),[.t 4]⟩
def p66:Pers:=⟨6,[10,11,12],49,[]⟩
def c8D(e:a7):Reg:=xA (wB (.int .i64 0)) fun a=>xC (e.upd 2 a)
def d3y(e:a7):Reg:=xA (wB (e 0)) fun a=>xA (.eqK .ptr false a (.pointer none)) fun b=>xC (e.upd 4 b)
def d5F(e:a7):Reg:=xA (wB (.int .i64 0)) fun a=>xC (e.upd 2 a)
def d5m(e:a7):Reg:=xA (wB (e 0)) fun a=>xA (wJ a) fun b=>xA (wC 4 b) fun c=>xA (wA none c) fun d=>xA (wB d) fun f=>xC (e.upd 2 f)
def R70:=an (ro c8D.eq_1)<|an (ro d3y.eq_1)<|an (ro d5F.eq_1)<|ro d5m.eq_1
def c70:CFn:=⟨(.seq (.region c8D) (.seq (.seq (.region d3y) (.cond (fun e=>e 4) (.seq (.region d5F) .ret) .skip)) (.seq (.region d5m) .ret))),[.t 2]⟩
def p70:Pers:=⟨3,[4],9,[]⟩
def d5X(e:a7):Reg:=xA (wH 61 [(.int .i64 0),(.int .i64 0),(.int .u32 0),(.string ⟨#[]⟩),(.int .i64 0)]) fun a=>xA (wB (.int .i64 0)) fun b=>xA (wB (.int .i64 0)) fun c=>xC (((e.upd 4 a).upd 5 b).upd 6 c)
def d2Z(e:a7):Reg:=xA (wB (e 0)) fun a=>xA (wB (e 1)) fun b=>xA (wD 84 [a,b]) fun c=>xA (wB c) fun d=>xC (e.upd 7 d)
def c9A(e:a7):Reg:=xA (wB (e 7)) fun a=>xA (wE .neq a (.int .i64 0)) fun b=>xC (e.upd 14 b)
def d1K(e:a7):Reg:=xA (wM [(.int .i64 0),(.int .i64 0),(.int .u32 0),(.string ⟨#[]⟩),(.int .i64 0)] []) fun a=>xA (wB (e 7)) fun b=>xA (wF 5 (e 4) a) fun _=>xA (wB (.int .i64 0)) fun c=>xA (wB b) fun d=>xC ((e.upd 5 c).upd 6 d)
def a8u(e:a7)(a b c:Value):Reg:=xB a false (wA none c) fun d=>xB a false (wO .i64 d) fun f=>xB a false (wE .add (.int .i64 4) f) fun g=>xB a false (wE .lss b g) fun i=>xA (wK a (.bool true) i) fun j=>xC (e.upd 29 j)
def c8K(e:a7):Reg:=xA (wB (e 0)) fun a=>xA (wL a) fun b=>xA (wE .lss b (.int .i64 4)) fun c=>xA (wB c) fun d=>xB d false (wB (e 0)) fun f=>xB d false (wL f) fun g=>xB d false (wB (e 0)) fun i=>xB d false (wI 1 i (.int .i64 3)) fun j=>a8u e d g j
def d2c(e:a7):Reg:=xA (wM [(.int .i64 0),(.int .i64 0),(.int .u32 0),(.string ⟨#[]⟩),(.int .i64 0)] []) fun a=>xA (wF 5 (e 4) a) fun _=>xA (wB (.int .i64 0)) fun b=>xA (wB (.int .i64 0)) fun c=>xC ((e.upd 5 b).upd 6 c)
def d7a(e:a7):Reg:=xA (wB (e 0)) fun a=>xA (wI 1 a (.int .i64 3)) fun b=>xA (wA none b) fun c=>xA (wO .i64 c) fun d=>xA (wE .add (.int .i64 4) d) fun f=>xA (wB f) fun g=>xC (e.upd 8 g)
def a7N(e:a7)(a b:Value):Reg:=xA (wM [(.int .i64 0),(.int .i64 0),(.int .u32 0),(.string ⟨#[]⟩),(.int .i64 0)] [(0,1,a),(1,1,b)]) fun c=>xA (wH 61 [(.int .i64 0),(.int .i64 0),(.int .u32 0),(.string ⟨#[]⟩),(.int .i64 0)]) fun d=>xD fun h10=>xA (wF 5 d c) fun _=>xC (e.upd 9 d)
def d3r(e:a7):Reg:=xA (wB (e 0)) fun a=>xA (wI 1 a (.int .i64 4)) fun b=>xA (wA none b) fun c=>xA (wO .i64 c) fun d=>xA (wB (e 0)) fun f=>xA (wI 1 f (.int .i64 5)) fun g=>xA (wA none g) fun i=>xA (wO .i64 i) fun j=>a7N e d j
def c7G(e:a7):Reg:=xA (wC 0 (e 9)) fun a=>xA (wA none a) fun b=>xC (e.upd 46 b)
def c8l(e:a7):Reg:=xA (wE .eql (e 46) (.int .i64 1)) fun a=>xA (wB a) fun b=>xC (e.upd 47 b)
def b9J(e:a7):Reg:=xA (wE .eql (e 46) (.int .i64 2)) fun a=>xA (wB a) fun b=>xC (e.upd 47 b)
def a4F(e:a7)(a:Value):Reg:=xA (wC 3 (e 9)) fun b=>xD fun h11=>xA (wF 1 b a) fun _=>xC e
def a5N(e:a7)(h2:Heap)(a b c d:Value):Reg:=xE none (some h2) (.slice 5 1 b (some (.int .i64 11)) (some c)) d<|xA (.toStr d) fun f=>xE none (some h2) (.toStr d) f<|xA (wC 2 (e 9)) fun g=>xD fun h9=>xA (wF 1 g a) fun _=>xE none none (.toStr d) f<|xE none none (.slice 5 1 b (some (.int .i64 11)) (some c)) d<|a4F e f
def b7C(e:a7):Reg:=xA (wB (e 0)) fun a=>xA (.slice 5 1 a (some (.int .i64 6)) (some (.int .i64 10))) fun b=>xD fun h2=>xA (wD 46 [b]) fun c=>xA (wO .u32 c) fun d=>xA (wB (e 0)) fun f=>xA (wB (e 8)) fun g=>xA (.slice 5 1 f (some (.int .i64 11)) (some g)) fun i=>a5N e h2 d f g i
def b5Q(e:a7):Reg:=xA (wE .eql (e 46) (.int .i64 4)) fun a=>xA (wB a) fun b=>xC (e.upd 60 b)
def c1D(e:a7):Reg:=xA (wB (e 0)) fun a=>xA (wI 1 a (.int .i64 6)) fun b=>xA (wA none b) fun c=>xA (wO .i64 c) fun d=>xA (wC 4 (e 9)) fun f=>xA (wF 1 f d) fun _=>xC e
def c1g(e:a7):Reg:=xA (wA (some 5) (e 9)) fun a=>xA (wB (e 8)) fun b=>xA (wF 5 (e 4) a) fun _=>xA (wB b) fun c=>xA (wB (.int .i64 0)) fun d=>xC ((e.upd 5 c).upd 6 d)
def R71:=an (ro d5X.eq_1)<|an (ro d2Z.eq_1)<|an (ro c9A.eq_1)<|an (ro d1K.eq_1)<|an (T4 a8u.eq_1)<|an (ro c8K.eq_1)<|an (ro d2c.eq_1)<|an (ro d7a.eq_1)<|an (Q7 a7N.eq_1)<|an (ro d3r.eq_1)<|an (ro c7G.eq_1)<|an (ro c8l.eq_1)<|an (ro b9J.eq_1)<|an (ro1 a4F.eq_1)<|an (ro5 a5N.eq_1)<|an (ro b7C.eq_1)<|an (ro b5Q.eq_1)<|an (ro c1D.eq_1)<|ro c1g.eq_1
def c71:CFn:=⟨(.seq (.region d5X) (.seq (.seq (.region d2Z) (.seq (.region c9A) (.cond (fun e=>e 14) (.seq (.region d1K) .ret) .skip))) (.seq (.seq (.region c8K) (.cond (fun e=>e 29) (.seq (.region d2c) .ret) .skip)) (.seq (.region d7a) (.seq (.region d3r) (.seq (.seq (.region c7G) (.block 0 (.seq (.seq (.region c8l) (.cond (fun e=>e 47) .skip (.region b9J))) (.cond (fun e=>e 47) (.region b7C) (.seq (.region b5Q) (.cond (fun e=>e 60) (.region c1D) .skip)))))) (.seq (.region c1g) .ret))))))),[.c 4 (some 5),.t 5,.t 6]⟩
def p71:Pers:=⟨10,[14,29,46,47,60],69,[]⟩
def d2H(e:a7):Reg:=xA (wB (.int .i64 0)) fun a=>xA (wB (.bool false)) fun b=>xC ((e.upd 4 a).upd 5 b)
def d2X(e:a7):Reg:=xA (wB (e 0)) fun a=>xA (wO .u64 a) fun b=>xA (wB (e 1)) fun c=>xA (wO .u64 c) fun d=>xA (wD 85 [b,d]) fun f=>xA (wB f) fun g=>xA (wG g 0) fun i=>xA (wG g 1) fun j=>xA (wB i) fun k=>xA (wB j) fun m=>xC ((e.upd 6 k).upd 7 m)
def d6S(e:a7):Reg:=xA (wB (e 6)) fun a=>xA (wO .i64 a) fun b=>xA (wB b) fun c=>xC (e.upd 8 c)
def d5B(e:a7):Reg:=xA (wB (e 0)) fun a=>xA (wE .lss a (.int .i64 0)) fun b=>xC (e.upd 20 b)
def d0t(e:a7):Reg:=xA (wB (e 8)) fun a=>xA (wB (e 1)) fun b=>xA (wE .sub a b) fun c=>xA (wB c) fun d=>xC (e.upd 8 d)
def d4O(e:a7):Reg:=xA (wB (e 1)) fun a=>xA (wE .lss a (.int .i64 0)) fun b=>xC (e.upd 25 b)
def d7A(e:a7):Reg:=xA (wB (e 8)) fun a=>xA (wB (e 0)) fun b=>xA (wE .sub a b) fun c=>xA (wB c) fun d=>xC (e.upd 8 d)
def d4J(e:a7):Reg:=xA (wB (e 7)) fun a=>xA (wO .i64 a) fun b=>xA (wB (e 8)) fun c=>xA (wB (e 7)) fun d=>xA (wO .i64 d) fun f=>xA (wE .shr f (.int .u64 63)) fun g=>xA (wE .eql c g) fun i=>xA (wB b) fun j=>xA (wB i) fun k=>xC ((e.upd 4 j).upd 5 k)
def R72:=an (ro d2H.eq_1)<|an (ro d2X.eq_1)<|an (ro d6S.eq_1)<|an (ro d5B.eq_1)<|an (ro d0t.eq_1)<|an (ro d4O.eq_1)<|an (ro d7A.eq_1)<|ro d4J.eq_1
def c72:CFn:=⟨(.seq (.region d2H) (.seq (.region d2X) (.seq (.region d6S) (.seq (.seq (.region d5B) (.cond (fun e=>e 20) (.region d0t) .skip)) (.seq (.seq (.region d4O) (.cond (fun e=>e 25) (.region d7A) .skip)) (.seq (.region d4J) .ret)))))),[.t 4,.t 5]⟩
def p72:Pers:=⟨9,[20,25],36,[]⟩
def c9a(e:a7):Reg:=xA (wB (.int .i64 0)) fun a=>xC (e.upd 4 a)
def d3W(e:a7):Reg:=xA (wB (e 0)) fun a=>xA (wE .lss a (.int .i64 0)) fun b=>xA (wB b) fun c=>xB c false (wB (e 1)) fun d=>xB c false (wE .lss d (.int .i64 1)) fun f=>xA (wK c (.bool true) f) fun g=>xC (e.upd 11 g)
def d6A(e:a7):Reg:=xA (wB (.int .i64 0)) fun a=>xC (e.upd 4 a)
def d5C(e:a7):Reg:=xA (wB (e 0)) fun a=>xA (wB (e 1)) fun b=>xA (wE .quo a b) fun c=>xA (wB c) fun d=>xC (e.upd 5 d)
def d3e(e:a7):Reg:=xA (wB (e 0)) fun a=>xA (wB (e 1)) fun b=>xA (wE .rem a b) fun c=>xA (wE .gtr c (.int .i64 0)) fun d=>xC (e.upd 18 d)
def d3a(e:a7):Reg:=xA (wB (e 5)) fun a=>xA (wE .add a (.int .i64 1)) fun b=>xA (wB b) fun c=>xC (e.upd 5 c)
def d7f(e:a7):Reg:=xA (wB (e 5)) fun a=>xA (wB a) fun b=>xC (e.upd 4 b)
def R73:=an (ro c9a.eq_1)<|an (ro d3W.eq_1)<|an (ro d6A.eq_1)<|an (ro d5C.eq_1)<|an (ro d3e.eq_1)<|an (ro d3a.eq_1)<|ro d7f.eq_1
def c73:CFn:=⟨(.seq (.region c9a) (.seq (.seq (.region d3W) (.cond (fun e=>e 11) (.seq (.region d6A) .ret) .skip)) (.seq (.region d5C) (.seq (.seq (.region d3e) (.cond (fun e=>e 18) (.region d3a) .skip)) (.seq (.region d7f) .ret))))),[.t 4]⟩
def p73:Pers:=⟨6,[11,18],22,[]⟩
def d0B(e:a7):Reg:=xA (wN 61 (e 0)) fun a=>xA (wB (.int .i64 0)) fun b=>xC ((e.upd 2 a).upd 4 b)
def d1H(e:a7):Reg:=xA (wC 0 (e 2)) fun a=>xA (wA none a) fun b=>xC (e.upd 6 b)
def d1p(e:a7):Reg:=xA (wE .eql (e 6) (.int .i64 3)) fun a=>xA (wB a) fun b=>xC (e.upd 7 b)
def c8n(e:a7):Reg:=xA (wB (.int .i64 46)) fun a=>xC (e.upd 4 a)
def d1Z(e:a7):Reg:=xA (wE .eql (e 6) (.int .i64 4)) fun a=>xA (wB a) fun b=>xC (e.upd 9 b)
def c8x(e:a7):Reg:=xA (wC 4 (e 2)) fun a=>xA (wA none a) fun b=>xA (.minmax true [b,(.int .i64 1)]) fun c=>xA (wB (e 1)) fun d=>xA (.minmax false [c,d]) fun f=>xA (wE .mul f (.int .i64 81)) fun g=>xA (wE .add (.int .i64 7) g) fun i=>xA (wB i) fun j=>xC (e.upd 4 j)
def c8t(e:a7):Reg:=xA (wB (.int .i64 22)) fun a=>xC (e.upd 4 a)
def R74:=an (ro d0B.eq_1)<|an (ro d1H.eq_1)<|an (ro d1p.eq_1)<|an (ro c8n.eq_1)<|an (ro d1Z.eq_1)<|an (ro c8x.eq_1)<|ro c8t.eq_1
def c74:CFn:=⟨(.seq (.region d0B) (.seq (.seq (.region d1H) (.block 0 (.seq (.region d1p) (.cond (fun e=>e 7) (.seq (.region c8n) .ret) (.seq (.region d1Z) (.cond (fun e=>e 9) (.seq (.region c8x) .ret) .skip)))))) (.seq (.region c8t) .ret))),[.t 4]⟩
def p74:Pers:=⟨5,[6,7,9],18,[]⟩
def d2L(e:a7):Reg:=xA (wB (.int .i64 0)) fun a=>xC (e.upd 2 a)
def d3m(e:a7):Reg:=xA (wB (e 0)) fun a=>xA (wB a) fun b=>xC (e.upd 2 b)
def R75:=an (ro d2L.eq_1)<|ro d3m.eq_1
def c75:CFn:=⟨(.seq (.region d2L) (.seq (.region d3m) .ret)),[.t 2]⟩
def p75:Pers:=⟨3,[],4,[]⟩
def d6n(e:a7):Reg:=xA (wN 34 (e 0)) fun a=>xA (wB (.int .i64 0)) fun b=>xC ((e.upd 1 a).upd 2 b)
def a8r(e:a7)(h2 h4 h8:Heap)(a:Value):Reg:=xA (wC 5 (e 1)) fun b=>xA (wA none b) fun c=>xE none (some h8) (wA none b) c<|xE none (some h4) (wA none b) c<|xE none (some h2) (wA none b) c<|xA (wE .add c (.int .i64 1)) fun d=>xA (wE .mul (.int .i64 24) d) fun f=>xA (wE .add a f) fun g=>xA (wB g) fun i=>xC (e.upd 2 i)
def a9j(e:a7)(h2:Heap)(a:Value)(h4:Heap)(b:Value):Reg:=xA (wE .add a b) fun c=>xA (wC 7 (e 1)) fun d=>xA (wA none d) fun f=>xE none (some h4) (wA none d) f<|xE none (some h2) (wA none d) f<|xD fun h8=>xA (wD 88 [f]) fun g=>xA (wE .add c g) fun i=>a8r e h2 h4 h8 i
def d4d(e:a7):Reg:=xA (wC 4 (e 1)) fun a=>xA (wA none a) fun b=>xD fun h2=>xA (wD 86 [b]) fun c=>xA (wA (some 9) (e 1)) fun d=>xE none (some h2) (wA (some 9) (e 1)) d<|xD fun h4=>xA (wD 87 [d]) fun f=>a9j e h2 c h4 f
def R76:=an (ro d6n.eq_1)<|an (ro4 a8r.eq_1)<|an (ro4 a9j.eq_1)<|ro d4d.eq_1
def c76:CFn:=⟨(.seq (.region d6n) (.seq (.region d4d) .ret)),[.t 2]⟩
def p76:Pers:=⟨3,[],18,[]⟩
def d0b(e:a7):Reg:=xA (wB (.pointer none)) fun a=>xC (e.upd 2 a)
def d1k(e:a7):Reg:=xA (wB (e 0)) fun a=>xA (wE .lss a (.int .i64 1)) fun b=>xA (wB b) fun c=>xB c false (wB (e 0)) fun d=>xB c false (wE .gtr d (.int .i64 65536)) fun f=>xA (wK c (.bool true) f) fun g=>xC (e.upd 8 g)
def d5P(e:a7):Reg:=xA (wB (.pointer none)) fun a=>xC (e.upd 2 a)
def d2U(e:a7):Reg:=xA (wB (e 0)) fun a=>xA (.makeSlice 5 1 1 [(.int .u8 0)] a a) fun b=>xA (wM [(.slice none 0 0),(.int .i64 0),(.int .i64 0)] [(0,1,b)]) fun c=>xA (wN 188 c) fun d=>xA (wB d) fun f=>xC (e.upd 2 f)
def R77:=an (ro d0b.eq_1)<|an (ro d1k.eq_1)<|an (ro d5P.eq_1)<|ro d2U.eq_1
def c77:CFn:=⟨(.seq (.region d0b) (.seq (.seq (.region d1k) (.cond (fun e=>e 8) (.seq (.region d5P) .ret) .skip)) (.seq (.region d2U) .ret))),[.t 2]⟩
def p77:Pers:=⟨3,[8],13,[]⟩
def d5N(e:a7):Reg:=xA (wB (.slice none 0 0)) fun a=>xC (e.upd 4 a)
def d0M(e:a7):Reg:=xA (wB (.slice none 0 0)) fun a=>xC (e.upd 5 a)
def d0g(e:a7):Reg:=xA (wB (e 1)) fun a=>xA (.minmax true [a,(.int .i64 0)]) fun b=>xA (.minmax false [b,(.int .i64 9)]) fun c=>xA (wB (.int .i64 0)) fun d=>xC ((e.upd 9 c).upd 10 d)
def d7D(e:a7):Reg:=xA (wE .lss (e 10) (e 9)) fun a=>xC (e.upd 11 a)
def d3s(e:a7):Reg:=xA (wB (e 10)) fun a=>xA (wB a) fun b=>xC (e.upd 6 b)
def a8x(e:a7)(a b c d:Value):Reg:=xA (wM [(.int .u64 0),(.int .u64 0),(.int .u64 0)] [(0,1,b),(1,1,c),(2,1,d)]) fun f=>xA (.buildSlice 182 1 [(.int .u64 0),(.int .u64 0),(.int .u64 0)] [(0,3,f)]) fun g=>xA (.append 182 3 24 a g) fun i=>xA (wB i) fun j=>xC (e.upd 5 j)
def a7Z(e:a7)(a b c d:Value):Reg:=xA (wE .add d (.int .i64 1)) fun f=>xA (wD 89 [c,f]) fun g=>xA (wB (e 0)) fun i=>xA (wB (e 6)) fun j=>xA (wE .mul (.int .i64 3) j) fun k=>xA (wE .add k (.int .i64 2)) fun m=>xA (wD 91 [i,m]) fun n=>xA (wD 90 [n]) fun o=>a8x e a b g o
def d7k(e:a7):Reg:=xA (wB (e 5)) fun a=>xA (wB (e 0)) fun b=>xA (wB (e 6)) fun c=>xA (wE .mul (.int .i64 3) c) fun d=>xA (wD 89 [b,d]) fun f=>xA (wB (e 0)) fun g=>xA (wB (e 6)) fun i=>xA (wE .mul (.int .i64 3) i) fun j=>a7Z e a f g j
def d5j(e:a7):Reg:=xA (wE .add (e 10) (.int .i64 1)) fun a=>xA (wB a) fun b=>xC (e.upd 10 b)
def b0T:CC:=(.seq (.region d7D) (.seq (.cond (fun e=>e 11) .skip (.exit 0)) (.seq (.block 1 (.seq (.region d3s) (.region d7k))) (.region d5j))))
def c9I(e:a7):Reg:=xA (wB (e 5)) fun a=>xA (wB a) fun b=>xC (e.upd 4 b)
def R78:=an (ro d5N.eq_1)<|an (ro d0M.eq_1)<|an (ro d0g.eq_1)<|an (ro d7D.eq_1)<|an (ro d3s.eq_1)<|an (ro4 a8x.eq_1)<|an (ro4 a7Z.eq_1)<|an (ro d7k.eq_1)<|an (ro d5j.eq_1)<|ro c9I.eq_1
def c78:CFn:=⟨(.seq (.region d5N) (.seq (.region d0M) (.seq (.seq (.region d0g) (.block 0 (.loop b0T))) (.seq (.region c9I) .ret)))),[.t 4]⟩
def p78:Pers:=⟨7,[9,10,11],34,[]⟩
def d1m(e:a7):Reg:=xA (wN 34 (e 0)) fun a=>xA (wH 126 [(.int .i64 0),(.int .i64 0),(.int .i64 0),(.int .i64 0)]) fun b=>xC ((e.upd 1 a).upd 2 b)
def a7Q(e:a7)(h8:Heap)(a b c:Value):Reg:=xA (wC 0 (e 1)) fun d=>xA (wA none d) fun f=>xE none (some h8) (wA none d) f<|xA (wM [(.int .i64 0),(.int .i64 0),(.int .i64 0),(.int .i64 0)] [(0,1,a),(1,1,b),(2,1,c),(3,1,f)]) fun g=>xD fun h16=>xA (wF 4 (e 2) g) fun _=>xC e
def a8W(e:a7)(a b:Value):Reg:=xD fun h8=>xA (wD 73 [a,b]) fun c=>xA (wC 1 (e 1)) fun d=>xA (wA none d) fun f=>xE none (some h8) (wA none d) f<|xA (wC 2 (e 1)) fun g=>xA (wA none g) fun i=>xE none (some h8) (wA none g) i<|a7Q e h8 c f i
def d5s(e:a7):Reg:=xA (wC 1 (e 1)) fun a=>xA (wA none a) fun b=>xA (wC 0 (e 1)) fun c=>xA (wA none c) fun d=>xA (wE .add d (.int .i64 1)) fun f=>xA (wC 2 (e 1)) fun g=>xA (wA none g) fun i=>xA (wE .sub f i) fun j=>a8W e b j
def R79:=an (ro d1m.eq_1)<|an (ro4 a7Q.eq_1)<|an (Q7 a8W.eq_1)<|ro d5s.eq_1
def c79:CFn:=⟨(.seq (.region d1m) (.seq (.region d5s) .ret)),[.c 2 (some 4)]⟩
def p79:Pers:=⟨3,[],19,[]⟩
def d1i(e:a7):Reg:=xA (wN 182 (e 1)) fun a=>xA (wB (.pointer none)) fun b=>xC ((e.upd 3 a).upd 4 b)
def d4h(e:a7):Reg:=xA (wB (e 0)) fun a=>xA (wE .lss a (.int .i64 1)) fun b=>xA (wB b) fun c=>xB c false (wB (e 0)) fun d=>xB c false (wE .gtr d (.int .i64 1024)) fun f=>xA (wK c (.bool true) f) fun g=>xC (e.upd 11 g)
def c8B(e:a7):Reg:=xA (wB (.pointer none)) fun a=>xC (e.upd 4 a)
def d6X(e:a7):Reg:=xA (wB (e 0)) fun a=>xD fun h1=>xA (wD 92 [a]) fun b=>xA (wB (e 0)) fun c=>xA (.makeSlice 250 4 32 [(.int .i64 0),(.int .i64 0),(.int .i64 0),(.int .i64 0)] c c) fun d=>xA (wM [(.pointer none),(.pointer none),(.slice none 0 0)] [(0,1,b),(2,1,d)]) fun f=>xA (wN 165 f) fun g=>xA (wB g) fun i=>xC (e.upd 5 i)
def a8N(e:a7)(a b:Value):Reg:=xA (wJ a) fun c=>xA (wC 1 c) fun d=>xD fun h9=>xA (wF 1 d b) fun _=>xC e
def d6m(e:a7):Reg:=xA (wB (e 5)) fun a=>xA (wB (e 5)) fun b=>xA (wJ b) fun c=>xA (wC 0 c) fun d=>xA (wA none d) fun f=>xA (wA (some 3) (e 3)) fun g=>xD fun h6=>xA (wD 93 [f,g]) fun i=>a8N e a i
def c7J(e:a7):Reg:=xA (wB (e 5)) fun a=>xA (wB a) fun b=>xC (e.upd 4 b)
def R80:=an (ro d1i.eq_1)<|an (ro d4h.eq_1)<|an (ro c8B.eq_1)<|an (ro d6X.eq_1)<|an (Q7 a8N.eq_1)<|an (ro d6m.eq_1)<|ro c7J.eq_1
def c80:CFn:=⟨(.seq (.region d1i) (.seq (.seq (.region d4h) (.cond (fun e=>e 11) (.seq (.region c8B) .ret) .skip)) (.seq (.region d6X) (.seq (.region d6m) (.seq (.region c7J) .ret))))),[.t 4]⟩
def p80:Pers:=⟨6,[11],28,[]⟩
def d4r(e:a7):Reg:=xA (wN 34 (e 0)) fun a=>xA (wB (.pointer none)) fun b=>xC ((e.upd 2 a).upd 4 b)
def a7B(e:a7)(a:Value):Reg:=xA (wB a) fun b=>xB b false (wB (e 1)) fun c=>xB b false (wL c) fun d=>xB b false (wE .eql d (.int .i64 0)) fun f=>xA (wK b (.bool true) f) fun g=>xA (wB g) fun i=>xB i false (wC 6 (e 2)) fun j=>xB i false (wA none j) fun k=>xB i false (wE .lss k (.int .i64 1)) fun m=>xA (wK i (.bool true) m) fun n=>xC (e.upd 32 n)
def a8A(e:a7)(a:Value):Reg:=xA (wB a) fun b=>xB b false (wC 1 (e 2)) fun c=>xB b false (wA none c) fun d=>xB b false (wC 3 (e 2)) fun f=>xB b false (wA none f) fun g=>xB b false (wE .quo d g) fun i=>xB b false (wE .lss i (.int .i64 1)) fun j=>xA (wK b (.bool true) j) fun k=>a7B e k
def c9e(e:a7):Reg:=xA (wC 3 (e 2)) fun a=>xA (wA none a) fun b=>xA (wE .lss b (.int .i64 1)) fun c=>xA (wB c) fun d=>xB d false (wC 3 (e 2)) fun f=>xB d false (wA none f) fun g=>xB d false (wE .gtr g (.int .i64 64)) fun i=>xA (wK d (.bool true) i) fun j=>a8A e j
def d1r(e:a7):Reg:=xA (wB (.pointer none)) fun a=>xC (e.upd 4 a)
def a8Q(e:a7)(a b c d f:Value):Reg:=xA (wA none f) fun g=>xA (wC 8 (e 2)) fun i=>xA (wA none i) fun j=>xA (wM [(.slice none 0 0),(.slice none 0 0),(.int .i64 0),(.int .i64 0),(.int .i64 0),(.bool false),(.int .i64 0)] [(0,1,a),(1,1,b),(2,1,c),(3,1,d),(4,1,g),(5,1,j)]) fun k=>xA (wN 201 k) fun m=>xA (wB m) fun n=>xC (e.upd 5 n)
def a8a(e:a7)(a b:Value):Reg:=xA (wC 1 (e 2)) fun c=>xA (wA none c) fun d=>xA (wC 3 (e 2)) fun f=>xA (wA none f) fun g=>xA (wE .quo d g) fun i=>xA (wB (e 1)) fun j=>xA (wL j) fun k=>xA (wC 0 (e 2)) fun m=>a8Q e a b i k m
def d5w(e:a7):Reg:=xA (wC 3 (e 2)) fun a=>xA (wA none a) fun b=>xA (wE .add b (.int .i64 1)) fun c=>xA (.makeSlice 202 1 8 [(.pointer none)] c c) fun d=>xA (wC 3 (e 2)) fun f=>xA (wA none f) fun g=>xA (wE .add g (.int .i64 1)) fun i=>xA (.makeSlice 2 1 8 [(.int .i64 0)] i i) fun j=>a8a e d j
def d1Y(e:a7):Reg:=xA (wB (e 5)) fun a=>xA (wJ a) fun b=>xA (wC 0 b) fun c=>xA (wA none c) fun d=>xA (wL d) fun f=>xA (wB (.int .i64 0)) fun g=>xC ((e.upd 58 f).upd 59 g)
def d4N(e:a7):Reg:=xA (wE .lss (e 59) (e 58)) fun a=>xC (e.upd 60 a)
def d3D(e:a7):Reg:=xA (wB (e 59)) fun a=>xA (wB a) fun b=>xC (e.upd 6 b)
def a9m(e:a7)(a b c d f:Value):Reg:=xD fun h8=>xA (wD 94 [d,f]) fun g=>xE none none (wA none a) b<|xA (wI 1 b c) fun i=>xD fun h10=>xA (wF 1 i g) fun _=>xC e
def d1D(e:a7):Reg:=xA (wB (e 5)) fun a=>xA (wJ a) fun b=>xA (wC 0 b) fun c=>xA (wA none c) fun d=>xA (wB (e 6)) fun f=>xA (wB (e 1)) fun g=>xA (wC 6 (e 2)) fun i=>xA (wA none i) fun j=>a9m e c d f g j
def d1l(e:a7):Reg:=xA (wE .add (e 59) (.int .i64 1)) fun a=>xA (wB a) fun b=>xC (e.upd 59 b)
def a9T:CC:=(.seq (.region d4N) (.seq (.cond (fun e=>e 60) .skip (.exit 0)) (.seq (.block 1 (.seq (.region d3D) (.region d1D))) (.region d1l))))
def c7A(e:a7):Reg:=xA (wB (e 5)) fun a=>xA (wB a) fun b=>xC (e.upd 4 b)
def R81:=an (ro d4r.eq_1)<|an (ro1 a7B.eq_1)<|an (ro1 a8A.eq_1)<|an (ro c9e.eq_1)<|an (ro d1r.eq_1)<|an (ro5 a8Q.eq_1)<|an (Q7 a8a.eq_1)<|an (ro d5w.eq_1)<|an (ro d1Y.eq_1)<|an (ro d4N.eq_1)<|an (ro d3D.eq_1)<|an (ro5 a9m.eq_1)<|an (ro d1D.eq_1)<|an (ro d1l.eq_1)<|ro c7A.eq_1
def c81:CFn:=⟨(.seq (.region d4r) (.seq (.seq (.region c9e) (.cond (fun e=>e 32) (.seq (.region d1r) .ret) .skip)) (.seq (.region d5w) (.seq (.seq (.region d1Y) (.block 0 (.loop a9T))) (.seq (.region c7A) .ret))))),[.t 4]⟩
def p81:Pers:=⟨7,[32,58,59,60],74,[]⟩
def d3V(e:a7):Reg:=xA (wN 182 (e 1)) fun a=>xA (wB (.pointer none)) fun b=>xC ((e.upd 3 a).upd 4 b)
def d7h(e:a7):Reg:=xA (wB (e 0)) fun a=>xA (wE .lss a (.int .i64 1)) fun b=>xA (wB b) fun c=>xB c false (wB (e 0)) fun d=>xB c false (wE .gtr d (.int .i64 64)) fun f=>xA (wK c (.bool true) f) fun g=>xC (e.upd 11 g)
def d6y(e:a7):Reg:=xA (wB (.pointer none)) fun a=>xC (e.upd 4 a)
def a7P(e:a7)(a b c d:Value):Reg:=xA (.makeSlice 21 1 4 [(.int .i32 0)] d d) fun f=>xA (wB (e 0)) fun g=>xA (.makeSlice 21 1 4 [(.int .i32 0)] g g) fun i=>xA (wM [(.pointer none),(.pointer none),(.slice none 0 0),(.slice none 0 0),(.slice none 0 0),(.slice none 0 0),(.int .i64 0)] [(0,1,a),(2,1,b),(3,1,c),(4,1,f),(5,1,i)]) fun j=>xA (wN 169 j) fun k=>xA (wB k) fun m=>xC (e.upd 5 m)
def d7r(e:a7):Reg:=xA (wB (e 0)) fun a=>xD fun h1=>xA (wD 92 [a]) fun b=>xA (wB (e 0)) fun c=>xA (.makeSlice 2 1 8 [(.int .i64 0)] c c) fun d=>xA (wB (e 0)) fun f=>xA (.makeSlice 2 1 8 [(.int .i64 0)] f f) fun g=>xA (wB (e 0)) fun i=>a7P e b d g i
def a7U(e:a7)(a b:Value):Reg:=xA (wJ a) fun c=>xA (wC 1 c) fun d=>xD fun h9=>xA (wF 1 d b) fun _=>xC e
def d2M(e:a7):Reg:=xA (wB (e 5)) fun a=>xA (wB (e 5)) fun b=>xA (wJ b) fun c=>xA (wC 0 c) fun d=>xA (wA none d) fun f=>xA (wA (some 3) (e 3)) fun g=>xD fun h6=>xA (wD 93 [f,g]) fun i=>a7U e a i
def c9m(e:a7):Reg:=xA (wB (e 5)) fun a=>xA (wB a) fun b=>xC (e.upd 4 b)
def R82:=an (ro d3V.eq_1)<|an (ro d7h.eq_1)<|an (ro d6y.eq_1)<|an (ro4 a7P.eq_1)<|an (ro d7r.eq_1)<|an (Q7 a7U.eq_1)<|an (ro d2M.eq_1)<|ro c9m.eq_1
def c82:CFn:=⟨(.seq (.region d3V) (.seq (.seq (.region d7h) (.cond (fun e=>e 11) (.seq (.region d6y) .ret) .skip)) (.seq (.region d7r) (.seq (.region d2M) (.seq (.region c9m) .ret))))),[.t 4]⟩
def p82:Pers:=⟨6,[11],34,[]⟩
def d4l(e:a7):Reg:=xA (wB (.int .i64 0)) fun a=>xC (e.upd 2 a)
def c8R(e:a7):Reg:=xA (wB (e 0)) fun a=>xA (.eqK .ptr false a (.pointer none)) fun b=>xC (e.upd 4 b)
def d4K(e:a7):Reg:=xA (wB (.int .i64 0)) fun a=>xC (e.upd 2 a)
def c8C(e:a7):Reg:=xA (wB (e 0)) fun a=>xA (wJ a) fun b=>xA (wC 2 b) fun c=>xA (wA none c) fun d=>xA (wB d) fun f=>xC (e.upd 2 f)
def R83:=an (ro d4l.eq_1)<|an (ro c8R.eq_1)<|an (ro d4K.eq_1)<|ro c8C.eq_1
def c83:CFn:=⟨(.seq (.region d4l) (.seq (.seq (.region c8R) (.cond (fun e=>e 4) (.seq (.region d4K) .ret) .skip)) (.seq (.region c8C) .ret))),[.t 2]⟩
def p83:Pers:=⟨3,[4],9,[]⟩
def c8i(e:a7):Reg:=xA (wB (.int .i64 0)) fun a=>xC (e.upd 4 a)
def d4m(e:a7):Reg:=xA (wB (e 0)) fun a=>xA (wL a) fun b=>xA (wB (.int .i64 0)) fun c=>xC (((e.upd 8 a).upd 9 b).upd 10 c)
def c7x(e:a7):Reg:=xA (wE .lss (e 10) (e 9)) fun a=>xC (e.upd 11 a)
def d3p(e:a7):Reg:=xA (wB (e 10)) fun a=>xA (wI 1 (e 8) (e 10)) fun b=>xA (wA none b) fun c=>xA (wB a) fun d=>xA (wB c) fun f=>xC ((e.upd 5 d).upd 6 f)
def a9v(e:a7)(a b c:Value):Reg:=xB a true (wE .add (.int .i64 4) c) fun d=>xB a true (wE .geq b d) fun f=>xA (wK a f (.bool false)) fun g=>xC (e.upd 25 g)
def d4E(e:a7):Reg:=xA (wB (e 5)) fun a=>xA (wE .geq a (.int .i64 4)) fun b=>xA (wB b) fun c=>xB c true (wB (e 5)) fun d=>xB c true (wB (e 0)) fun f=>xB c true (wI 1 f (.int .i64 3)) fun g=>xB c true (wA none g) fun i=>xB c true (wO .i64 i) fun j=>a9v e c d j
def d6u(e:a7):Reg:=xA (wB (e 0)) fun a=>xA (wB (e 5)) fun b=>xA (wB (e 6)) fun c=>xA (wB (e 1)) fun d=>xA (wD 95 [a,b,c,d]) fun f=>xA (wB f) fun g=>xC (e.upd 7 g)
def d6R(e:a7):Reg:=xA (wB (e 7)) fun a=>xA (wE .neq a (.int .i64 0)) fun b=>xC (e.upd 32 b)
def d2W(e:a7):Reg:=xA (wB (e 7)) fun a=>xA (wB a) fun b=>xC (e.upd 4 b)
def d0I(e:a7):Reg:=xA (wE .add (e 10) (.int .i64 1)) fun a=>xA (wB a) fun b=>xC (e.upd 10 b)
def a0q:CC:=(.seq (.region c7x) (.seq (.cond (fun e=>e 11) .skip (.exit 0)) (.seq (.block 1 (.seq (.region d3p) (.seq (.seq (.region d4E) (.cond (fun e=>e 25) (.exit 0) .skip)) (.seq (.region d6u) (.seq (.region d6R) (.cond (fun e=>e 32) (.seq (.region d2W) .ret) .skip)))))) (.region d0I))))
def d6V(e:a7):Reg:=xA (wB (.int .i64 0)) fun a=>xC (e.upd 4 a)
def R84:=an (ro c8i.eq_1)<|an (ro d4m.eq_1)<|an (ro c7x.eq_1)<|an (ro d3p.eq_1)<|an (T4 a9v.eq_1)<|an (ro d4E.eq_1)<|an (ro d6u.eq_1)<|an (ro d6R.eq_1)<|an (ro d2W.eq_1)<|an (ro d0I.eq_1)<|ro d6V.eq_1
def c84:CFn:=⟨(.seq (.region c8i) (.seq (.seq (.region d4m) (.block 0 (.loop a0q))) (.seq (.region d6V) .ret))),[.t 4]⟩
def p84:Pers:=⟨8,[8,9,10,11,25,32],35,[]⟩
def d2x(e:a7):Reg:=xA (wB (.int .u64 0)) fun a=>xA (wB (.int .u64 0)) fun b=>xC ((e.upd 4 a).upd 5 b)
def d5H(e:a7):Reg:=xA (wB (e 0)) fun a=>xA (wE .and a (.int .u64 4294967295)) fun b=>xA (wB b) fun c=>xC (e.upd 6 c)
def c8a(e:a7):Reg:=xA (wB (e 0)) fun a=>xA (wE .shr a (.int .u64 32)) fun b=>xA (wB b) fun c=>xC (e.upd 7 c)
def d4e(e:a7):Reg:=xA (wB (e 1)) fun a=>xA (wE .and a (.int .u64 4294967295)) fun b=>xA (wB b) fun c=>xC (e.upd 8 c)
def d4t(e:a7):Reg:=xA (wB (e 1)) fun a=>xA (wE .shr a (.int .u64 32)) fun b=>xA (wB b) fun c=>xC (e.upd 9 c)
def d7j(e:a7):Reg:=xA (wB (e 6)) fun a=>xA (wB (e 8)) fun b=>xA (wE .mul a b) fun c=>xA (wB c) fun d=>xC (e.upd 10 d)
def d2D(e:a7):Reg:=xA (wB (e 7)) fun a=>xA (wB (e 8)) fun b=>xA (wE .mul a b) fun c=>xA (wB (e 10)) fun d=>xA (wE .shr d (.int .u64 32)) fun f=>xA (wE .add c f) fun g=>xA (wB g) fun i=>xC (e.upd 11 i)
def d0c(e:a7):Reg:=xA (wB (e 11)) fun a=>xA (wE .and a (.int .u64 4294967295)) fun b=>xA (wB b) fun c=>xC (e.upd 12 c)
def d5r(e:a7):Reg:=xA (wB (e 11)) fun a=>xA (wE .shr a (.int .u64 32)) fun b=>xA (wB b) fun c=>xC (e.upd 13 c)
def d6q(e:a7):Reg:=xA (wB (e 12)) fun a=>xA (wB (e 6)) fun b=>xA (wB (e 9)) fun c=>xA (wE .mul b c) fun d=>xA (wE .add a d) fun f=>xA (wB f) fun g=>xC (e.upd 12 g)
def c0U(e:a7):Reg:=xA (wB (e 7)) fun a=>xA (wB (e 9)) fun b=>xA (wE .mul a b) fun c=>xA (wB (e 13)) fun d=>xA (wE .add c d) fun f=>xA (wB (e 12)) fun g=>xA (wE .shr g (.int .u64 32)) fun i=>xA (wE .add f i) fun j=>xA (wB j) fun k=>xC (e.upd 4 k)
def b6m(e:a7):Reg:=xA (wB (e 0)) fun a=>xA (wB (e 1)) fun b=>xA (wE .mul a b) fun c=>xA (wB c) fun d=>xC (e.upd 5 d)
def R85:=an (ro d2x.eq_1)<|an (ro d5H.eq_1)<|an (ro c8a.eq_1)<|an (ro d4e.eq_1)<|an (ro d4t.eq_1)<|an (ro d7j.eq_1)<|an (ro d2D.eq_1)<|an (ro d0c.eq_1)<|an (ro d5r.eq_1)<|an (ro d6q.eq_1)<|an (ro c0U.eq_1)<|ro b6m.eq_1
def c85:CFn:=⟨(.seq (.region d2x) (.seq (.region d5H) (.seq (.region c8a) (.seq (.region d4e) (.seq (.region d4t) (.seq (.region d7j) (.seq (.region d2D) (.seq (.region d0c) (.seq (.region d5r) (.seq (.region d6q) (.seq (.region c0U) (.seq (.region b6m) .ret)))))))))))),[.t 4,.t 5]⟩
def p85:Pers:=⟨14,[],51,[]⟩
def c9h(e:a7):Reg:=xA (wB (.int .i64 0)) fun a=>xC (e.upd 2 a)
def d5u(e:a7):Reg:=xA (wB (e 0)) fun a=>xA (wD 96 [a]) fun b=>xA (wB (e 0)) fun c=>xA (wD 97 [c]) fun d=>xA (wE .add b d) fun f=>xA (wB (e 0)) fun g=>xA (wE .mul (.int .i64 32) g) fun i=>xA (wE .add f i) fun j=>xA (wB j) fun k=>xC (e.upd 2 k)
def R86:=an (ro c9h.eq_1)<|ro d5u.eq_1
def c86:CFn:=⟨(.seq (.region c9h) (.seq (.region d5u) .ret)),[.t 2]⟩
def p86:Pers:=⟨3,[],11,[]⟩
def d6r(e:a7):Reg:=xA (wN 34 (e 0)) fun a=>xA (wB (.int .i64 0)) fun b=>xC ((e.upd 1 a).upd 2 b)
def c9U(e:a7):Reg:=xA (wC 3 (e 1)) fun a=>xA (wA none a) fun b=>xA (wE .add b (.int .i64 1)) fun c=>xA (wB c) fun d=>xC (e.upd 3 d)
def d3i(e:a7):Reg:=xA (wB (e 3)) fun a=>xA (wC 5 (e 1)) fun b=>xA (wA none b) fun c=>xA (wC 6 (e 1)) fun d=>xA (wA none d) fun f=>xA (wD 98 [c,f]) fun g=>xA (wE .add (.int .i64 16) g) fun i=>xA (wE .mul a i) fun j=>xA (wB j) fun k=>xC (e.upd 2 k)
def R87:=an (ro d6r.eq_1)<|an (ro c9U.eq_1)<|ro d3i.eq_1
def c87:CFn:=⟨(.seq (.region d6r) (.seq (.region c9U) (.seq (.region d3i) .ret))),[.t 2]⟩
def p87:Pers:=⟨4,[],15,[]⟩
def d3g(e:a7):Reg:=xA (wB (.int .i64 0)) fun a=>xC (e.upd 2 a)
def c8d(e:a7):Reg:=xA (wB (e 0)) fun a=>xA (wD 96 [a]) fun b=>xA (wB (e 0)) fun c=>xA (wD 97 [c]) fun d=>xA (wE .add b d) fun f=>xA (wB (e 0)) fun g=>xA (wE .mul g (.int .i64 24)) fun i=>xA (wE .add f i) fun j=>xA (wB j) fun k=>xC (e.upd 2 k)
def R88:=an (ro d3g.eq_1)<|ro c8d.eq_1
def c88:CFn:=⟨(.seq (.region d3g) (.seq (.region c8d) .ret)),[.t 2]⟩
def p88:Pers:=⟨3,[],11,[]⟩
def d1b(e:a7):Reg:=xA (wB (.int .u64 0)) fun a=>xC (e.upd 4 a)
def c9o(e:a7):Reg:=xA (wB (e 0)) fun a=>xA (wB (e 1)) fun b=>xA (wD 91 [a,b]) fun c=>xA (wE .rem c (.int .u64 2305843009213693950)) fun d=>xA (wE .add d (.int .u64 1)) fun f=>xA (wB f) fun g=>xC (e.upd 4 g)
def R89:=an (ro d1b.eq_1)<|ro c9o.eq_1
def c89:CFn:=⟨(.seq (.region d1b) (.seq (.region c9o) .ret)),[.t 4]⟩
def p89:Pers:=⟨5,[],10,[]⟩
def d0P(e:a7):Reg:=xA (wB (.int .u64 0)) fun a=>xC (e.upd 2 a)
def d4i(e:a7):Reg:=xA (wB (e 0)) fun a=>xA (wE .shr a (.int .u64 61)) fun b=>xA (wB (e 0)) fun c=>xA (wE .and c (.int .u64 2305843009213693951)) fun d=>xA (wE .add b d) fun f=>xA (wB f) fun g=>xC (e.upd 0 g)
def d1Q(e:a7):Reg:=xA (wB (e 0)) fun a=>xA (wE .geq a (.int .u64 2305843009213693951)) fun b=>xC (e.upd 9 b)
def d3R(e:a7):Reg:=xA (wB (e 0)) fun a=>xA (wE .sub a (.int .u64 2305843009213693951)) fun b=>xA (wB b) fun c=>xC (e.upd 0 c)
def d6x(e:a7):Reg:=xA (wB (e 0)) fun a=>xA (wB a) fun b=>xC (e.upd 2 b)
def R90:=an (ro d0P.eq_1)<|an (ro d4i.eq_1)<|an (ro d1Q.eq_1)<|an (ro d3R.eq_1)<|ro d6x.eq_1
def c90:CFn:=⟨(.seq (.region d0P) (.seq (.region d4i) (.seq (.seq (.region d1Q) (.cond (fun e=>e 9) (.region d3R) .skip)) (.seq (.region d6x) .ret)))),[.t 2]⟩
def p90:Pers:=⟨3,[9],13,[]⟩
def d0z(e:a7):Reg:=xA (wB (.int .u64 0)) fun a=>xC (e.upd 4 a)
def d1S(e:a7):Reg:=xA (wB (e 1)) fun a=>xA (wB (e 0)) fun b=>xA (wL b) fun c=>xA (wE .geq a c) fun d=>xC (e.upd 8 d)
def d1B(e:a7):Reg:=xA (wB (.int .u64 0)) fun a=>xC (e.upd 4 a)
def d7c(e:a7):Reg:=xA (wB (e 0)) fun a=>xA (wB (e 1)) fun b=>xA (wI 1 a b) fun c=>xA (wA none c) fun d=>xA (wB d) fun f=>xC (e.upd 4 f)
def R91:=an (ro d0z.eq_1)<|an (ro d1S.eq_1)<|an (ro d1B.eq_1)<|ro d7c.eq_1
def c91:CFn:=⟨(.seq (.region d0z) (.seq (.seq (.region d1S) (.cond (fun e=>e 8) (.seq (.region d1B) .ret) .skip)) (.seq (.region d7c) .ret))),[.t 4]⟩
def p91:Pers:=⟨5,[8],13,[]⟩
def c8w(e:a7):Reg:=xA (wB (.pointer none)) fun a=>xC (e.upd 2 a)
def d3I(e:a7):Reg:=xA (wB (e 0)) fun a=>xA (wE .lss a (.int .i64 0)) fun b=>xA (wB b) fun c=>xB c false (wB (e 0)) fun d=>xB c false (wE .gtr d (.int .i64 65536)) fun f=>xA (wK c (.bool true) f) fun g=>xC (e.upd 10 g)
def d6B(e:a7):Reg:=xA (wB (.pointer none)) fun a=>xC (e.upd 2 a)
def c9R(e:a7):Reg:=xA (wB (e 0)) fun a=>xA (wE .mul a (.int .i64 64)) fun b=>xA (.makeSlice 5 1 1 [(.int .u8 0)] b b) fun c=>xA (wB (e 0)) fun d=>xA (.makeSlice 206 1 1 [(.int .i8 0)] d d) fun f=>xA (wB (e 0)) fun g=>xA (.makeSlice 21 1 4 [(.int .i32 0)] g g) fun i=>xA (wM [(.slice none 0 0),(.slice none 0 0),(.slice none 0 0),(.int .i32 0),(.int .i64 0)] [(0,1,c),(1,1,f),(2,1,i),(3,1,(.int .i32 (-1)))]) fun j=>xA (wN 191 j) fun k=>xA (wB k) fun m=>xC (e.upd 3 m)
def c9L(e:a7):Reg:=xA (wB (e 0)) fun a=>xA (wE .sub a (.int .i64 1)) fun b=>xA (wB b) fun c=>xC (e.upd 4 c)
def d3U(e:a7):Reg:=xA (wB (e 4)) fun a=>xA (wE .geq a (.int .i64 0)) fun b=>xC (e.upd 23 b)
def a8v(e:a7)(a b c d:Value):Reg:=xA (wF 1 d (.int .i8 (-1))) fun _=>xA (wI 1 a b) fun f=>xD fun h17=>xA (wF 1 f c) fun _=>xC e
def a7Y(e:a7)(a b c:Value):Reg:=xA (wA none c) fun d=>xA (wB (e 4)) fun f=>xA (wB (e 3)) fun g=>xA (wJ g) fun i=>xA (wC 3 i) fun j=>xA (wA none j) fun k=>xA (wI 1 a b) fun m=>xD fun h15=>a8v e d f k m
def d2q(e:a7):Reg:=xA (wB (e 3)) fun a=>xA (wJ a) fun b=>xA (wC 1 b) fun c=>xA (wA none c) fun d=>xA (wB (e 4)) fun f=>xA (wB (e 3)) fun g=>xA (wJ g) fun i=>xA (wC 2 i) fun j=>a7Y e d f j
def d6l(e:a7):Reg:=xA (wB (e 3)) fun a=>xA (wB (e 4)) fun b=>xA (wO .i32 b) fun c=>xA (wJ a) fun d=>xA (wC 3 d) fun f=>xA (wF 1 f c) fun _=>xC e
def d6F(e:a7):Reg:=xA (wB (e 4)) fun a=>xA (wE .sub a (.int .i64 1)) fun b=>xA (wB b) fun c=>xC (e.upd 4 c)
def b0q:CC:=(.seq (.seq (.region d3U) (.cond (fun e=>e 23) .skip (.exit 0))) (.seq (.block 1 (.seq (.region d2q) (.region d6l))) (.region d6F)))
def d1M(e:a7):Reg:=xA (wB (e 3)) fun a=>xA (wB a) fun b=>xC (e.upd 2 b)
def R92:=an (ro c8w.eq_1)<|an (ro d3I.eq_1)<|an (ro d6B.eq_1)<|an (ro c9R.eq_1)<|an (ro c9L.eq_1)<|an (ro d3U.eq_1)<|an (ro4 a8v.eq_1)<|an (T4 a7Y.eq_1)<|an (ro d2q.eq_1)<|an (ro d6l.eq_1)<|an (ro d6F.eq_1)<|ro d1M.eq_1
def c92:CFn:=⟨(.seq (.region c8w) (.seq (.seq (.region d3I) (.cond (fun e=>e 10) (.seq (.region d6B) .ret) .skip)) (.seq (.region c9R) (.seq (.seq (.region c9L) (.block 0 (.loop b0q))) (.seq (.region d1M) .ret))))),[.t 2]⟩
def p92:Pers:=⟨5,[10,23],48,[]⟩
def d6U(e:a7):Reg:=xA (wN 182 (e 1)) fun a=>xA (wB (.pointer none)) fun b=>xC ((e.upd 3 a).upd 4 b)
def c8h(e:a7):Reg:=xA (wB (e 0)) fun a=>xA (.eqK .ptr false a (.pointer none)) fun b=>xC (e.upd 6 b)
def d0K(e:a7):Reg:=xA (wB (.pointer none)) fun a=>xC (e.upd 4 a)
def a8s(e:a7)(a b c:Value):Reg:=xE none none (wA (some 3) (e 3)) b<|xA (.makeSlice 21 1 4 [(.int .i32 0)] c c) fun d=>xA (wM [(.pointer none),(.int .u64 0),(.int .u64 0),(.int .u64 0),(.slice none 0 0)] [(0,1,a),(1,3,b),(4,1,d)]) fun f=>xA (wN 209 f) fun g=>xA (wB g) fun i=>xC (e.upd 4 i)
def d0H(e:a7):Reg:=xA (wB (e 0)) fun a=>xA (wA (some 3) (e 3)) fun b=>xA (wB (e 0)) fun c=>xD fun h3=>xA (wD 100 [c]) fun d=>xE none none (wA (some 3) (e 3)) b<|xD fun h4=>xA (wD 99 [d]) fun f=>a8s e a b f
def R93:=an (ro d6U.eq_1)<|an (ro c8h.eq_1)<|an (ro d0K.eq_1)<|an (T4 a8s.eq_1)<|ro d0H.eq_1
def c93:CFn:=⟨(.seq (.region d6U) (.seq (.seq (.region c8h) (.cond (fun e=>e 6) (.seq (.region d0K) .ret) .skip)) (.seq (.region d0H) .ret))),[.t 4]⟩
def p93:Pers:=⟨5,[6],15,[]⟩
def c7T(e:a7):Reg:=xA (wB (.pointer none)) fun a=>xC (e.upd 4 a)
def d5O(e:a7):Reg:=xA (wB (e 0)) fun a=>xA (wL a) fun b=>xA (wE .eql b (.int .i64 0)) fun c=>xA (wB c) fun d=>xB d false (wB (e 1)) fun f=>xB d false (wE .lss f (.int .i64 1)) fun g=>xA (wK d (.bool true) g) fun i=>xC (e.upd 11 i)
def c8N(e:a7):Reg:=xA (wB (.pointer none)) fun a=>xC (e.upd 4 a)
def d6d(e:a7):Reg:=xA (wB (e 0)) fun a=>xA (wB (e 1)) fun b=>xA (wB (e 0)) fun c=>xA (wL c) fun d=>xA (wB (e 1)) fun f=>xA (wE .mul d f) fun g=>xA (.makeSlice 2 1 8 [(.int .i64 0)] g g) fun i=>xA (wM [(.slice none 0 0),(.int .i64 0),(.slice none 0 0)] [(0,1,a),(1,1,b),(2,1,i)]) fun j=>xA (wN 211 j) fun k=>xA (wB k) fun m=>xC (e.upd 4 m)
def R94:=an (ro c7T.eq_1)<|an (ro d5O.eq_1)<|an (ro c8N.eq_1)<|ro d6d.eq_1
def c94:CFn:=⟨(.seq (.region c7T) (.seq (.seq (.region d5O) (.cond (fun e=>e 11) (.seq (.region c8N) .ret) .skip)) (.seq (.region d6d) .ret))),[.t 4]⟩
def p94:Pers:=⟨5,[11],21,[]⟩
def c9K(e:a7):Reg:=xA (wB (.int .i64 0)) fun a=>xC (e.upd 8 a)
def d2B(e:a7):Reg:=xA (wB (e 1)) fun a=>xA (wE .eql a (.int .i64 0)) fun b=>xA (wB b) fun c=>xB c true (wB (e 2)) fun d=>xB c true (wE .neq d (.int .u8 167)) fun f=>xA (wK c f (.bool false)) fun g=>xA (wB g) fun i=>xC (e.upd 9 i)
def d2r(e:a7):Reg:=xA (wB (.int .i64 5)) fun a=>xC (e.upd 8 a)
def d5l(e:a7):Reg:=xA (wB (e 1)) fun a=>xA (wE .eql a (.int .i64 1)) fun b=>xA (wB b) fun c=>xB c true (wB (e 2)) fun d=>xB c true (wE .neq d (.int .u8 1)) fun f=>xA (wK c f (.bool false)) fun g=>xA (wB g) fun i=>xC (e.upd 16 i)
def c9k(e:a7):Reg:=xA (wB (.int .i64 6)) fun a=>xC (e.upd 8 a)
def d2Q(e:a7):Reg:=xA (wB (e 1)) fun a=>xA (wE .eql a (.int .i64 2)) fun b=>xA (wB b) fun c=>xB c true (wB (e 2)) fun d=>xB c true (wE .neq d (.int .u8 0)) fun f=>xA (wK c f (.bool false)) fun g=>xA (wB g) fun i=>xC (e.upd 23 i)
def d1w(e:a7):Reg:=xA (wB (.int .i64 7)) fun a=>xC (e.upd 8 a)
def a9E(e:a7)(a b c:Value):Reg:=xB a true (wK b (.bool true) c) fun d=>xA (wK a d (.bool false)) fun f=>xA (wB f) fun g=>xC (e.upd 30 g)
def a8M(e:a7)(a b:Value):Reg:=xB a true (wE .neq b (.int .u8 3)) fun c=>xA (wK a c (.bool false)) fun d=>xA (wB d) fun f=>xB f true (wB (e 2)) fun g=>xB f true (wE .lss g (.int .u8 7)) fun i=>xB f true (wB i) fun j=>xB j false (wB (e 2)) fun k=>xB j false (wE .gtr k (.int .u8 71)) fun m=>a9E e f j m
def c8m(e:a7):Reg:=xA (wB (e 1)) fun a=>xA (wE .eql a (.int .i64 3)) fun b=>xA (wB b) fun c=>xB c true (wB (e 2)) fun d=>xB c true (wE .neq d (.int .u8 2)) fun f=>xA (wK c f (.bool false)) fun g=>xA (wB g) fun i=>xB i true (wB (e 2)) fun j=>a8M e i j
def c7L(e:a7):Reg:=xA (wB (.int .i64 7)) fun a=>xC (e.upd 8 a)
def a9o(e:a7)(a b:Value):Reg:=xB a true (wP .not b) fun c=>xA (wK a c (.bool false)) fun d=>xA (wB d) fun f=>xC (e.upd 49 f)
def d4L(e:a7):Reg:=xA (wB (e 1)) fun a=>xA (wE .eql a (.int .i64 4)) fun b=>xA (wB b) fun c=>xB c true (wB (e 2)) fun d=>xB c true (wB (e 0)) fun f=>xB c true (wI 1 f (.int .i64 3)) fun g=>xB c true (wA none g) fun i=>xB c true (wD 101 [d,i]) fun j=>a9o e c j
def b8O(e:a7):Reg:=xA (wB (.int .i64 8)) fun a=>xC (e.upd 8 a)
def c3x(e:a7):Reg:=xA (wB (e 1)) fun a=>xA (wE .eql a (.int .i64 5)) fun b=>xA (wB b) fun c=>xB c true (wB (e 2)) fun d=>xB c true (wO .i64 d) fun f=>xB c true (wB (e 3)) fun g=>xB c true (wE .geq f g) fun i=>xA (wK c i (.bool false)) fun j=>xA (wB j) fun k=>xC (e.upd 60 k)
def b7U(e:a7):Reg:=xA (wB (.int .i64 9)) fun a=>xC (e.upd 8 a)
def a4K(e:a7)(a b c:Value):Reg:=xB a true (wO .i64 c) fun d=>xB a true (wE .sub d (.int .i64 7)) fun f=>xB a true (wE .neq b f) fun g=>xA (wK a g (.bool false)) fun i=>xA (wB i) fun j=>xC (e.upd 69 j)
def b7j(e:a7):Reg:=xA (wB (e 1)) fun a=>xA (wE .eql a (.int .i64 10)) fun b=>xA (wB b) fun c=>xB c true (wB (e 2)) fun d=>xB c true (wO .i64 d) fun f=>xB c true (wB (e 0)) fun g=>xB c true (wI 1 g (.int .i64 3)) fun i=>xB c true (wA none i) fun j=>a4K e c f j
def c0E(e:a7):Reg:=xA (wB (.int .i64 10)) fun a=>xC (e.upd 8 a)
def c4h(e:a7):Reg:=xA (wB (.int .i64 0)) fun a=>xC (e.upd 8 a)
def R95:=an (ro c9K.eq_1)<|an (ro d2B.eq_1)<|an (ro d2r.eq_1)<|an (ro d5l.eq_1)<|an (ro c9k.eq_1)<|an (ro d2Q.eq_1)<|an (ro d1w.eq_1)<|an (T4 a9E.eq_1)<|an (Q7 a8M.eq_1)<|an (ro c8m.eq_1)<|an (ro c7L.eq_1)<|an (Q7 a9o.eq_1)<|an (ro d4L.eq_1)<|an (ro b8O.eq_1)<|an (ro c3x.eq_1)<|an (ro b7U.eq_1)<|an (T4 a4K.eq_1)<|an (ro b7j.eq_1)<|an (ro c0E.eq_1)<|ro c4h.eq_1
def c95:CFn:=⟨(.seq (.region c9K) (.seq (.block 0 (.seq (.region d2B) (.cond (fun e=>e 9) (.seq (.region d2r) .ret) (.seq (.region d5l) (.cond (fun e=>e 16) (.seq (.region c9k) .ret) (.seq (.region d2Q) (.cond (fun e=>e 23) (.seq (.region d1w) .ret) (.seq (.region c8m) (.cond (fun e=>e 30) (.seq (.region c7L) .ret) (.seq (.region d4L) (.cond (fun e=>e 49) (.seq (.region b8O) .ret) (.seq (.region c3x) (.cond (fun e=>e 60) (.seq (.region b7U) .ret) (.seq (.region b7j) (.cond (fun e=>e 69) (.seq (.region c0E) .ret) .skip))))))))))))))) (.seq (.region c4h) .ret))),[.t 8]⟩
def p95:Pers:=⟨9,[9,16,23,30,49,60,69],82,[]⟩
def c7V(e:a7):Reg:=xA (wB (.int .i64 0)) fun a=>xC (e.upd 2 a)
def c9G(e:a7):Reg:=xA (wB (e 0)) fun a=>xA (wE .mul a (.int .i64 69)) fun b=>xA (wB b) fun c=>xC (e.upd 2 c)
def R96:=an (ro c7V.eq_1)<|ro c9G.eq_1
def c96:CFn:=⟨(.seq (.region c7V) (.seq (.region c9G) .ret)),[.t 2]⟩
def p96:Pers:=⟨3,[],5,[]⟩
def d2n(e:a7):Reg:=xA (wB (.int .i64 0)) fun a=>xC (e.upd 2 a)
def d7l(e:a7):Reg:=xA (wB (e 0)) fun a=>xA (wD 99 [a]) fun b=>xA (wE .mul (.int .i64 4) b) fun c=>xA (wB c) fun d=>xC (e.upd 2 d)
def R97:=an (ro d2n.eq_1)<|ro d7l.eq_1
def c97:CFn:=⟨(.seq (.region d2n) (.seq (.region d7l) .ret)),[.t 2]⟩
def p97:Pers:=⟨3,[],6,[]⟩
def c9y(e:a7):Reg:=xA (wB (.int .i64 0)) fun a=>xC (e.upd 4 a)
def d5Y(e:a7):Reg:=xA (wB (e 0)) fun a=>xA (wE .mul (.int .i64 8) a) fun b=>xA (wB (e 1)) fun c=>xA (wE .mul b c) fun d=>xA (wB d) fun f=>xC (e.upd 4 f)
def R98:=an (ro c9y.eq_1)<|ro d5Y.eq_1
def c98:CFn:=⟨(.seq (.region c9y) (.seq (.region d5Y) .ret)),[.t 4]⟩
def p98:Pers:=⟨5,[],9,[]⟩
def c9S(e:a7):Reg:=xA (wB (.int .i64 0)) fun a=>xC (e.upd 2 a)
def c7M(e:a7):Reg:=xA (wB (e 0)) fun a=>xA (wE .mul (.int .i64 2) a) fun b=>xA (wE .add b (.int .i64 1)) fun c=>xA (wB c) fun d=>xC (e.upd 2 d)
def R99:=an (ro c9S.eq_1)<|ro c7M.eq_1
def c99:CFn:=⟨(.seq (.region c9S) (.seq (.region c7M) .ret)),[.t 2]⟩
def p99:Pers:=⟨3,[],6,[]⟩
def b8j(e:a7):Reg:=xA (wB (.int .i64 0)) fun a=>xC (e.upd 2 a)
def b8D(e:a7):Reg:=xA (wB (e 0)) fun a=>xA (.eqK .ptr false a (.pointer none)) fun b=>xC (e.upd 4 b)
def b9m(e:a7):Reg:=xA (wB (.int .i64 0)) fun a=>xC (e.upd 2 a)
def c4N(e:a7):Reg:=xA (wB (e 0)) fun a=>xA (wJ a) fun b=>xA (wC 1 b) fun c=>xA (wA none c) fun d=>xA (wL d) fun f=>xA (wB f) fun g=>xC (e.upd 2 g)
def e6O:=an (ro b8j.eq_1)<|an (ro b8D.eq_1)<|an (ro b9m.eq_1)<|ro c4N.eq_1
def d8N:CFn:=⟨(.seq (.region b8j) (.seq (.seq (.region b8D) (.cond (fun e=>e 4) (.seq (.region b9m) .ret) .skip)) (.seq (.region c4N) .ret))),[.t 2]⟩
def e1Q:Pers:=⟨3,[4],10,[]⟩
def b6i(e:a7):Reg:=xA (wB (.bool false)) fun a=>xC (e.upd 4 a)
def b9Y(e:a7):Reg:=xA (wB (e 0)) fun a=>xC (e.upd 5 a)
def c1A(e:a7):Reg:=xA (wE .eql (e 5) (.int .u8 1)) fun a=>xA (wB a) fun b=>xC (e.upd 6 b)
def c4I(e:a7):Reg:=xA (wE .eql (e 5) (.int .u8 2)) fun a=>xA (wB a) fun b=>xC (e.upd 6 b)
def b5A(e:a7):Reg:=xA (wB (e 1)) fun a=>xA (wE .geq a (.int .u8 7)) fun b=>xA (wB b) fun c=>xC (e.upd 4 c)
def c3L(e:a7):Reg:=xA (wE .eql (e 5) (.int .u8 3)) fun a=>xA (wB a) fun b=>xC (e.upd 11 b)
def c0n(e:a7):Reg:=xA (wB (e 1)) fun a=>xA (wE .eql a (.int .u8 2)) fun b=>xA (wB b) fun c=>xC (e.upd 4 c)
def b9y(e:a7):Reg:=xA (wE .eql (e 5) (.int .u8 4)) fun a=>xA (wB a) fun b=>xC (e.upd 15 b)
def c3b(e:a7):Reg:=xA (wB (e 1)) fun a=>xA (wE .eql a (.int .u8 3)) fun b=>xA (wB b) fun c=>xC (e.upd 4 c)
def c2S(e:a7):Reg:=xA (wB (.bool false)) fun a=>xC (e.upd 4 a)
def d4q:=an (ro b6i.eq_1)<|an (ro b9Y.eq_1)<|an (ro c1A.eq_1)<|an (ro c4I.eq_1)<|an (ro b5A.eq_1)<|an (ro c3L.eq_1)<|an (ro c0n.eq_1)<|an (ro b9y.eq_1)<|an (ro c3b.eq_1)<|ro c2S.eq_1
def b3o:CFn:=⟨(.seq (.region b6i) (.seq (.seq (.region b9Y) (.block 0 (.seq (.seq (.region c1A) (.cond (fun e=>e 6) .skip (.region c4I))) (.cond (fun e=>e 6) (.seq (.region b5A) .ret) (.seq (.region c3L) (.cond (fun e=>e 11) (.seq (.region c0n) .ret) (.seq (.region b9y) (.cond (fun e=>e 15) (.seq (.region c3b) .ret) .skip)))))))) (.seq (.region c2S) .ret))),[.t 4]⟩
def e5E:Pers:=⟨5,[5,6,11,15],19,[]⟩
def c2J(e:a7):Reg:=xA (wN 61 (e 1)) fun a=>xA (wB (.slice none 0 0)) fun b=>xC ((e.upd 3 a).upd 4 b)
def b7T(e:a7):Reg:=xA (wB (e 0)) fun a=>xA (wJ a) fun b=>xA (wC 9 b) fun c=>xA (wA none c) fun d=>xA (wC 1 (e 3)) fun f=>xA (wA none f) fun g=>xA (wI 1 d g) fun i=>xA (wA none i) fun j=>xA (wB j) fun k=>xC (e.upd 5 k)
def a6o(e:a7)(h3:Heap)(a b c d f:Value):Reg:=xE none (some h3) (wA none d) f<|xA (wI 9 c f) fun g=>xA (wC 1 g) fun i=>xA (wA none i) fun j=>xE none (some h3) (wA none i) j<|xD fun h17=>xA (wD 119 [b,j]) fun k=>xA (wB a) fun m=>xA (wB k) fun n=>xC ((e.upd 6 m).upd 7 n)
def a5H(e:a7)(h3:Heap)(a b:Value):Reg:=xA (wB (e 0)) fun c=>xA (wJ c) fun d=>xA (wC 4 d) fun f=>xA (wC 3 f) fun g=>xA (wA none g) fun i=>xE none (some h3) (wA none g) i<|xA (wC 1 (e 3)) fun j=>xA (wA none j) fun k=>a6o e h3 a b i j k
def b9V(e:a7):Reg:=xA (wB (e 0)) fun a=>xA (wJ a) fun b=>xA (wC 0 b) fun c=>xD fun h3=>xA (wD 26 [c]) fun d=>xA (wB (e 0)) fun f=>xA (wJ f) fun g=>xA (wC 0 g) fun i=>a5H e h3 d i
def c4j(e:a7):Reg:=xA (wC 0 (e 3)) fun a=>xA (wA none a) fun b=>xC (e.upd 39 b)
def b6n(e:a7):Reg:=xA (wE .eql (e 39) (.int .i64 1)) fun a=>xA (wB a) fun b=>xC (e.upd 40 b)
def a4D(e:a7)(a b c d f:Value):Reg:=xA (wD 120 [a,b,c,d,f]) fun g=>xA (wB g) fun i=>xA (wG i 0) fun j=>xA (wG i 1) fun k=>xA (wH 55 [(.int .i64 0),(.int .i64 0),(.int .i64 0)]) fun m=>xA (wF 3 m j) fun _=>xA (wB k) fun n=>xC ((e.upd 8 m).upd 9 n)
def b7u(e:a7):Reg:=xA (wB (e 5)) fun a=>xA (wB (e 6)) fun b=>xA (wB (e 7)) fun c=>xA (wC 3 (e 3)) fun d=>xA (wA none d) fun f=>xA (wC 2 (e 3)) fun g=>xA (wA none g) fun i=>xA (wO .i64 i) fun j=>a4D e a b c f j
def b5B(e:a7):Reg:=xA (wB (e 9)) fun a=>xA (wL a) fun b=>xA (wB (.int .i64 0)) fun c=>xC (((e.upd 54 a).upd 55 b).upd 56 c)
def c3X(e:a7):Reg:=xA (wE .lss (e 56) (e 55)) fun a=>xC (e.upd 57 a)
def b6O(e:a7):Reg:=xA (wI 4 (e 54) (e 56)) fun a=>xA (wA (some 4) a) fun b=>xA (wH 123 [(.int .i64 0),(.string ⟨#[]⟩),(.bool false),(.int .i64 0)]) fun c=>xA (wF 4 c b) fun _=>xC (e.upd 11 c)
def c3H(e:a7):Reg:=xA (wC 1 (e 3)) fun a=>xA (wA none a) fun b=>xA (wC 0 (e 11)) fun c=>xA (wF 1 c b) fun _=>xC e
def a2U(e:a7)(a b c:Value):Reg:=xA (.append 123 4 40 b c) fun d=>xA (wJ a) fun f=>xA (wC 10 f) fun g=>xD fun h10=>xA (wF 1 g d) fun _=>xC e
def b2U(e:a7):Reg:=xA (wB (e 0)) fun a=>xA (wB (e 0)) fun b=>xA (wJ b) fun c=>xA (wC 10 c) fun d=>xA (wA none d) fun f=>xA (wA (some 4) (e 11)) fun g=>xA (.buildSlice 123 1 [(.int .i64 0),(.string ⟨#[]⟩),(.bool false),(.int .i64 0)] [(0,4,g)]) fun i=>xD fun h7=>a2U e a f i
def b3q(e:a7):Reg:=xA (wE .add (e 56) (.int .i64 1)) fun a=>xA (wB a) fun b=>xC (e.upd 56 b)
def a1V:CC:=(.seq (.region c3X) (.seq (.cond (fun e=>e 57) .skip (.exit 1)) (.seq (.block 2 (.seq (.region b6O) (.seq (.region c3H) (.region b2U)))) (.region b3q))))
def b1B(e:a7):Reg:=xA (wC 0 (e 3)) fun a=>xA (wA none a) fun b=>xA (wA (some 3) (e 8)) fun c=>xA (wD 121 [b,c]) fun d=>xA (wB d) fun f=>xC (e.upd 4 f)
def b2j(e:a7):Reg:=xA (wE .eql (e 39) (.int .i64 2)) fun a=>xA (wB a) fun b=>xC (e.upd 78 b)
def a3g(e:a7)(a b c d f g i:Value):Reg:=xA (wA none i) fun j=>xA (wO .i64 j) fun k=>xD fun h10=>xA (wD 122 [c,d,f,g,k]) fun m=>xE none none (wA none a) b<|xD fun h11=>xA (wD 121 [b,m]) fun n=>xA (wB n) fun o=>xC (e.upd 4 o)
def b3f(e:a7):Reg:=xA (wC 0 (e 3)) fun a=>xA (wA none a) fun b=>xA (wB (e 5)) fun c=>xA (wB (e 6)) fun d=>xA (wB (e 7)) fun f=>xA (wC 3 (e 3)) fun g=>xA (wA none g) fun i=>xA (wC 2 (e 3)) fun j=>a3g e a b c d f i j
def b1I(e:a7):Reg:=xA (wE .eql (e 39) (.int .i64 3)) fun a=>xA (wB a) fun b=>xC (e.upd 92 b)
def b3c(e:a7):Reg:=xA (wC 1 (e 3)) fun a=>xA (wA none a) fun b=>xA (wB (e 5)) fun c=>xD fun h3=>xA (wD 28 [c]) fun d=>xE none none (wA none a) b<|xD fun h4=>xA (wD 123 [b,d]) fun f=>xA (wB f) fun g=>xC (e.upd 4 g)
def a2T(e:a7)(a b:Value):Reg:=xD fun h6=>xA (wD 124 [a,b]) fun c=>xA (wB c) fun d=>xC (e.upd 4 d)
def b3d(e:a7):Reg:=xA (wC 1 (e 3)) fun a=>xA (wA none a) fun b=>xA (wB (e 5)) fun c=>xA (wC 4 (e 3)) fun d=>xA (wA none d) fun f=>xD fun h5=>xA (wD 125 [c,f]) fun g=>xE none none (wA none a) b<|a2T e b g
def c6u:=an (ro c2J.eq_1)<|an (ro b7T.eq_1)<|an (ro6 a6o.eq_1)<|an (T4 a5H.eq_1)<|an (ro b9V.eq_1)<|an (ro c4j.eq_1)<|an (ro b6n.eq_1)<|an (ro5 a4D.eq_1)<|an (ro b7u.eq_1)<|an (ro b5B.eq_1)<|an (ro c3X.eq_1)<|an (ro b6O.eq_1)<|an (ro c3H.eq_1)<|an (T4 a2U.eq_1)<|an (ro b2U.eq_1)<|an (ro b3q.eq_1)<|an (ro b1B.eq_1)<|an (ro b2j.eq_1)<|an (ro7 a3g.eq_1)<|an (ro b3f.eq_1)<|an (ro b1I.eq_1)<|an (ro b3c.eq_1)<|an (Q7 a2T.eq_1)<|ro b3d.eq_1
def a9M:CFn:=⟨(.seq (.region c2J) (.seq (.region b7T) (.seq (.region b9V) (.seq (.seq (.region c4j) (.block 0 (.seq (.region b6n) (.cond (fun e=>e 40) (.seq (.region b7u) (.seq (.seq (.region b5B) (.block 1 (.loop a1V))) (.seq (.region b1B) .ret))) (.seq (.region b2j) (.cond (fun e=>e 78) (.seq (.region b3f) .ret) (.seq (.region b1I) (.cond (fun e=>e 92) (.seq (.region b3c) .ret) .skip)))))))) (.seq (.region b3d) .ret))))),[.t 4]⟩
def e4O:Pers:=⟨12,[39,40,54,55,56,57,78,92],106,[]⟩
def b7H(e:a7):Reg:=xA (wN 61 (e 1)) fun a=>xA (wB (.int .i64 0)) fun b=>xC ((e.upd 3 a).upd 4 b)
def a6F(e:a7)(a b c:Value):Reg:=xA (wI 9 b c) fun d=>xA (wC 7 d) fun f=>xA (wA none f) fun g=>xD fun h11=>xA (wD 74 [a,g]) fun i=>xA (wB i) fun j=>xC (e.upd 4 j)
def c3D(e:a7):Reg:=xA (wA (some 5) (e 3)) fun a=>xA (wB (e 0)) fun b=>xA (wJ b) fun c=>xA (wC 4 c) fun d=>xA (wC 3 d) fun f=>xA (wA none f) fun g=>xA (wC 1 (e 3)) fun i=>xA (wA none i) fun j=>a6F e a g j
def e5m:=an (ro b7H.eq_1)<|an (T4 a6F.eq_1)<|ro c3D.eq_1
def c8o:CFn:=⟨(.seq (.region b7H) (.seq (.region c3D) .ret)),[.t 4]⟩
def e1Y:Pers:=⟨5,[],17,[]⟩
def b7J(e:a7):Reg:=xA (wB (.int .i64 0)) fun a=>xC (e.upd 4 a)
def b9B(e:a7):Reg:=xA (wB (e 0)) fun a=>xA (wJ a) fun b=>xA (wC 2 b) fun c=>xA (wA none c) fun d=>xA (wP .not d) fun f=>xC (e.upd 9 f)
def c4D(e:a7):Reg:=xA (wB (.int .i64 0)) fun a=>xC (e.upd 4 a)
def a5b(e:a7)(h5:Heap)(a b:Value):Reg:=xA (wJ b) fun c=>xA (wC 0 c) fun d=>xA (wA none d) fun f=>xE none (some h5) (wA none d) f<|xA (wE .sub a f) fun g=>xA (.minmax true [g,(.int .i64 0)]) fun i=>xA (wB i) fun j=>xC (e.upd 4 j)
def b5K(e:a7):Reg:=xA (wB (e 0)) fun a=>xA (wJ a) fun b=>xA (wC 1 b) fun c=>xA (wA none c) fun d=>xA (wB (e 1)) fun f=>xD fun h5=>xA (wD 126 [d,f]) fun g=>xA (wB (e 0)) fun i=>a5b e h5 g i
def e5t:=an (ro b7J.eq_1)<|an (ro b9B.eq_1)<|an (ro c4D.eq_1)<|an (T4 a5b.eq_1)<|ro b5K.eq_1
def d4a:CFn:=⟨(.seq (.region b7J) (.seq (.seq (.region b9B) (.cond (fun e=>e 9) (.seq (.region c4D) .ret) .skip)) (.seq (.region b5K) .ret))),[.t 4]⟩
def e3v:Pers:=⟨5,[9],22,[]⟩
def c1b(e:a7):Reg:=xA (wH 55 [(.int .i64 0),(.int .i64 0),(.int .i64 0)]) fun a=>xA (wB (.slice none 0 0)) fun b=>xC ((e.upd 10 a).upd 11 b)
def a5Y(e:a7)(a b:Value):Reg:=xA (wH 55 [(.int .i64 0),(.int .i64 0),(.int .i64 0)]) fun c=>xA (wF 3 c a) fun _=>xA (wB b) fun d=>xC ((e.upd 12 c).upd 13 d)
def b8q(e:a7):Reg:=xA (wB (e 0)) fun a=>xA (wB (e 1)) fun b=>xA (wB (e 2)) fun c=>xA (wB (e 4)) fun d=>xA (wD 127 [a,b,c,d]) fun f=>xA (wB f) fun g=>xA (wG g 0) fun i=>xA (wG g 1) fun j=>a5Y e i j
def b8Z(e:a7):Reg:=xA (wB (e 13)) fun a=>xC (e.upd 25 a)
def b7P(e:a7):Reg:=xA (wB (e 0)) fun a=>xA (wC 0 (e 12)) fun b=>xA (wA none b) fun c=>xA (wD 128 [a,c]) fun d=>xC e
def b9h(e:a7):Reg:=xA (wA (some 3) (e 12)) fun a=>xA (wF 3 (e 10) a) fun _=>xA (wB (.slice none 0 0)) fun b=>xC (e.upd 11 b)
def b5C(e:a7):Reg:=xA (wB (e 0)) fun a=>xA (wJ a) fun b=>xA (wC 14 b) fun c=>xA (wA none c) fun d=>xA (wB (e 1)) fun f=>xA (wD 129 [d,f]) fun g=>xC e
def c2j(e:a7):Reg:=xA (wB (e 0)) fun a=>xA (wJ a) fun b=>xA (wC 15 b) fun c=>xA (wA none c) fun d=>xA (wB (e 3)) fun f=>xA (wB (e 4)) fun g=>xA (wD 130 [d,f,g]) fun i=>xC e
def c0X(e:a7):Reg:=xA (wB (e 0)) fun a=>xA (wB (e 1)) fun b=>xA (wB (e 3)) fun c=>xA (wD 131 [a,b,c]) fun d=>xA (wB d) fun f=>xA (wG f 0) fun g=>xA (wG f 1) fun i=>xA (wB g) fun j=>xA (wB i) fun k=>xC ((e.upd 14 j).upd 15 k)
def c4t(e:a7):Reg:=xA (wM [(.int .i64 0),(.int .i64 0),(.int .i64 0)] [(0,1,(.int .i64 2))]) fun a=>xA (wH 55 [(.int .i64 0),(.int .i64 0),(.int .i64 0)]) fun b=>xA (wF 3 b a) fun _=>xC (e.upd 16 b)
def c4v(e:a7):Reg:=xA (wB (e 14)) fun a=>xA (.eqK .ptr true a (.pointer none)) fun b=>xC (e.upd 53 b)
def b1c(e:a7):Reg:=xA (wB (e 14)) fun a=>xA (wB (e 0)) fun b=>xA (wJ b) fun c=>xA (wC 9 c) fun d=>xA (wA (some 4) d) fun f=>xA (wB (e 1)) fun g=>xA (wB (e 4)) fun i=>xA (wD 132 [a,f,g,i]) fun j=>xC (e.upd 61 j)
def b3s(e:a7):Reg:=xA (wC 0 (e 16)) fun a=>xA (wF 1 a (.int .i64 1)) fun _=>xC e
def a3r(e:a7)(a b c:Value):Reg:=xA (wB (e 4)) fun d=>xD fun h9=>xA (wD 133 [a,b,c,d]) fun f=>xA (wC 2 (e 16)) fun g=>xD fun h11=>xA (wF 1 g f) fun _=>xC e
def b1f(e:a7):Reg:=xA (wB (e 14)) fun a=>xA (wJ a) fun b=>xA (wA (some 4) b) fun c=>xA (wB (e 0)) fun d=>xA (wJ d) fun f=>xA (wC 9 f) fun g=>xA (wA (some 4) g) fun i=>xA (wB (e 1)) fun j=>a3r e c i j
def a3t(e:a7)(a b c:Value):Reg:=xD fun h8=>xA (wD 134 [a,b,c]) fun d=>xA (wC 1 (e 16)) fun f=>xD fun h10=>xA (wF 1 f d) fun _=>xC e
def b3D(e:a7):Reg:=xA (wB (e 14)) fun a=>xA (wJ a) fun b=>xA (wA (some 4) b) fun c=>xA (wB (e 0)) fun d=>xA (wJ d) fun f=>xA (wC 9 f) fun g=>xA (wA (some 4) g) fun i=>xA (wB (e 1)) fun j=>a3t e c i j
def a3a(e:a7)(h5:Heap)(a b:Value):Reg:=xD fun h7=>xA (wD 126 [a,b]) fun c=>xA (wB (e 0)) fun d=>xA (wJ d) fun f=>xA (wC 0 f) fun g=>xA (wC 0 g) fun i=>xA (wA none i) fun j=>xE none (some h7) (wA none i) j<|xE none (some h5) (wA none i) j<|xA (wE .leq c j) fun k=>xC (e.upd 97 k)
def b2B(e:a7):Reg:=xA (wB (e 0)) fun a=>xA (wJ a) fun b=>xA (wC 14 b) fun c=>xA (wA none c) fun d=>xA (wB (e 3)) fun f=>xD fun h5=>xA (wD 135 [d,f]) fun g=>xA (wB (e 4)) fun i=>a3a e h5 g i
def b1d(e:a7):Reg:=xA (wC 0 (e 16)) fun a=>xA (wF 1 a (.int .i64 1)) fun _=>xC e
def b1v(e:a7):Reg:=xA (wB (e 0)) fun a=>xA (wJ a) fun b=>xA (wC 14 b) fun c=>xA (wA none c) fun d=>xA (wB (e 3)) fun f=>xA (wB (e 4)) fun g=>xA (wD 136 [d,f,g]) fun i=>xC e
def b2L(e:a7):Reg:=xA (wB (e 0)) fun a=>xA (wJ a) fun b=>xA (wC 14 b) fun c=>xA (wA none c) fun d=>xA (wB (e 3)) fun f=>xA (wB (e 4)) fun g=>xA (wD 137 [d,f,g]) fun i=>xA (wC 2 (e 16)) fun j=>xA (wF 1 j i) fun _=>xC e
def a3h(e:a7)(a b:Value):Reg:=xA (wD 138 [a,b]) fun c=>xA (wC 1 (e 16)) fun d=>xD fun h15=>xA (wF 1 d c) fun _=>xC e
def a3y(e:a7)(a b c d:Value):Reg:=xA (wC 14 d) fun f=>xA (wA none f) fun g=>xA (wB (e 3)) fun i=>xD fun h11=>xA (wD 135 [g,i]) fun j=>xE none none (wA none b) c<|xA (wE .sub c j) fun k=>xD fun h13=>a3h e a k
def b2o(e:a7):Reg:=xA (wB (e 0)) fun a=>xA (wB (e 0)) fun b=>xA (wJ b) fun c=>xA (wC 0 c) fun d=>xA (wC 0 d) fun f=>xA (wA none f) fun g=>xA (wB (e 0)) fun i=>xA (wJ i) fun j=>a3y e a f g j
def b1w(e:a7):Reg:=xA (wB (e 0)) fun a=>xA (wC 0 (e 16)) fun b=>xA (wA none b) fun c=>xA (wD 128 [a,c]) fun d=>xC e
def a5d(e:a7):Reg:=xA (wA (some 3) (e 16)) fun a=>xA (wB (e 15)) fun b=>xA (wF 3 (e 10) a) fun _=>xA (wB b) fun c=>xC (e.upd 11 c)
def W3:=an (ro c1b.eq_1)<|an (Q7 a5Y.eq_1)<|an (ro b8q.eq_1)<|an (ro b8Z.eq_1)<|an (ro b7P.eq_1)<|an (ro b9h.eq_1)<|an (ro b5C.eq_1)<|an (ro c2j.eq_1)<|an (ro c0X.eq_1)<|an (ro c4t.eq_1)<|an (ro c4v.eq_1)<|an (ro b1c.eq_1)<|an (ro b3s.eq_1)<|an (T4 a3r.eq_1)<|an (ro b1f.eq_1)<|an (T4 a3t.eq_1)<|an (ro b3D.eq_1)<|an (T4 a3a.eq_1)<|an (ro b2B.eq_1)<|an (ro b1d.eq_1)<|an (ro b1v.eq_1)<|an (ro b2L.eq_1)<|an (Q7 a3h.eq_1)<|an (ro4 a3y.eq_1)<|an (ro b2o.eq_1)<|an (ro b1w.eq_1)<|ro a5d.eq_1
def R4:CFn:=⟨(.seq (.region c1b) (.seq (.seq (.region b8q) (.seq (.region b8Z) (.cond (fun e=>e 25) (.seq (.region b7P) (.seq (.region b9h) .ret)) .skip))) (.seq (.region b5C) (.seq (.region c2j) (.seq (.region c0X) (.seq (.region c4t) (.seq (.seq (.region c4v) (.cond (fun e=>e 53) (.seq (.seq (.region b1c) (.cond (fun e=>e 61) (.region b3s) (.region b1f))) (.region b3D)) (.seq (.seq (.region b2B) (.cond (fun e=>e 97) (.seq (.region b1d) (.region b1v)) (.region b2L))) (.region b2o)))) (.seq (.region b1w) (.seq (.region a5d) .ret))))))))),[.c 10 (some 3),.t 11]⟩
def e4k:Pers:=⟨17,[25,53,61,97],135,[]⟩
def c3p(e:a7):Reg:=xA (wN 55 (e 1)) fun a=>xA (wB (.slice none 0 0)) fun b=>xC ((e.upd 3 a).upd 4 b)
def c1u(e:a7):Reg:=xA (wB (e 0)) fun a=>xA (wE .or a (.int .i64 128)) fun b=>xA (wO .u8 b) fun c=>xA (wC 0 (e 3)) fun d=>xA (wA none d) fun f=>xA (wO .u8 f) fun g=>xA (.buildSlice 5 2 [(.int .u8 0)] [(0,1,c),(1,1,g)]) fun i=>xA (wB i) fun j=>xC (e.upd 5 j)
def a5y(e:a7)(h4:Heap)(a b c:Value):Reg:=xE none (some h4) (wA none b) c<|xA (wO .u64 c) fun d=>xD fun h8=>xA (wD 44 [a,(.int .i64 8),d]) fun f=>xD fun h9=>xA (wD 45 [(.int .u8 168),f]) fun g=>xA (wB g) fun i=>xC (e.upd 4 i)
def c0Z(e:a7):Reg:=xA (wB (e 5)) fun a=>xA (wC 1 (e 3)) fun b=>xA (wA none b) fun c=>xA (wO .u64 c) fun d=>xD fun h4=>xA (wD 44 [a,(.int .i64 8),d]) fun f=>xA (wC 2 (e 3)) fun g=>xA (wA none g) fun i=>a5y e h4 f g i
def d9t:=an (ro c3p.eq_1)<|an (ro c1u.eq_1)<|an (ro4 a5y.eq_1)<|ro c0Z.eq_1
def b4D:CFn:=⟨(.seq (.region c3p) (.seq (.region c1u) (.seq (.region c0Z) .ret))),[.t 4]⟩
def e3X:Pers:=⟨6,[],23,[]⟩
def b7Y(e:a7):Reg:=xA (wB (.int .i64 0)) fun a=>xC (e.upd 4 a)
def b9D(e:a7):Reg:=xA (wB (e 0)) fun a=>xA (wB (e 1)) fun b=>xA (wD 144 [a,b]) fun c=>xA (wB c) fun d=>xA (wG d 0) fun f=>xA (wG d 1) fun g=>xA (wB f) fun i=>xA (wB g) fun j=>xC ((e.upd 5 i).upd 6 j)
def b7a(e:a7):Reg:=xA (wB (e 6)) fun a=>xA (wP .not a) fun b=>xC (e.upd 14 b)
def c1y(e:a7):Reg:=xA (wB (e 0)) fun a=>xA (wE .lss a (.int .i64 0)) fun b=>xA (wD 145 [b]) fun c=>xA (wB c) fun d=>xC (e.upd 4 d)
def c4m(e:a7):Reg:=xA (wB (e 5)) fun a=>xA (wB a) fun b=>xC (e.upd 4 b)
def e5q:=an (ro b7Y.eq_1)<|an (ro b9D.eq_1)<|an (ro b7a.eq_1)<|an (ro c1y.eq_1)<|ro c4m.eq_1
def c9D:CFn:=⟨(.seq (.region b7Y) (.seq (.region b9D) (.seq (.seq (.region b7a) (.cond (fun e=>e 14) (.seq (.region c1y) .ret) .skip)) (.seq (.region c4m) .ret)))),[.t 4]⟩
def e2O:Pers:=⟨7,[14],19,[]⟩
def c0j(e:a7):Reg:=xA (wH 55 [(.int .i64 0),(.int .i64 0),(.int .i64 0)]) fun a=>xA (wB (.bool false)) fun b=>xC ((e.upd 8 a).upd 9 b)
def a6p(e:a7)(a b c:Value):Reg:=xB a false (wA none c) fun d=>xB a false (wE .gtr b d) fun f=>xA (wK a (.bool true) f) fun g=>xA (wB g) fun i=>xC (e.upd 10 i)
def b6L(e:a7):Reg:=xA (wB (e 3)) fun a=>xA (wE .lss a (.int .i64 1)) fun b=>xA (wB b) fun c=>xB c false (wB (e 3)) fun d=>xB c false (wB (e 0)) fun f=>xB c false (wJ f) fun g=>xB c false (wC 0 g) fun i=>xB c false (wC 2 i) fun j=>a6p e c d j
def b8W(e:a7):Reg:=xA (wM [(.int .i64 0),(.int .i64 0),(.int .i64 0)] [(0,1,(.int .i64 3))]) fun a=>xA (wF 3 (e 8) a) fun _=>xA (wB (.bool true)) fun b=>xC (e.upd 9 b)
def c1L(e:a7):Reg:=xA (wB (e 1)) fun a=>xA (wE .geq a (.int .i64 4611686018427387904)) fun b=>xA (wB b) fun c=>xC (e.upd 23 c)
def c4n(e:a7):Reg:=xA (wM [(.int .i64 0),(.int .i64 0),(.int .i64 0)] [(0,1,(.int .i64 2)),(2,1,(.int .i64 9223372036854775807))]) fun a=>xA (wF 3 (e 8) a) fun _=>xA (wB (.bool true)) fun b=>xC (e.upd 9 b)
def b6E(e:a7):Reg:=xA (wB (e 2)) fun a=>xA (wE .gtr a (.int .i64 0)) fun b=>xA (wB b) fun c=>xC (e.upd 27 c)
def b8o(e:a7):Reg:=xA (wB (e 2)) fun a=>xA (wM [(.int .i64 0),(.int .i64 0),(.int .i64 0)] [(0,1,(.int .i64 2)),(2,1,a)]) fun b=>xA (wF 3 (e 8) b) fun _=>xA (wB (.bool true)) fun c=>xC (e.upd 9 c)
def b5X(e:a7):Reg:=xA (wM [(.int .i64 0),(.int .i64 0),(.int .i64 0)] []) fun a=>xA (wF 3 (e 8) a) fun _=>xA (wB (.bool false)) fun b=>xC (e.upd 9 b)
def d7E:=an (ro c0j.eq_1)<|an (T4 a6p.eq_1)<|an (ro b6L.eq_1)<|an (ro b8W.eq_1)<|an (ro c1L.eq_1)<|an (ro c4n.eq_1)<|an (ro b6E.eq_1)<|an (ro b8o.eq_1)<|ro b5X.eq_1
def b3g:CFn:=⟨(.seq (.region c0j) (.seq (.block 0 (.seq (.region b6L) (.cond (fun e=>e 10) (.seq (.region b8W) .ret) (.seq (.region c1L) (.cond (fun e=>e 23) (.seq (.region c4n) .ret) (.seq (.region b6E) (.cond (fun e=>e 27) (.seq (.region b8o) .ret) .skip))))))) (.seq (.region b5X) .ret))),[.c 8 (some 3),.t 9]⟩
def e2v:Pers:=⟨10,[10,23,27],33,[]⟩
def c2w(e:a7):Reg:=xA (wB (e 1)) fun a=>xC (e.upd 4 a)
def b8A(e:a7):Reg:=xA (wE .eql (e 4) (.int .i64 1)) fun a=>xA (wB a) fun b=>xC (e.upd 14 b)
def c3N(e:a7):Reg:=xA (wB (e 0)) fun a=>xA (wJ a) fun b=>xA (wC 16 b) fun c=>xA (wC 0 c) fun d=>xA (wA none d) fun f=>xA (wE .add f (.int .i64 1)) fun g=>xA (wJ a) fun i=>xA (wC 16 i) fun j=>xA (wC 0 j) fun k=>xA (wF 1 k g) fun _=>xC e
def b7I(e:a7):Reg:=xA (wE .eql (e 4) (.int .i64 2)) fun a=>xA (wB a) fun b=>xC (e.upd 25 b)
def b7Q(e:a7):Reg:=xA (wB (e 0)) fun a=>xA (wJ a) fun b=>xA (wC 16 b) fun c=>xA (wC 1 c) fun d=>xA (wA none d) fun f=>xA (wE .add f (.int .i64 1)) fun g=>xA (wJ a) fun i=>xA (wC 16 i) fun j=>xA (wC 1 j) fun k=>xA (wF 1 k g) fun _=>xC e
def b8K(e:a7):Reg:=xA (wB (e 0)) fun a=>xA (wJ a) fun b=>xA (wC 16 b) fun c=>xA (wC 2 c) fun d=>xA (wA none d) fun f=>xA (wE .add f (.int .i64 1)) fun g=>xA (wJ a) fun i=>xA (wC 16 i) fun j=>xA (wC 2 j) fun k=>xA (wF 1 k g) fun _=>xC e
def e0Y:=an (ro c2w.eq_1)<|an (ro b8A.eq_1)<|an (ro c3N.eq_1)<|an (ro b7I.eq_1)<|an (ro b7Q.eq_1)<|ro b8K.eq_1
def c5N:CFn:=⟨(.seq (.region c2w) (.block 0 (.seq (.region b8A) (.cond (fun e=>e 14) (.region c3N) (.seq (.region b7I) (.cond (fun e=>e 25) (.region b7Q) (.region b8K))))))),[]⟩
def e1P:Pers:=⟨4,[4,14,25],36,[]⟩
def c3y(e:a7):Reg:=xA (wB (e 0)) fun a=>xA (.eqK .ptr true a (.pointer none)) fun b=>xC (e.upd 5 b)
def b7R(e:a7):Reg:=xA (wB (e 0)) fun a=>xA (wB (e 0)) fun b=>xA (wJ b) fun c=>xA (wC 6 c) fun d=>xA (wA none d) fun f=>xA (wB (e 1)) fun g=>xA (.minmax true [f,g]) fun i=>xA (wJ a) fun j=>xA (wC 6 j) fun k=>xA (wF 1 k i) fun _=>xC e
def e6z:=an (ro c3y.eq_1)<|ro b7R.eq_1
def d8d:CFn:=⟨(.seq (.region c3y) (.cond (fun e=>e 5) (.region b7R) .skip)),[]⟩
def e4P:Pers:=⟨4,[5],15,[]⟩
def a6X(e:a7)(a b:Value):Reg:=xB a false (wE .geq b (.int .i64 4611686018427387904)) fun c=>xA (wK a (.bool true) c) fun d=>xA (wB d) fun f=>xB f false (wB (e 1)) fun g=>xB f false (.lenStr g) fun i=>xB f false (wE .gtr i (.int .i64 64)) fun j=>xA (wK f (.bool true) j) fun k=>xC (e.upd 23 k)
def b8m(e:a7):Reg:=xA (wB (e 0)) fun a=>xA (.eqK .ptr false a (.pointer none)) fun b=>xA (wB b) fun c=>xB c false (wB (e 2)) fun d=>xB c false (wE .lss d (.int .i64 1)) fun f=>xA (wK c (.bool true) f) fun g=>xA (wB g) fun i=>xB i false (wB (e 2)) fun j=>a6X e i j
def b8u(e:a7):Reg:=xA (wB (e 0)) fun a=>xA (wJ a) fun b=>xA (wC 6 b) fun c=>xA (wA none c) fun d=>xA (wB (e 2)) fun f=>xA (wE .sub (.int .i64 4611686018427387904) f) fun g=>xA (wE .geq d g) fun i=>xC (e.upd 30 i)
def c3E(e:a7):Reg:=xA (wB (e 0)) fun a=>xA (wD 146 [a]) fun b=>xC e
def b5M(e:a7):Reg:=xA (wB (e 0)) fun a=>xA (wJ a) fun b=>xA (wC 6 b) fun c=>xA (wA none c) fun d=>xA (wB (e 2)) fun f=>xA (wE .add d f) fun g=>xA (wJ a) fun i=>xA (wC 6 i) fun j=>xA (wF 1 j g) fun _=>xC e
def c3w(e:a7):Reg:=xA (wB (e 0)) fun a=>xA (wJ a) fun b=>xA (wC 1 b) fun c=>xA (wA none c) fun d=>xA (wB (e 1)) fun f=>xA (wD 147 [d,f]) fun g=>xA (wB g) fun i=>xC (e.upd 6 i)
def c2N(e:a7):Reg:=xA (wB (e 6)) fun a=>xA (wE .lss a (.int .i64 0)) fun b=>xC (e.upd 48 b)
def b5x(e:a7):Reg:=xA (wB (.int .i64 0)) fun a=>xC (e.upd 7 a)
def c4p(e:a7):Reg:=xA (wB (e 0)) fun a=>xD fun h1=>xA (wD 148 [a]) fun b=>xA (wB (e 0)) fun c=>xA (wJ c) fun d=>xA (wC 2 d) fun f=>xA (wA none f) fun g=>xE none (some h1) (wA none f) g<|xA (wL g) fun i=>xA (wE .eql b i) fun j=>xC (e.upd 56 j)
def c3M(e:a7):Reg:=xA (wB (e 0)) fun a=>xA (wD 149 [a]) fun b=>xA (wB b) fun c=>xC (e.upd 7 c)
def b9X(e:a7):Reg:=xA (wB (e 0)) fun a=>xA (wJ a) fun b=>xA (wC 1 b) fun c=>xA (wA none c) fun d=>xA (wB (e 1)) fun f=>xA (wD 150 [d,f]) fun g=>xA (wB g) fun i=>xC (e.upd 6 i)
def a3E(e:a7)(a b c:Value):Reg:=xA (wA none c) fun d=>xA (wB (e 6)) fun f=>xA (wB (e 7)) fun g=>xA (wB (e 7)) fun i=>xA (wI 1 a b) fun j=>xD fun h13=>xA (wF 1 j g) fun _=>xA (wI 1 d f) fun k=>xD fun h15=>xA (wF 1 k i) fun _=>xC e
def a5j(e:a7):Reg:=xA (wB (e 0)) fun a=>xA (wJ a) fun b=>xA (wC 2 b) fun c=>xA (wA none c) fun d=>xA (wB (e 6)) fun f=>xA (wB (e 0)) fun g=>xA (wJ g) fun i=>xA (wC 3 i) fun j=>a3E e d f j
def a5K(e:a7):Reg:=xA (wB (e 0)) fun a=>xA (wD 148 [a]) fun b=>xA (wE .sub b (.int .i64 1)) fun c=>xA (wB c) fun d=>xC (e.upd 8 d)
def a2X(e:a7)(a b c d f:Value):Reg:=xA (wF 1 f c) fun _=>xA (wI 1 a b) fun g=>xD fun h17=>xA (wF 1 g d) fun _=>xC e
def a2Z(e:a7)(a b c:Value):Reg:=xA (wA none c) fun d=>xA (wB (e 6)) fun f=>xA (wB (e 6)) fun g=>xA (wO .i32 g) fun i=>xA (wB (e 8)) fun j=>xA (wO .i32 j) fun k=>xA (wI 1 a b) fun m=>xD fun h15=>a2X e d f i k m
def a4n(e:a7):Reg:=xA (wB (e 0)) fun a=>xA (wJ a) fun b=>xA (wC 4 b) fun c=>xA (wA none c) fun d=>xA (wB (e 8)) fun f=>xA (wB (e 0)) fun g=>xA (wJ g) fun i=>xA (wC 5 i) fun j=>a2Z e d f j
def a3d(e:a7)(a b c d:Value):Reg:=xA (wE .add c d) fun f=>xA (wI 1 a b) fun g=>xA (wF 1 g f) fun _=>xC e
def a5O(e:a7):Reg:=xA (wB (e 0)) fun a=>xA (wJ a) fun b=>xA (wC 2 b) fun c=>xA (wA none c) fun d=>xA (wB (e 6)) fun f=>xA (wI 1 d f) fun g=>xA (wA none g) fun i=>xA (wB (e 2)) fun j=>a3d e d f i j
def a6C(e:a7):Reg:=xA (wB (e 0)) fun a=>xA (wB (e 6)) fun b=>xA (wD 151 [a,b]) fun c=>xC e
def c6T:=an (Q7 a6X.eq_1)<|an (ro b8m.eq_1)<|an (ro b8u.eq_1)<|an (ro c3E.eq_1)<|an (ro b5M.eq_1)<|an (ro c3w.eq_1)<|an (ro c2N.eq_1)<|an (ro b5x.eq_1)<|an (ro c4p.eq_1)<|an (ro c3M.eq_1)<|an (ro b9X.eq_1)<|an (T4 a3E.eq_1)<|an (ro a5j.eq_1)<|an (ro a5K.eq_1)<|an (ro5 a2X.eq_1)<|an (T4 a2Z.eq_1)<|an (ro a4n.eq_1)<|an (ro4 a3d.eq_1)<|an (ro a5O.eq_1)<|ro a6C.eq_1
def b0X:CFn:=⟨(.seq (.seq (.region b8m) (.cond (fun e=>e 23) .ret .skip)) (.seq (.seq (.region b8u) (.cond (fun e=>e 30) (.region c3E) .skip)) (.seq (.region b5M) (.seq (.region c3w) (.seq (.seq (.region c2N) (.cond (fun e=>e 48) (.seq (.region b5x) (.seq (.seq (.region c4p) (.cond (fun e=>e 56) (.region c3M) .skip)) (.seq (.region b9X) (.seq (.region a5j) (.seq (.region a5K) (.region a4n)))))) .skip)) (.seq (.region a5O) (.region a6C))))))),[]⟩
def e6c:Pers:=⟨9,[23,30,48,56],111,[]⟩
def b8S(e:a7):Reg:=xA (wB (.pointer none)) fun a=>xA (wB (.slice none 0 0)) fun b=>xC ((e.upd 6 a).upd 7 b)
def b6T(e:a7):Reg:=xA (wB (e 0)) fun a=>xA (wJ a) fun b=>xA (wC 13 b) fun c=>xA (wA none c) fun d=>xA (wB (e 2)) fun f=>xA (wD 139 [d,f]) fun g=>xA (wB g) fun i=>xC (e.upd 8 i)
def c0B(e:a7):Reg:=xA (wB (e 8)) fun a=>xA (.eqK .ptr true a (.pointer none)) fun b=>xC (e.upd 22 b)
def b7t(e:a7):Reg:=xA (wB (e 8)) fun a=>xA (wB a) fun b=>xA (wB (.slice none 0 0)) fun c=>xC ((e.upd 6 b).upd 7 c)
def c1n(e:a7):Reg:=xA (wB (.slice none 0 0)) fun a=>xC (e.upd 9 a)
def b9A(e:a7):Reg:=xA (wB (e 0)) fun a=>xA (wJ a) fun b=>xA (wC 13 b) fun c=>xA (wA none c) fun d=>xA (wD 141 [d]) fun f=>xC (e.upd 28 f)
def a6j(e:a7)(a b:Value):Reg:=xA (wB (e 1)) fun c=>xD fun h9=>xA (wD 140 [a,b,c]) fun d=>xA (wB d) fun f=>xA (wG f 0) fun g=>xA (wG f 1) fun i=>xA (wB g) fun j=>xA (wB i) fun k=>xC ((e.upd 10 j).upd 11 k)
def c2O(e:a7):Reg:=xA (wB (e 0)) fun a=>xA (wJ a) fun b=>xA (wC 13 b) fun c=>xA (wA none c) fun d=>xA (wB (e 0)) fun f=>xA (wJ f) fun g=>xA (wC 9 g) fun i=>xA (wA (some 4) i) fun j=>a6j e d j
def c3O(e:a7):Reg:=xA (wB (e 11)) fun a=>xA (wP .not a) fun b=>xC (e.upd 43 b)
def c3I(e:a7):Reg:=xA (wB (e 0)) fun a=>xA (wB (e 2)) fun b=>xA (wD 152 [a,b]) fun c=>xA (wB c) fun d=>xA (wG d 0) fun f=>xA (wG d 1) fun g=>xA (wB f) fun i=>xA (wB g) fun j=>xC ((e.upd 10 i).upd 11 j)
def c0q(e:a7):Reg:=xA (wB (e 11)) fun a=>xA (wP .not a) fun b=>xC (e.upd 51 b)
def b2A(e:a7):Reg:=xA (wB (.pointer none)) fun a=>xA (wB (.slice none 0 0)) fun b=>xC ((e.upd 6 a).upd 7 b)
def a0z(e:a7)(a b:Value):Reg:=xA (wG a 1) fun c=>xA (wH 250 [(.int .i64 0),(.int .i64 0),(.int .i64 0),(.int .i64 0)]) fun d=>xA (wF 4 d b) fun _=>xA (wB c) fun f=>xC ((e.upd 12 d).upd 13 f)
def b3M(e:a7):Reg:=xA (wB (e 0)) fun a=>xA (wJ a) fun b=>xA (wC 13 b) fun c=>xA (wA none c) fun d=>xA (wB (e 10)) fun f=>xA (wD 153 [d,f]) fun g=>xA (wB g) fun i=>xA (wG i 0) fun j=>a0z e i j
def a3v(e:a7)(a b c d f:Value):Reg:=xA (wC 9 f) fun g=>xA (wA (some 4) g) fun i=>xA (wB (e 1)) fun j=>xD fun h11=>xA (wD 154 [d,i,j]) fun k=>xE none none (wA none a) b<|xD fun h12=>xA (wD 136 [b,c,k]) fun m=>xC e
def a6f(e:a7):Reg:=xA (wB (e 0)) fun a=>xA (wJ a) fun b=>xA (wC 14 b) fun c=>xA (wA none c) fun d=>xA (wB (e 10)) fun f=>xA (wA (some 4) (e 12)) fun g=>xA (wB (e 0)) fun i=>xA (wJ i) fun j=>a3v e c d f g j
def a7a(e:a7):Reg:=xA (wB (e 9)) fun a=>xA (wB (e 10)) fun b=>xA (wB (e 1)) fun c=>xA (wM [(.int .i64 0),(.string ⟨#[]⟩),(.bool false),(.int .i64 0)] [(1,1,b),(3,1,c)]) fun d=>xA (.buildSlice 123 1 [(.int .i64 0),(.string ⟨#[]⟩),(.bool false),(.int .i64 0)] [(0,4,d)]) fun f=>xA (.append 123 4 40 a f) fun g=>xA (wB g) fun i=>xC (e.upd 9 i)
def a3j(e:a7)(a b c d:Value):Reg:=xE none none (wA none a) b<|xD fun h13=>xA (wD 155 [b,c,d]) fun f=>xA (wB f) fun g=>xC (e.upd 14 g)
def a3F(e:a7)(a b c d f:Value):Reg:=xA (wC 14 f) fun g=>xA (wA none g) fun i=>xA (wB (e 2)) fun j=>xD fun h11=>xA (wD 135 [i,j]) fun k=>xE none none (wA none a) b<|xD fun h12=>xA (wD 142 [d,k]) fun m=>a3j e a b c m
def a4Y(e:a7):Reg:=xA (wB (e 0)) fun a=>xA (wJ a) fun b=>xA (wC 13 b) fun c=>xA (wA none c) fun d=>xA (wB (e 2)) fun f=>xA (wB (e 1)) fun g=>xA (wB (e 0)) fun i=>xA (wJ i) fun j=>a3F e c d f g j
def a5l(e:a7):Reg:=xA (wB (e 14)) fun a=>xA (wB (e 9)) fun b=>xA (wB (e 2)) fun c=>xA (wB (e 1)) fun d=>xA (wM [(.int .i64 0),(.string ⟨#[]⟩),(.bool false),(.int .i64 0)] [(1,1,c),(2,1,(.bool true)),(3,1,d)]) fun f=>xA (.buildSlice 123 1 [(.int .i64 0),(.string ⟨#[]⟩),(.bool false),(.int .i64 0)] [(0,4,f)]) fun g=>xA (.append 123 4 40 b g) fun i=>xA (wB a) fun j=>xA (wB i) fun k=>xC ((e.upd 6 j).upd 7 k)
def a0p:=an (ro b8S.eq_1)<|an (ro b6T.eq_1)<|an (ro c0B.eq_1)<|an (ro b7t.eq_1)<|an (ro c1n.eq_1)<|an (ro b9A.eq_1)<|an (Q7 a6j.eq_1)<|an (ro c2O.eq_1)<|an (ro c3O.eq_1)<|an (ro c3I.eq_1)<|an (ro c0q.eq_1)<|an (ro b2A.eq_1)<|an (Q7 a0z.eq_1)<|an (ro b3M.eq_1)<|an (ro5 a3v.eq_1)<|an (ro a6f.eq_1)<|an (ro a7a.eq_1)<|an (ro4 a3j.eq_1)<|an (ro5 a3F.eq_1)<|an (ro a4Y.eq_1)<|ro a5l.eq_1
def Y2:CFn:=⟨(.seq (.region b8S) (.seq (.seq (.region b6T) (.seq (.region c0B) (.cond (fun e=>e 22) (.seq (.region b7t) .ret) .skip))) (.seq (.region c1n) (.seq (.seq (.region b9A) (.cond (fun e=>e 28) (.seq (.region c2O) (.seq (.seq (.region c3O) (.cond (fun e=>e 43) (.region c3I) .skip)) (.seq (.seq (.region c0q) (.cond (fun e=>e 51) (.seq (.region b2A) .ret) .skip)) (.seq (.region b3M) (.seq (.region a6f) (.region a7a)))))) .skip)) (.seq (.region a4Y) (.seq (.region a5l) .ret)))))),[.t 6,.t 7]⟩
def e1H:Pers:=⟨15,[22,28,43,51],101,[]⟩
def c3m(e:a7):Reg:=xA (wN 126 (e 1)) fun a=>xA (wB (.bool false)) fun b=>xC ((e.upd 5 a).upd 8 b)
def a5m(e:a7)(a b c d:Value):Reg:=xB a false (wB (e 2)) fun f=>xD fun h9=>xB a false (wD 134 [c,d,f]) fun g=>xB a false (wE .gtr b g) fun i=>xA (wK a (.bool true) i) fun j=>xC (e.upd 20 j)
def b6V(e:a7):Reg:=xA (wB (e 3)) fun a=>xA (wE .lss a (.int .i64 1)) fun b=>xA (wB b) fun c=>xB c false (wB (e 3)) fun d=>xB c false (wB (e 0)) fun f=>xB c false (wJ f) fun g=>xB c false (wA (some 4) g) fun i=>xB c false (wA (some 4) (e 5)) fun j=>a5m e c d i j
def c1s(e:a7):Reg:=xA (wB (.bool false)) fun a=>xC (e.upd 8 a)
def a5a(e:a7)(a b c:Value):Reg:=xA (wC 0 (e 5)) fun d=>xA (wA none d) fun f=>xA (wE .mul c f) fun g=>xA (wE .add b g) fun i=>xA (wJ a) fun j=>xA (wC 0 j) fun k=>xD fun h14=>xA (wF 1 k i) fun _=>xC e
def c2u(e:a7):Reg:=xA (wB (e 0)) fun a=>xA (wB (e 0)) fun b=>xA (wJ b) fun c=>xA (wC 0 c) fun d=>xA (wA none d) fun f=>xA (wB (e 2)) fun g=>xA (.minmax true [f,g]) fun i=>xA (wB (e 3)) fun j=>a5a e a i j
def c4e(e:a7):Reg:=xA (wB (e 0)) fun a=>xA (wB (e 0)) fun b=>xA (wJ b) fun c=>xA (wC 3 c) fun d=>xA (wA none d) fun f=>xA (wB (e 3)) fun g=>xA (wD 126 [f,g]) fun i=>xA (wJ a) fun j=>xA (wC 3 j) fun k=>xA (wF 1 k i) fun _=>xC e
def b9o(e:a7):Reg:=xA (wB (.bool true)) fun a=>xC (e.upd 8 a)
def d7I:=an (ro c3m.eq_1)<|an (ro4 a5m.eq_1)<|an (ro b6V.eq_1)<|an (ro c1s.eq_1)<|an (T4 a5a.eq_1)<|an (ro c2u.eq_1)<|an (ro c4e.eq_1)<|ro b9o.eq_1
def b4F:CFn:=⟨(.seq (.region c3m) (.seq (.seq (.region b6V) (.cond (fun e=>e 20) (.seq (.region c1s) .ret) .skip)) (.seq (.region c2u) (.seq (.region c4e) (.seq (.region b9o) .ret))))),[.t 8]⟩
def e2q:Pers:=⟨9,[20],44,[]⟩
def b8t(e:a7):Reg:=xA (wN 250 (e 0)) fun a=>xA (wN 126 (e 1)) fun b=>xA (wB (.int .i64 0)) fun c=>xC (((e.upd 4 a).upd 5 b).upd 8 c)
def a4m(e:a7)(a b c d:Value):Reg:=xA (wE .sub c d) fun f=>xA (wC 0 (e 5)) fun g=>xA (wA none g) fun i=>xA (wE .mul f i) fun j=>xA (wE .add b j) fun k=>xA (wE .sub a k) fun m=>xA (.minmax true [m,(.int .i64 0)]) fun n=>xA (wB n) fun o=>xC (e.upd 9 o)
def c2E(e:a7):Reg:=xA (wC 0 (e 4)) fun a=>xA (wA none a) fun b=>xA (wB (e 2)) fun c=>xA (.minmax true [b,c]) fun d=>xA (wB (e 2)) fun f=>xA (wC 2 (e 5)) fun g=>xA (wA none g) fun i=>xA (wB (e 3)) fun j=>a4m e d f i j
def a5G(e:a7)(a:Value)(h9 h11:Heap)(b c:Value):Reg:=xB a true (wA none c) fun d=>xE (some (a,true)) (some h11) (.load none c) d<|xE (some (a,true)) (some h9) (.load none c) d<|xB a true (wE .gtr b d) fun f=>xA (wK a f (.bool false)) fun g=>xC (e.upd 40 g)
def a5s(e:a7)(a b:Value):Reg:=xB a true (wC 3 (e 4)) fun c=>xB a true (wA none c) fun d=>xD fun h9=>xB a true (wD 126 [b,d]) fun f=>xB a true (wB (e 3)) fun g=>xD fun h11=>xB a true (wD 126 [f,g]) fun i=>xB a true (wC 3 (e 5)) fun j=>a5G e a h9 h11 i j
def b6H(e:a7):Reg:=xA (wA (some 4) (e 4)) fun a=>xA (wA (some 4) (e 5)) fun b=>xA (wB (e 2)) fun c=>xD fun h3=>xA (wD 156 [a,b,c]) fun d=>xA (wB d) fun f=>xB f true (wC 2 (e 4)) fun g=>xB f true (wA none g) fun i=>a5s e f i
def c1z(e:a7):Reg:=xA (wB (e 9)) fun a=>xA (wC 1 (e 4)) fun b=>xA (wA none b) fun c=>xA (wC 1 (e 5)) fun d=>xA (wA none d) fun f=>xA (wE .add c f) fun g=>xA (wB (e 2)) fun i=>xA (wE .sub g i) fun j=>xA (.minmax true [a,j]) fun k=>xA (wB k) fun m=>xC (e.upd 9 m)
def c3h(e:a7):Reg:=xA (wB (e 9)) fun a=>xA (wB a) fun b=>xC (e.upd 8 b)
def d8C:=an (ro b8t.eq_1)<|an (ro4 a4m.eq_1)<|an (ro c2E.eq_1)<|an (ro5 a5G.eq_1)<|an (Q7 a5s.eq_1)<|an (ro b6H.eq_1)<|an (ro c1z.eq_1)<|ro c3h.eq_1
def b5g:CFn:=⟨(.seq (.region b8t) (.seq (.region c2E) (.seq (.seq (.region b6H) (.cond (fun e=>e 40) (.region c1z) .skip)) (.seq (.region c3h) .ret)))),[.t 8]⟩
def e2h:Pers:=⟨10,[40],51,[]⟩
def c1G(e:a7):Reg:=xA (wN 250 (e 0)) fun a=>xA (wN 126 (e 1)) fun b=>xA (wB (.int .i64 0)) fun c=>xC (((e.upd 3 a).upd 4 b).upd 6 c)
def b6b(e:a7):Reg:=xA (wC 2 (e 4)) fun a=>xA (wA none a) fun b=>xA (wB b) fun c=>xC (e.upd 7 c)
def b9d(e:a7):Reg:=xA (wC 0 (e 3)) fun a=>xA (wA none a) fun b=>xA (wB (e 2)) fun c=>xA (wE .sub b c) fun d=>xA (wB d) fun f=>xC (e.upd 8 f)
def c0H(e:a7):Reg:=xA (wB (e 8)) fun a=>xA (wE .gtr a (.int .i64 0)) fun b=>xC (e.upd 16 b)
def a6Z(e:a7)(a b:Value):Reg:=xA (wA none b) fun c=>xA (wE .quo a c) fun d=>xA (.minmax true [d,(.int .i64 0)]) fun f=>xA (wB f) fun g=>xC (e.upd 7 g)
def b7k(e:a7):Reg:=xA (wC 2 (e 4)) fun a=>xA (wA none a) fun b=>xA (wC 0 (e 4)) fun c=>xA (wA none c) fun d=>xA (wE .mul b d) fun f=>xA (wB (e 8)) fun g=>xA (wE .sub f g) fun i=>xA (wC 0 (e 4)) fun j=>a6Z e i j
def c4B(e:a7):Reg:=xA (wC 2 (e 4)) fun a=>xA (wA none a) fun b=>xA (wC 0 (e 4)) fun c=>xA (wA none c) fun d=>xA (wE .mul b d) fun f=>xA (wB (e 8)) fun g=>xA (wE .lss f g) fun i=>xC (e.upd 34 i)
def b9F(e:a7):Reg:=xA (wB (.int .i64 0)) fun a=>xC (e.upd 7 a)
def c1X(e:a7):Reg:=xA (wA (some 4) (e 3)) fun a=>xA (wA (some 4) (e 4)) fun b=>xA (wB (e 2)) fun c=>xA (wD 156 [a,b,c]) fun d=>xC (e.upd 38 d)
def a4C(e:a7)(a b c d f:Value):Reg:=xA (wD 126 [d,f]) fun g=>xE none none (wA none b) c<|xA (wE .sub c g) fun i=>xA (.minmax true [i,(.int .i64 0)]) fun j=>xA (.minmax false [a,j]) fun k=>xA (wB k) fun m=>xC (e.upd 7 m)
def b0o(e:a7):Reg:=xA (wB (e 7)) fun a=>xA (wC 3 (e 4)) fun b=>xA (wA none b) fun c=>xA (wC 2 (e 3)) fun d=>xA (wA none d) fun f=>xA (wC 3 (e 3)) fun g=>xA (wA none g) fun i=>xD fun h7=>a4C e a b c f i
def b0z(e:a7):Reg:=xA (wB (e 7)) fun a=>xA (wB a) fun b=>xC (e.upd 6 b)
def c9V:=an (ro c1G.eq_1)<|an (ro b6b.eq_1)<|an (ro b9d.eq_1)<|an (ro c0H.eq_1)<|an (Q7 a6Z.eq_1)<|an (ro b7k.eq_1)<|an (ro c4B.eq_1)<|an (ro b9F.eq_1)<|an (ro c1X.eq_1)<|an (ro5 a4C.eq_1)<|an (ro b0o.eq_1)<|ro b0z.eq_1
def b2l:CFn:=⟨(.seq (.region c1G) (.seq (.region b6b) (.seq (.seq (.region b9d) (.seq (.region c0H) (.cond (fun e=>e 16) (.seq (.region b7k) (.seq (.region c4B) (.cond (fun e=>e 34) (.region b9F) .skip))) .skip))) (.seq (.seq (.region c1X) (.cond (fun e=>e 38) (.region b0o) .skip)) (.seq (.region b0z) .ret))))),[.t 6]⟩
def e1Z:Pers:=⟨9,[16,34,38],51,[]⟩
def c4P(e:a7):Reg:=xA (wB (.int .i64 0)) fun a=>xC (e.upd 4 a)
def b5D(e:a7):Reg:=xA (wB (e 0)) fun a=>xA (.eqK .ptr false a (.pointer none)) fun b=>xC (e.upd 6 b)
def b7M(e:a7):Reg:=xA (wB (.int .i64 0)) fun a=>xC (e.upd 4 a)
def a6T(e:a7)(a b:Value)(h7:Heap)(c d f:Value):Reg:=xA (wC 2 f) fun g=>xA (wA none g) fun i=>xE none (some h7) (wA none g) i<|xA (wE .rem d i) fun j=>xD fun h17=>xA (wD 157 [a,b,c,j]) fun k=>xA (wB k) fun m=>xC (e.upd 4 m)
def a7g(e:a7)(a b c d:Value)(h7:Heap):Reg:=xA (wD 158 [c,d]) fun f=>xA (wB (e 0)) fun g=>xA (wJ g) fun i=>xA (wC 6 i) fun j=>xA (wA none j) fun k=>xE none (some h7) (wA none j) k<|xA (wB (e 0)) fun m=>xA (wJ m) fun n=>a6T e a b h7 f k n
def c3e(e:a7):Reg:=xA (wB (e 0)) fun a=>xA (wB (e 1)) fun b=>xA (wB (e 0)) fun c=>xA (wB (e 0)) fun d=>xA (wJ d) fun f=>xA (wC 6 f) fun g=>xA (wA none g) fun i=>xD fun h7=>a7g e a b c i h7
def e3D:=an (ro c4P.eq_1)<|an (ro b5D.eq_1)<|an (ro b7M.eq_1)<|an (ro6 a6T.eq_1)<|an (ro5 a7g.eq_1)<|ro c3e.eq_1
def c7Z:CFn:=⟨(.seq (.region c4P) (.seq (.seq (.region b5D) (.cond (fun e=>e 6) (.seq (.region b7M) .ret) .skip)) (.seq (.region c3e) .ret))),[.t 4]⟩
def e4v:Pers:=⟨5,[6],25,[]⟩
def c2t(e:a7):Reg:=xA (wB (e 0)) fun a=>xA (.eqK .ptr false a (.pointer none)) fun b=>xC (e.upd 9 b)
def b6N(e:a7):Reg:=xA (wB (e 0)) fun a=>xA (wB (e 0)) fun b=>xA (wJ b) fun c=>xA (wC 6 c) fun d=>xA (wA none d) fun f=>xA (wD 158 [a,f]) fun g=>xA (wB g) fun i=>xC (e.upd 6 i)
def b9K(e:a7):Reg:=xA (wB (e 6)) fun a=>xA (wB (e 0)) fun b=>xA (wJ b) fun c=>xA (wC 0 c) fun d=>xA (wA none d) fun f=>xA (wL f) fun g=>xA (wE .rem a g) fun i=>xA (wB i) fun j=>xC (e.upd 7 j)
def c3i(e:a7):Reg:=xA (wB (e 0)) fun a=>xA (wJ a) fun b=>xA (wC 1 b) fun c=>xA (wA none c) fun d=>xA (wB (e 7)) fun f=>xA (wI 1 d f) fun g=>xA (wA none g) fun i=>xA (wB (e 6)) fun j=>xA (wE .add j (.int .i64 1)) fun k=>xA (wE .neq i k) fun m=>xC (e.upd 32 m)
def c1p(e:a7):Reg:=xA (wB (e 0)) fun a=>xA (wJ a) fun b=>xA (wC 0 b) fun c=>xA (wA none c) fun d=>xA (wB (e 7)) fun f=>xA (wI 1 d f) fun g=>xA (wA none g) fun i=>xA (wD 159 [i]) fun j=>xC e
def b8v(e:a7):Reg:=xA (wB (e 0)) fun a=>xA (wJ a) fun b=>xA (wC 1 b) fun c=>xA (wA none c) fun d=>xA (wB (e 7)) fun f=>xA (wB (e 6)) fun g=>xA (wE .add g (.int .i64 1)) fun i=>xA (wI 1 d f) fun j=>xA (wF 1 j i) fun _=>xC e
def c4H(e:a7):Reg:=xA (wB (e 0)) fun a=>xA (wJ a) fun b=>xA (wC 0 b) fun c=>xA (wA none c) fun d=>xA (wB (e 7)) fun f=>xA (wI 1 d f) fun g=>xA (wA none g) fun i=>xA (wB (e 1)) fun j=>xA (wB (e 2)) fun k=>xA (wD 160 [i,j,k]) fun m=>xC e
def c7q:=an (ro c2t.eq_1)<|an (ro b6N.eq_1)<|an (ro b9K.eq_1)<|an (ro c3i.eq_1)<|an (ro c1p.eq_1)<|an (ro b8v.eq_1)<|ro c4H.eq_1
def b2t:CFn:=⟨(.seq (.seq (.region c2t) (.cond (fun e=>e 9) .ret .skip)) (.seq (.region b6N) (.seq (.region b9K) (.seq (.seq (.region c3i) (.cond (fun e=>e 32) (.seq (.region c1p) (.region b8v)) .skip)) (.region c4H))))),[]⟩
def e3W:Pers:=⟨8,[9,32],59,[]⟩
open Reg renaming op->xA,opg->xB,done->xC,snap->xD,chk->xE
open COp renaming load->wA,mv->wB,fieldAddr->wC,call->wD,bin->wE,store->wF,extract->wG,alloc->wH,indexSl->wI,nilCheck->wJ,pick->wK,lenSl->wL,build->wM,box->wN,conv->wO,un->wP
def c4b(e:a7):Reg:=xA (wB (.int .i64 0)) fun a=>xC (e.upd 6 a)
def a6Q(e:a7)(a:Value)(h5:Heap)(b c:Value):Reg:=xD fun h7=>xB a false (wD 126 [b,c]) fun d=>xB a false (wB (e 0)) fun f=>xB a false (wJ f) fun g=>xB a false (wC 4 g) fun i=>xB a false (wA none i) fun j=>xE (some (a,false)) (some h7) (.load none i) j<|xE (some (a,false)) (some h5) (.load none i) j<|xB a false (wE .leq d j) fun k=>xA (wK a (.bool true) k) fun m=>xC (e.upd 22 m)
def b7i(e:a7):Reg:=xA (wB (e 0)) fun a=>xA (.eqK .ptr false a (.pointer none)) fun b=>xA (wB b) fun c=>xB c false (wB (e 0)) fun d=>xB c false (wB (e 1)) fun f=>xD fun h5=>xB c false (wD 135 [d,f]) fun g=>xB c false (wB (e 2)) fun i=>a6Q e c h5 g i
def c0L(e:a7):Reg:=xA (wB (.int .i64 0)) fun a=>xC (e.upd 6 a)
def b9u(e:a7):Reg:=xA (wB (e 0)) fun a=>xA (wB (e 0)) fun b=>xA (wJ b) fun c=>xA (wC 6 c) fun d=>xA (wA none d) fun f=>xA (wD 158 [a,f]) fun g=>xA (wB g) fun i=>xC (e.upd 7 i)
def c4Y(e:a7):Reg:=xA (wB (.int .i64 1)) fun a=>xC (e.upd 8 a)
def b7p(e:a7):Reg:=xA (wB (e 8)) fun a=>xA (wB (e 0)) fun b=>xA (wJ b) fun c=>xA (wC 0 c) fun d=>xA (wA none d) fun f=>xA (wL f) fun g=>xA (wE .leq a g) fun i=>xC (e.upd 35 i)
def a5M(e:a7)(h5:Heap)(a b:Value):Reg:=xD fun h7=>xA (wD 126 [a,b]) fun c=>xA (wB (e 0)) fun d=>xA (wJ d) fun f=>xA (wC 4 f) fun g=>xA (wA none g) fun i=>xE none (some h7) (wA none g) i<|xE none (some h5) (wA none g) i<|xA (wE .leq c i) fun j=>xC (e.upd 50 j)
def b8C(e:a7):Reg:=xA (wB (e 0)) fun a=>xA (wB (e 1)) fun b=>xA (wB (e 7)) fun c=>xA (wB (e 8)) fun d=>xA (wE .add c d) fun f=>xD fun h5=>xA (wD 157 [a,b,f,(.int .i64 0)]) fun g=>xA (wB (e 2)) fun i=>a5M e h5 g i
def a5t(e:a7)(a b:Value)(h7:Heap):Reg:=xA (wD 161 [a,b]) fun c=>xA (wB (e 0)) fun d=>xA (wJ d) fun f=>xA (wC 6 f) fun g=>xA (wA none g) fun i=>xE none (some h7) (wA none g) i<|xA (wP .neg i) fun j=>xD fun h13=>xA (wD 126 [c,j]) fun k=>xA (wB k) fun m=>xC (e.upd 6 m)
def c3G(e:a7):Reg:=xA (wB (e 7)) fun a=>xA (wB (e 8)) fun b=>xA (wE .add a b) fun c=>xA (wB (e 0)) fun d=>xA (wJ d) fun f=>xA (wC 2 f) fun g=>xA (wA none g) fun i=>xD fun h7=>a5t e c i h7
def b9T(e:a7):Reg:=xA (wB (e 8)) fun a=>xA (wE .add a (.int .i64 1)) fun b=>xA (wB b) fun c=>xC (e.upd 8 c)
def a3U:CC:=(.seq (.seq (.region b7p) (.cond (fun e=>e 35) .skip (.exit 0))) (.seq (.block 1 (.seq (.region b8C) (.cond (fun e=>e 50) (.seq (.region c3G) .ret) .skip))) (.region b9T)))
def a5p(e:a7)(h11:Heap)(a b:Value):Reg:=xA (wA none b) fun c=>xE none (some h11) (wA none b) c<|xA (wP .neg c) fun d=>xD fun h17=>xA (wD 126 [a,d]) fun f=>xA (wB f) fun g=>xC (e.upd 6 g)
def a6P(e:a7)(a b:Value):Reg:=xA (wJ b) fun c=>xA (wC 2 c) fun d=>xA (wA none d) fun f=>xD fun h11=>xA (wD 161 [a,f]) fun g=>xA (wB (e 0)) fun i=>xA (wJ i) fun j=>xA (wC 6 j) fun k=>a5p e h11 g k
def b9U(e:a7):Reg:=xA (wB (e 7)) fun a=>xA (wB (e 0)) fun b=>xA (wJ b) fun c=>xA (wC 0 c) fun d=>xA (wA none d) fun f=>xA (wL f) fun g=>xA (wE .add a g) fun i=>xA (wB (e 0)) fun j=>a6P e i j
def b4b:=an (ro c4b.eq_1)<|an (ro4 a6Q.eq_1)<|an (ro b7i.eq_1)<|an (ro c0L.eq_1)<|an (ro b9u.eq_1)<|an (ro c4Y.eq_1)<|an (ro b7p.eq_1)<|an (T4 a5M.eq_1)<|an (ro b8C.eq_1)<|an (T4 a5t.eq_1)<|an (ro c3G.eq_1)<|an (ro b9T.eq_1)<|an (T4 a5p.eq_1)<|an (Q7 a6P.eq_1)<|ro b9U.eq_1
def a7p:CFn:=⟨(.seq (.region c4b) (.seq (.seq (.region b7i) (.cond (fun e=>e 22) (.seq (.region c0L) .ret) .skip)) (.seq (.region b9u) (.seq (.seq (.region c4Y) (.block 0 (.loop a3U))) (.seq (.region b9U) .ret))))),[.t 6]⟩
def e1F:Pers:=⟨9,[22,35,50],83,[]⟩
def c2B(e:a7):Reg:=xA (wB (.int .i64 0)) fun a=>xC (e.upd 4 a)
def c1M(e:a7):Reg:=xA (wB (e 1)) fun a=>xA (.minmax true [a,(.int .i64 0)]) fun b=>xA (wB (e 0)) fun c=>xA (wJ c) fun d=>xA (wC 0 d) fun f=>xA (wC 2 f) fun g=>xA (wA none g) fun i=>xA (.minmax false [b,i]) fun j=>xA (wB j) fun k=>xC (e.upd 4 k)
def e7Q:=an (ro c2B.eq_1)<|ro c1M.eq_1
def d9f:CFn:=⟨(.seq (.region c2B) (.seq (.region c1M) .ret)),[.t 4]⟩
def e2w:Pers:=⟨5,[],13,[]⟩
def c2V(e:a7):Reg:=xA (wB (.pointer none)) fun a=>xC (e.upd 4 a)
def c4c(e:a7):Reg:=xA (wB (e 0)) fun a=>xA (.eqK .ptr false a (.pointer none)) fun b=>xC (e.upd 7 b)
def b8y(e:a7):Reg:=xA (wB (.pointer none)) fun a=>xC (e.upd 4 a)
def c0R(e:a7):Reg:=xA (wB (e 0)) fun a=>xA (wJ a) fun b=>xA (wC 1 b) fun c=>xA (wA none c) fun d=>xA (wB (e 1)) fun f=>xA (wD 147 [d,f]) fun g=>xA (wB g) fun i=>xC (e.upd 5 i)
def c4K(e:a7):Reg:=xA (wB (e 5)) fun a=>xA (wE .geq a (.int .i64 0)) fun b=>xC (e.upd 15 b)
def c0d(e:a7):Reg:=xA (wB (e 0)) fun a=>xA (wJ a) fun b=>xA (wC 2 b) fun c=>xA (wA none c) fun d=>xA (wB (e 5)) fun f=>xA (wI 4 d f) fun g=>xA (wB g) fun i=>xC (e.upd 4 i)
def c0D(e:a7):Reg:=xA (wB (.pointer none)) fun a=>xC (e.upd 4 a)
def e0X:=an (ro c2V.eq_1)<|an (ro c4c.eq_1)<|an (ro b8y.eq_1)<|an (ro c0R.eq_1)<|an (ro c4K.eq_1)<|an (ro c0d.eq_1)<|ro c0D.eq_1
def c6n:CFn:=⟨(.seq (.region c2V) (.seq (.seq (.region c4c) (.cond (fun e=>e 7) (.seq (.region b8y) .ret) .skip)) (.seq (.seq (.region c0R) (.seq (.region c4K) (.cond (fun e=>e 15) (.seq (.region c0d) .ret) .skip))) (.seq (.region c0D) .ret)))),[.t 4]⟩
def e4A:Pers:=⟨6,[7,15],22,[]⟩
def c4w(e:a7):Reg:=xA (wB (e 0)) fun a=>xA (.makeFunc 162 [a] []) fun b=>xC (e.upd 11 b)
def c2L(e:a7):Reg:=xA (wN 126 (e 1)) fun a=>xA (wN 2 (e 2)) fun b=>xA (wH 9 [(.string ⟨#[]⟩)]) fun c=>xA (wH 4 [(.bool false)]) fun d=>xC ((((e.upd 4 a).upd 5 b).upd 6 c).upd 7 d)
def b7n(e:a7):Reg:=xA (wB (e 12)) fun a=>xC (e.upd 8 a)
def c1w(e:a7):Reg:=xA (wH 250 [(.int .i64 0),(.int .i64 0),(.int .i64 0),(.int .i64 0)]) fun a=>xA (wF 4 a (e 13)) fun _=>xC (e.upd 9 a)
def b6I(e:a7):Reg:=xA (wA (some 4) (e 9)) fun a=>xA (wA (some 4) (e 4)) fun b=>xA (wA none (e 5)) fun c=>xA (wD 163 [a,b,c]) fun d=>xC (e.upd 17 d)
def c2i(e:a7):Reg:=xA (wB (e 8)) fun a=>xA (wF 1 (e 6) a) fun _=>xA (wF 1 (e 7) (.bool true)) fun _=>xC e
def b7Z(e:a7):Reg:=xA (wF 1 (e 6) (.string ⟨#[]⟩)) fun _=>xA (wF 1 (e 7) (.bool false)) fun _=>xC e
def b4N:CC:=(.seq (.region b7n) (.region c1w))
def a6c:CC:=(.block 1 (.seq (.region b6I) (.cond (fun e=>e 17) (.seq (.region c2i) .ret) .skip)))
def b4W:CC:=(.seq (.seq (.region b7Z) .ret) .skip)
def c5d:=an (ro c4w.eq_1)<|an (ro c2L.eq_1)<|an (ro b7n.eq_1)<|an (ro c1w.eq_1)<|an (ro b6I.eq_1)<|an (ro c2i.eq_1)<|ro b7Z.eq_1
def b0D:CFn:=⟨(.rng (.seq (.region c2L) (.seq (.region c4w) .skip)) 0 (fun e=>(e 11)) [12,13] b4N a6c b4W),[.c 6 none,.c 7 none]⟩
def e3s:Pers:=⟨10,[11,12,13,17],19,[]⟩
def c0m(e:a7):Reg:=xA (wB (.bool false)) fun a=>xC (e.upd 2 a)
def a6E(e:a7)(a:Value)(h4:Heap)(b c:Value):Reg:=xB a false (wC 2 c) fun d=>xB a false (wA none d) fun f=>xE (some (a,false)) (some h4) (.load none d) f<|xB a false (wL f) fun g=>xB a false (wE .eql b g) fun i=>xA (wK a (.bool true) i) fun j=>xA (wB j) fun k=>xC (e.upd 2 k)
def b6v(e:a7):Reg:=xA (wB (e 0)) fun a=>xA (.eqK .ptr false a (.pointer none)) fun b=>xA (wB b) fun c=>xB c false (wB (e 0)) fun d=>xD fun h4=>xB c false (wD 49 [d]) fun f=>xB c false (wB (e 0)) fun g=>xB c false (wJ g) fun i=>a6E e c h4 f i
def e8y:=an (ro c0m.eq_1)<|an (ro4 a6E.eq_1)<|ro b6v.eq_1
def d9w:CFn:=⟨(.seq (.region c0m) (.seq (.region b6v) .ret)),[.t 2]⟩
def e4r:Pers:=⟨3,[],15,[]⟩
def b6o(e:a7):Reg:=xA (wH 250 [(.int .i64 0),(.int .i64 0),(.int .i64 0),(.int .i64 0)]) fun a=>xC (e.upd 4 a)
def b9M(e:a7):Reg:=xA (wB (e 0)) fun a=>xA (wB (e 0)) fun b=>xA (wB (e 1)) fun c=>xA (wM [(.int .i64 0),(.int .i64 0),(.int .i64 0),(.int .i64 0)] [(0,1,a),(1,1,b),(2,1,c)]) fun d=>xA (wF 4 (e 4) d) fun _=>xC e
def e6i:=an (ro b6o.eq_1)<|ro b9M.eq_1
def d8h:CFn:=⟨(.seq (.region b6o) (.seq (.region b9M) .ret)),[.c 4 (some 4)]⟩
def e2Z:Pers:=⟨5,[],9,[]⟩
def b5E(e:a7):Reg:=xA (wB (.int .i64 0)) fun a=>xA (wB (.bool false)) fun b=>xC ((e.upd 4 a).upd 5 b)
def b5y(e:a7):Reg:=xA (wB (e 0)) fun a=>xA (wB (e 1)) fun b=>xA (wE .add a b) fun c=>xA (wB c) fun d=>xC (e.upd 6 d)
def b6p(e:a7):Reg:=xA (wB (e 6)) fun a=>xA (wB (e 6)) fun b=>xA (wB (e 0)) fun c=>xA (wE .gtr b c) fun d=>xA (wB (e 1)) fun f=>xA (wE .gtr f (.int .i64 0)) fun g=>xA (.eqK .bool false d g) fun i=>xA (wB a) fun j=>xA (wB i) fun k=>xC ((e.upd 4 j).upd 5 k)
def e8c:=an (ro b5E.eq_1)<|an (ro b5y.eq_1)<|ro b6p.eq_1
def d8l:CFn:=⟨(.seq (.region b5E) (.seq (.region b5y) (.seq (.region b6p) .ret))),[.t 4,.t 5]⟩
def e2R:Pers:=⟨7,[],17,[]⟩
def c1h(e:a7):Reg:=xA (wB (.int .i64 0)) fun a=>xC (e.upd 2 a)
def b6W(e:a7):Reg:=xA (wB (e 0)) fun a=>xC (e.upd 3 a)
def b5V(e:a7):Reg:=xA (wB (.int .i64 (-9223372036854775808))) fun a=>xC (e.upd 2 a)
def b7h(e:a7):Reg:=xA (wB (.int .i64 9223372036854775807)) fun a=>xC (e.upd 2 a)
def e7Y:=an (ro c1h.eq_1)<|an (ro b6W.eq_1)<|an (ro b5V.eq_1)<|ro b7h.eq_1
def d8v:CFn:=⟨(.seq (.region c1h) (.seq (.seq (.region b6W) (.cond (fun e=>e 3) (.seq (.region b5V) .ret) .skip)) (.seq (.region b7h) .ret))),[.t 2]⟩
def e4u:Pers:=⟨3,[3],4,[]⟩
def c5a(e:a7):Reg:=xA (wB (.int .i64 0)) fun a=>xC (e.upd 4 a)
def b7K(e:a7):Reg:=xA (wB (e 0)) fun a=>xA (.eqK .ptr false a (.pointer none)) fun b=>xC (e.upd 8 b)
def b6J(e:a7):Reg:=xA (wB (.int .i64 (-1))) fun a=>xC (e.upd 4 a)
def c3F(e:a7):Reg:=xA (wB (e 0)) fun a=>xA (wB (e 1)) fun b=>xA (wD 165 [a,b]) fun c=>xA (wB c) fun d=>xA (wG d 0) fun f=>xA (wG d 1) fun g=>xA (wB f) fun i=>xA (wB g) fun j=>xC ((e.upd 5 i).upd 6 j)
def b9n(e:a7):Reg:=xA (wB (e 6)) fun a=>xA (wB a) fun b=>xC (e.upd 4 b)
def e2S:=an (ro c5a.eq_1)<|an (ro b7K.eq_1)<|an (ro b6J.eq_1)<|an (ro c3F.eq_1)<|ro b9n.eq_1
def d5v:CFn:=⟨(.seq (.region c5a) (.seq (.seq (.region b7K) (.cond (fun e=>e 8) (.seq (.region b6J) .ret) .skip)) (.seq (.region c3F) (.seq (.region b9n) .ret)))),[.t 4]⟩
def e1J:Pers:=⟨7,[8],16,[]⟩
def c3Y(e:a7):Reg:=xA (wB (.int .i64 0)) fun a=>xC (e.upd 2 a)
def c3C(e:a7):Reg:=xA (wB (e 0)) fun a=>xA (.eqK .ptr false a (.pointer none)) fun b=>xC (e.upd 4 b)
def b6g(e:a7):Reg:=xA (wB (.int .i64 0)) fun a=>xC (e.upd 2 a)
def b6D(e:a7):Reg:=xA (wB (e 0)) fun a=>xA (wJ a) fun b=>xA (wC 0 b) fun c=>xA (wA none c) fun d=>xA (wD 70 [d]) fun f=>xA (wB f) fun g=>xC (e.upd 2 g)
def e2j:=an (ro c3Y.eq_1)<|an (ro c3C.eq_1)<|an (ro b6g.eq_1)<|ro b6D.eq_1
def d6z:CFn:=⟨(.seq (.region c3Y) (.seq (.seq (.region c3C) (.cond (fun e=>e 4) (.seq (.region b6g) .ret) .skip)) (.seq (.region b6D) .ret))),[.t 2]⟩
def e2t:Pers:=⟨3,[4],10,[]⟩
def c1f(e:a7):Reg:=xA (wB (.int .i64 0)) fun a=>xC (e.upd 2 a)
def a4h(e:a7)(a b:Value):Reg:=xA (wE .sub b (.int .i64 1)) fun c=>xA (wI 1 a c) fun d=>xA (wA none d) fun f=>xA (wB f) fun g=>xC (e.upd 3 g)
def c4Z(e:a7):Reg:=xA (wB (e 0)) fun a=>xA (wJ a) fun b=>xA (wC 4 b) fun c=>xA (wA none c) fun d=>xA (wB (e 0)) fun f=>xD fun h5=>xA (wD 148 [f]) fun g=>xE none none (wA none c) d<|a4h e d g
def a4q(e:a7)(a:Value):Reg:=xA (wG a 0) fun b=>xA (wG a 1) fun c=>xA (wB b) fun d=>xA (wB c) fun f=>xC ((e.upd 4 d).upd 5 f)
def c3W(e:a7):Reg:=xA (wB (e 0)) fun a=>xA (wJ a) fun b=>xA (wC 0 b) fun c=>xA (wA none c) fun d=>xA (wB (e 3)) fun f=>xA (wO .i64 f) fun g=>xA (wD 166 [d,g]) fun i=>xA (wB i) fun j=>a4q e j
def b9N(e:a7):Reg:=xA (wB (e 0)) fun a=>xA (wJ a) fun b=>xA (wC 1 b) fun c=>xA (wA none c) fun d=>xA (wB (e 4)) fun f=>xA (wD 167 [d,f]) fun g=>xC e
def b5P(e:a7):Reg:=xA (wB (e 0)) fun a=>xA (wJ a) fun b=>xA (wC 2 b) fun c=>xA (wA none c) fun d=>xA (wB (e 3)) fun f=>xA (wI 1 d f) fun g=>xA (wA none g) fun i=>xA (wB i) fun j=>xC (e.upd 2 j)
def e5T:=an (ro c1f.eq_1)<|an (Q7 a4h.eq_1)<|an (ro c4Z.eq_1)<|an (ro1 a4q.eq_1)<|an (ro c3W.eq_1)<|an (ro b9N.eq_1)<|ro b5P.eq_1
def d1n:CFn:=⟨(.seq (.region c1f) (.seq (.region c4Z) (.seq (.region c3W) (.seq (.region b9N) (.seq (.region b5P) .ret))))),[.t 2]⟩
def e4M:Pers:=⟨6,[],38,[]⟩
def c0P(e:a7):Reg:=xA (wB (.int .i64 0)) fun a=>xC (e.upd 4 a)
def c4o(e:a7):Reg:=xA (wB (e 0)) fun a=>xA (.eqK .ptr false a (.pointer none)) fun b=>xC (e.upd 8 b)
def c3r(e:a7):Reg:=xA (wB (.int .i64 (-1))) fun a=>xC (e.upd 4 a)
def b6k(e:a7):Reg:=xA (wB (e 0)) fun a=>xA (wB (e 1)) fun b=>xA (wD 165 [a,b]) fun c=>xA (wB c) fun d=>xA (wG d 0) fun f=>xA (wG d 1) fun g=>xA (wB f) fun i=>xA (wB g) fun j=>xC ((e.upd 5 i).upd 6 j)
def c2H(e:a7):Reg:=xA (wB (e 6)) fun a=>xA (wE .geq a (.int .i64 0)) fun b=>xC (e.upd 16 b)
def b9S(e:a7):Reg:=xA (wB (.int .i64 (-1))) fun a=>xC (e.upd 4 a)
def b7q(e:a7):Reg:=xA (wB (e 0)) fun a=>xA (wJ a) fun b=>xA (wC 0 b) fun c=>xA (wA none c) fun d=>xA (wB (e 1)) fun f=>xA (wD 168 [d,f]) fun g=>xA (wB g) fun i=>xC (e.upd 6 i)
def b6x(e:a7):Reg:=xA (wB (e 6)) fun a=>xA (wE .geq a (.int .i64 0)) fun b=>xC (e.upd 24 b)
def c1c(e:a7):Reg:=xA (wB (e 0)) fun a=>xA (wJ a) fun b=>xA (wC 4 b) fun c=>xA (wA none c) fun d=>xA (wB (e 5)) fun f=>xA (wB (e 6)) fun g=>xA (wO .i32 g) fun i=>xA (wE .add i (.int .i32 1)) fun j=>xA (wI 1 d f) fun k=>xA (wF 1 k j) fun _=>xC e
def c2z(e:a7):Reg:=xA (wB (e 6)) fun a=>xA (wB a) fun b=>xC (e.upd 4 b)
def e1r:=an (ro c0P.eq_1)<|an (ro c4o.eq_1)<|an (ro c3r.eq_1)<|an (ro b6k.eq_1)<|an (ro c2H.eq_1)<|an (ro b9S.eq_1)<|an (ro b7q.eq_1)<|an (ro b6x.eq_1)<|an (ro c1c.eq_1)<|ro c2z.eq_1
def c5u:CFn:=⟨(.seq (.region c0P) (.seq (.seq (.region c4o) (.cond (fun e=>e 8) (.seq (.region c3r) .ret) .skip)) (.seq (.region b6k) (.seq (.seq (.region c2H) (.cond (fun e=>e 16) (.seq (.region b9S) .ret) .skip)) (.seq (.seq (.region b7q) (.seq (.region b6x) (.cond (fun e=>e 24) (.region c1c) .skip))) (.seq (.region c2z) .ret)))))),[.t 4]⟩
def e4z:Pers:=⟨7,[8,16,24],35,[]⟩
def b5Z(e:a7):Reg:=xA (wB (e 0)) fun a=>xA (wJ a) fun b=>xA (wC 5 b) fun c=>xA (wA none c) fun d=>xA (wB (e 1)) fun f=>xA (wI 1 d f) fun g=>xA (wA none g) fun i=>xA (wO .i64 i) fun j=>xA (wB j) fun k=>xC (e.upd 4 k)
def a6S(e:a7)(a b:Value):Reg:=xB a true (wA none b) fun c=>xB a true (wB (e 0)) fun d=>xB a true (wJ d) fun f=>xB a true (wC 2 f) fun g=>xB a true (wA none g) fun i=>xB a true (wB (e 1)) fun j=>xB a true (wI 1 i j) fun k=>xB a true (wA none k) fun m=>xB a true (wE .lss c m) fun n=>xA (wK a n (.bool false)) fun o=>xC (e.upd 38 o)
def a5Q(e:a7)(a b c:Value):Reg:=xB a true (wJ c) fun d=>xB a true (wC 4 d) fun f=>xB a true (wA none f) fun g=>xB a true (wB (e 4)) fun i=>xB a true (wE .sub i (.int .i64 1)) fun j=>xB a true (wI 1 g j) fun k=>xB a true (wA none k) fun m=>xB a true (wI 1 b m) fun n=>a6S e a n
def c1l(e:a7):Reg:=xA (wB (e 4)) fun a=>xA (wE .gtr a (.int .i64 0)) fun b=>xA (wB b) fun c=>xB c true (wB (e 0)) fun d=>xB c true (wJ d) fun f=>xB c true (wC 2 f) fun g=>xB c true (wA none g) fun i=>xB c true (wB (e 0)) fun j=>a5Q e c i j
def a6Y(e:a7)(a b c:Value):Reg:=xA (wA none c) fun d=>xA (wB (e 4)) fun f=>xA (wE .sub f (.int .i64 1)) fun g=>xA (wI 1 d g) fun i=>xA (wA none i) fun j=>xA (wI 1 a b) fun k=>xD fun h14=>xA (wF 1 k j) fun _=>xC e
def c1j(e:a7):Reg:=xA (wB (e 0)) fun a=>xA (wJ a) fun b=>xA (wC 4 b) fun c=>xA (wA none c) fun d=>xA (wB (e 4)) fun f=>xA (wB (e 0)) fun g=>xA (wJ g) fun i=>xA (wC 4 i) fun j=>a6Y e d f j
def a5o(e:a7)(a b:Value):Reg:=xA (wB (e 4)) fun c=>xA (wI 1 b c) fun d=>xA (wA none d) fun f=>xA (wB (e 4)) fun g=>xA (wO .i32 g) fun i=>xA (wI 1 a f) fun j=>xD fun h14=>xA (wF 1 j i) fun _=>xC e
def b9H(e:a7):Reg:=xA (wB (e 0)) fun a=>xA (wJ a) fun b=>xA (wC 5 b) fun c=>xA (wA none c) fun d=>xA (wB (e 0)) fun f=>xA (wJ f) fun g=>xA (wC 4 g) fun i=>xA (wA none i) fun j=>a5o e d j
def c2U(e:a7):Reg:=xA (wB (e 4)) fun a=>xA (wE .sub a (.int .i64 1)) fun b=>xA (wB b) fun c=>xC (e.upd 4 c)
def a1y:CC:=(.seq (.seq (.region c1l) (.cond (fun e=>e 38) .skip (.exit 0))) (.seq (.block 1 (.seq (.region c1j) (.region b9H))) (.region c2U)))
def a4s(e:a7)(a b c d f:Value):Reg:=xA (wF 1 f c) fun _=>xA (wI 1 a b) fun g=>xD fun h17=>xA (wF 1 g d) fun _=>xC e
def a4Q(e:a7)(a b c:Value):Reg:=xA (wA none c) fun d=>xA (wB (e 1)) fun f=>xA (wB (e 1)) fun g=>xA (wO .i32 g) fun i=>xA (wB (e 4)) fun j=>xA (wO .i32 j) fun k=>xA (wI 1 a b) fun m=>xD fun h15=>a4s e d f i k m
def c3z(e:a7):Reg:=xA (wB (e 0)) fun a=>xA (wJ a) fun b=>xA (wC 4 b) fun c=>xA (wA none c) fun d=>xA (wB (e 4)) fun f=>xA (wB (e 0)) fun g=>xA (wJ g) fun i=>xA (wC 5 i) fun j=>a4Q e d f j
def d8Z:=an (ro b5Z.eq_1)<|an (Q7 a6S.eq_1)<|an (T4 a5Q.eq_1)<|an (ro c1l.eq_1)<|an (T4 a6Y.eq_1)<|an (ro c1j.eq_1)<|an (Q7 a5o.eq_1)<|an (ro b9H.eq_1)<|an (ro c2U.eq_1)<|an (ro5 a4s.eq_1)<|an (T4 a4Q.eq_1)<|ro c3z.eq_1
def b4e:CFn:=⟨(.seq (.region b5Z) (.seq (.block 0 (.loop a1y)) (.region c3z))),[]⟩
def e3A:Pers:=⟨5,[38],85,[]⟩
def b7L(e:a7):Reg:=xA (wA none (e 2)) fun a=>xA (wJ a) fun b=>xA (wC 13 b) fun c=>xA (wA none c) fun d=>xA (.makeFunc 162 [d] []) fun f=>xC (e.upd 35 f)
def b5I(e:a7):Reg:=xA (wH 4 [(.bool false)]) fun a=>xA (wF 1 a (.bool false)) fun _=>xC (e.upd 11 a)
def c0h(e:a7):Reg:=xA (wB (e 6)) fun a=>xA (wB (e 7)) fun b=>xA (wE .sub a b) fun c=>xA (wH 9 [(.string ⟨#[]⟩)]) fun d=>xA (wH 2 [(.int .i64 0)]) fun f=>xA (wF 1 d (.string ⟨#[]⟩)) fun _=>xA (wF 1 f c) fun _=>xC ((e.upd 9 d).upd 10 f)
def c3J(e:a7):Reg:=xA (wB (e 8)) fun a=>xA (wP .not a) fun b=>xC (e.upd 27 b)
def c3o(e:a7):Reg:=xA (wB (.string ⟨#[]⟩)) fun a=>xA (wB (.bool false)) fun b=>xC ((e.upd 4 a).upd 5 b)
def a5L(e:a7)(a b:Value):Reg:=xA (wG a 1) fun c=>xA (wG a 2) fun d=>xA (wB b) fun f=>xA (wB c) fun g=>xA (wB d) fun i=>xC (((e.upd 6 f).upd 7 g).upd 8 i)
def c0Q(e:a7):Reg:=xA (wA none (e 2)) fun a=>xA (wJ a) fun b=>xA (wC 15 b) fun c=>xA (wA none c) fun d=>xA (wB (e 1)) fun f=>xA (wD 169 [d,f]) fun g=>xA (wB g) fun i=>xA (wG i 0) fun j=>a5L e i j
def c3c(e:a7):Reg:=xA (wN 94 (e 0)) fun a=>xA (wB (.string ⟨#[]⟩)) fun b=>xA (wB (.bool false)) fun c=>xC (((e.upd 2 a).upd 4 b).upd 5 c)
def c0u(e:a7):Reg:=xA (wB (e 36)) fun a=>xC (e.upd 12 a)
def a5V(e:a7)(a b:Value):Reg:=xA (wG a 1) fun c=>xA (wG a 2) fun d=>xA (wB b) fun f=>xA (wB c) fun g=>xA (wB d) fun i=>xC (((e.upd 13 f).upd 14 g).upd 15 i)
def c2Q(e:a7):Reg:=xA (wA none (e 2)) fun a=>xA (wJ a) fun b=>xA (wC 15 b) fun c=>xA (wA none c) fun d=>xA (wB (e 12)) fun f=>xA (wD 169 [d,f]) fun g=>xA (wB g) fun i=>xA (wG i 0) fun j=>a5V e i j
def b9O(e:a7):Reg:=xA (wB (e 15)) fun a=>xA (wP .not a) fun b=>xC (e.upd 49 b)
def b2F(e:a7):Reg:=xA (wA none (e 2)) fun a=>xA (wJ a) fun b=>xA (wC 15 b) fun c=>xA (wA none c) fun d=>xA (wD 170 [d]) fun f=>xA (wB f) fun g=>xC (e.upd 13 g)
def b2V(e:a7):Reg:=xA (wB (e 13)) fun a=>xA (wA none (e 10)) fun b=>xA (wE .lss a b) fun c=>xC (e.upd 57 c)
def b1l(e:a7):Reg:=xA (wB (e 12)) fun a=>xA (wB (e 13)) fun b=>xA (wF 1 (e 9) a) fun _=>xA (wF 1 (e 10) b) fun _=>xA (wF 1 (e 11) (.bool true)) fun _=>xC e
def b1s(e:a7):Reg:=xA (wA none (e 9)) fun a=>xA (wA none (e 11)) fun b=>xA (wB a) fun c=>xA (wB b) fun d=>xC ((e.upd 4 c).upd 5 d)
def b5b:CC:=(.region c0u)
def a1w:CC:=(.block 1 (.seq (.region c2Q) (.seq (.seq (.region b9O) (.cond (fun e=>e 49) (.region b2F) .skip)) (.seq (.region b2V) (.cond (fun e=>e 57) (.region b1l) .skip)))))
def b5f:CC:=(.seq (.seq (.region b1s) .ret) .skip)
def a7l:=an (ro b7L.eq_1)<|an (ro b5I.eq_1)<|an (ro c0h.eq_1)<|an (ro c3J.eq_1)<|an (ro c3o.eq_1)<|an (Q7 a5L.eq_1)<|an (ro c0Q.eq_1)<|an (ro c3c.eq_1)<|an (ro c0u.eq_1)<|an (Q7 a5V.eq_1)<|an (ro c2Q.eq_1)<|an (ro b9O.eq_1)<|an (ro b2F.eq_1)<|an (ro b2V.eq_1)<|an (ro b1l.eq_1)<|ro b1s.eq_1
def a2j:CFn:=⟨(.rng (.seq (.region c3c) (.seq (.region c0Q) (.seq (.seq (.region c3J) (.cond (fun e=>e 27) (.seq (.region c3o) .ret) .skip)) (.seq (.region c0h) (.seq (.region b5I) (.seq (.region b7L) .skip)))))) 0 (fun e=>(e 35)) [36,37] b5b a1w b5f),[.t 4,.t 5]⟩
def e4l:Pers:=⟨16,[27,35,36,37,49,57],62,[]⟩
def b6c(e:a7):Reg:=xA (wH 250 [(.int .i64 0),(.int .i64 0),(.int .i64 0),(.int .i64 0)]) fun a=>xA (wB (.bool false)) fun b=>xC ((e.upd 4 a).upd 5 b)
def b9l(e:a7):Reg:=xA (wB (e 0)) fun a=>xA (.eqK .ptr false a (.pointer none)) fun b=>xC (e.upd 8 b)
def c4G(e:a7):Reg:=xA (wM [(.int .i64 0),(.int .i64 0),(.int .i64 0),(.int .i64 0)] []) fun a=>xA (wF 4 (e 4) a) fun _=>xA (wB (.bool false)) fun b=>xC (e.upd 5 b)
def b8n(e:a7):Reg:=xA (wB (e 0)) fun a=>xA (wJ a) fun b=>xA (wC 1 b) fun c=>xA (wA none c) fun d=>xA (wB (e 1)) fun f=>xA (wD 167 [d,f]) fun g=>xA (wB g) fun i=>xC (e.upd 6 i)
def c0x(e:a7):Reg:=xA (wB (e 6)) fun a=>xA (wE .lss a (.int .i64 0)) fun b=>xC (e.upd 17 b)
def b8c(e:a7):Reg:=xA (wM [(.int .i64 0),(.int .i64 0),(.int .i64 0),(.int .i64 0)] []) fun a=>xA (wF 4 (e 4) a) fun _=>xA (wB (.bool false)) fun b=>xC (e.upd 5 b)
def b8Q(e:a7):Reg:=xA (wB (e 0)) fun a=>xA (wJ a) fun b=>xA (wC 2 b) fun c=>xA (wA none c) fun d=>xA (wB (e 6)) fun f=>xA (wI 4 d f) fun g=>xA (wA (some 4) g) fun i=>xA (wF 4 (e 4) i) fun _=>xA (wB (.bool true)) fun j=>xC (e.upd 5 j)
def e3j:=an (ro b6c.eq_1)<|an (ro b9l.eq_1)<|an (ro c4G.eq_1)<|an (ro b8n.eq_1)<|an (ro c0x.eq_1)<|an (ro b8c.eq_1)<|ro b8Q.eq_1
def d5b:CFn:=⟨(.seq (.region b6c) (.seq (.seq (.region b9l) (.cond (fun e=>e 8) (.seq (.region c4G) .ret) .skip)) (.seq (.region b8n) (.seq (.seq (.region c0x) (.cond (fun e=>e 17) (.seq (.region b8c) .ret) .skip)) (.seq (.region b8Q) .ret))))),[.c 4 (some 4),.t 5]⟩
def e2k:Pers:=⟨7,[8,17],26,[]⟩
def b5W(e:a7):Reg:=xA (wN 250 (e 0)) fun a=>xA (wN 126 (e 1)) fun b=>xA (wB (.int .i64 0)) fun c=>xC (((e.upd 3 a).upd 4 b).upd 6 c)
def c4M(e:a7):Reg:=xA (wA (some 4) (e 3)) fun a=>xA (wA (some 4) (e 4)) fun b=>xA (wB (e 2)) fun c=>xA (wD 156 [a,b,c]) fun d=>xC (e.upd 10 d)
def b8w(e:a7):Reg:=xA (wC 3 (e 3)) fun a=>xA (wA none a) fun b=>xA (wC 3 (e 4)) fun c=>xA (wA none c) fun d=>xA (.minmax false [b,d]) fun f=>xA (wB f) fun g=>xC (e.upd 6 g)
def a5i(e:a7)(a b:Value):Reg:=xA (wA none b) fun c=>xA (wE .quo a c) fun d=>xA (.minmax true [d,(.int .i64 0)]) fun f=>xA (wC 3 (e 4)) fun g=>xA (wA none g) fun i=>xA (.minmax false [f,i]) fun j=>xA (wB j) fun k=>xC (e.upd 6 k)
def c1S(e:a7):Reg:=xA (wC 0 (e 3)) fun a=>xA (wA none a) fun b=>xA (wB (e 2)) fun c=>xA (wC 1 (e 4)) fun d=>xA (wA none d) fun f=>xA (wE .sub c f) fun g=>xA (wE .sub b g) fun i=>xA (wC 0 (e 4)) fun j=>a5i e i j
def e1B:=an (ro b5W.eq_1)<|an (ro c4M.eq_1)<|an (ro b8w.eq_1)<|an (Q7 a5i.eq_1)<|ro c1S.eq_1
def c6x:CFn:=⟨(.seq (.region b5W) (.seq (.seq (.region c4M) (.cond (fun e=>e 10) (.seq (.region b8w) .ret) .skip)) (.seq (.region c1S) .ret))),[.t 6]⟩
def e5b:Pers:=⟨7,[10],30,[]⟩
def c0V(e:a7):Reg:=xA (wN 250 (e 2)) fun a=>xA (wB (.pointer none)) fun b=>xC ((e.upd 5 a).upd 6 b)
def c0a(e:a7):Reg:=xA (wB (e 0)) fun a=>xA (.eqK .ptr false a (.pointer none)) fun b=>xC (e.upd 9 b)
def c4g(e:a7):Reg:=xA (wB (.pointer none)) fun a=>xC (e.upd 6 a)
def b9t(e:a7):Reg:=xA (wB (e 0)) fun a=>xA (wJ a) fun b=>xA (wC 1 b) fun c=>xA (wA none c) fun d=>xA (wB (e 1)) fun f=>xA (wD 150 [d,f]) fun g=>xA (wB g) fun i=>xC (e.upd 7 i)
def c1B(e:a7):Reg:=xA (wB (e 7)) fun a=>xA (wE .lss a (.int .i64 0)) fun b=>xC (e.upd 17 b)
def b6Z(e:a7):Reg:=xA (wB (.pointer none)) fun a=>xC (e.upd 6 a)
def c2f(e:a7):Reg:=xA (wB (e 0)) fun a=>xA (wJ a) fun b=>xA (wC 2 b) fun c=>xA (wA none c) fun d=>xA (wB (e 7)) fun f=>xA (wA (some 4) (e 5)) fun g=>xA (wI 4 d f) fun i=>xD fun h7=>xA (wF 4 i g) fun _=>xC e
def b8E(e:a7):Reg:=xA (wB (e 0)) fun a=>xA (wJ a) fun b=>xA (wC 2 b) fun c=>xA (wA none c) fun d=>xA (wB (e 7)) fun f=>xA (wI 4 d f) fun g=>xA (wB g) fun i=>xC (e.upd 6 i)
def e5O:=an (ro c0V.eq_1)<|an (ro c0a.eq_1)<|an (ro c4g.eq_1)<|an (ro b9t.eq_1)<|an (ro c1B.eq_1)<|an (ro b6Z.eq_1)<|an (ro c2f.eq_1)<|ro b8E.eq_1
def d2K:CFn:=⟨(.seq (.region c0V) (.seq (.seq (.region c0a) (.cond (fun e=>e 9) (.seq (.region c4g) .ret) .skip)) (.seq (.region b9t) (.seq (.seq (.region c1B) (.cond (fun e=>e 17) (.seq (.region b6Z) .ret) .skip)) (.seq (.region c2f) (.seq (.region b8E) .ret)))))),[.t 6]⟩
def e4R:Pers:=⟨8,[9,17],31,[]⟩
def c1a(e:a7):Reg:=xA (wN 250 (e 0)) fun a=>xA (wN 126 (e 1)) fun b=>xA (wB (.bool false)) fun c=>xC (((e.upd 3 a).upd 4 b).upd 6 c)
def b8Y(e:a7):Reg:=xA (wB (e 2)) fun a=>xA (wC 1 (e 3)) fun b=>xA (wA none b) fun c=>xA (wC 1 (e 4)) fun d=>xA (wA none d) fun f=>xA (wD 126 [c,f]) fun g=>xA (wE .lss a g) fun i=>xA (wB i) fun j=>xC (e.upd 6 j)
def e7m:=an (ro c1a.eq_1)<|ro b8Y.eq_1
def d7G:CFn:=⟨(.seq (.region c1a) (.seq (.region b8Y) .ret)),[.t 6]⟩
def e2s:Pers:=⟨7,[],14,[]⟩
def b6j(e:a7):Reg:=xA (wB (.int .i64 0)) fun a=>xC (e.upd 8 a)
def b8B(e:a7):Reg:=xA (wB (.int .i64 0)) fun a=>xC (e.upd 9 a)
def b7c(e:a7):Reg:=xA (wB (e 2)) fun a=>xA (wB (e 0)) fun b=>xA (wJ b) fun c=>xA (wC 0 c) fun d=>xA (wA none d) fun f=>xA (wL f) fun g=>xA (wE .sub a g) fun i=>xA (wE .add i (.int .i64 1)) fun j=>xA (wB j) fun k=>xC (e.upd 10 k)
def c2c(e:a7):Reg:=xA (wB (e 10)) fun a=>xA (wB (e 2)) fun b=>xA (wE .leq a b) fun c=>xC (e.upd 22 c)
def b7s(e:a7):Reg:=xA (wB (e 0)) fun a=>xA (wB (e 10)) fun b=>xA (wD 171 [a,b]) fun c=>xA (wB (e 1)) fun d=>xA (wD 172 [c,d]) fun f=>xA (wB f) fun g=>xC (e.upd 11 g)
def c2k(e:a7):Reg:=xA (wB (e 10)) fun a=>xA (wB (e 2)) fun b=>xA (wB (e 0)) fun c=>xA (wJ c) fun d=>xA (wC 0 d) fun f=>xA (wA none f) fun g=>xA (wL g) fun i=>xA (wE .sub b i) fun j=>xA (wE .add j (.int .i64 1)) fun k=>xA (wE .eql a k) fun m=>xC (e.upd 39 m)
def b7b(e:a7):Reg:=xA (wB (e 0)) fun a=>xA (wB (e 11)) fun b=>xA (wB (e 3)) fun c=>xA (wD 173 [a,b,c]) fun d=>xA (wB d) fun f=>xC (e.upd 11 f)
def c3V(e:a7):Reg:=xA (wB (e 9)) fun a=>xA (wB (e 11)) fun b=>xA (wD 126 [a,b]) fun c=>xA (wB c) fun d=>xC (e.upd 9 d)
def b7m(e:a7):Reg:=xA (wB (e 10)) fun a=>xA (wE .add a (.int .i64 1)) fun b=>xA (wB b) fun c=>xC (e.upd 10 c)
def a3W:CC:=(.seq (.seq (.region c2c) (.cond (fun e=>e 22) .skip (.exit 0))) (.seq (.block 1 (.seq (.region b7s) (.seq (.seq (.region c2k) (.cond (fun e=>e 39) (.region b7b) .skip)) (.region c3V)))) (.region b7m)))
def c4i(e:a7):Reg:=xA (wB (e 9)) fun a=>xA (wB a) fun b=>xC (e.upd 8 b)
def c9i:=an (ro b6j.eq_1)<|an (ro b8B.eq_1)<|an (ro b7c.eq_1)<|an (ro c2c.eq_1)<|an (ro b7s.eq_1)<|an (ro c2k.eq_1)<|an (ro b7b.eq_1)<|an (ro c3V.eq_1)<|an (ro b7m.eq_1)<|ro c4i.eq_1
def b3T:CFn:=⟨(.seq (.region b6j) (.seq (.region b8B) (.seq (.seq (.region b7c) (.block 0 (.loop a3W))) (.seq (.region c4i) .ret)))),[.t 8]⟩
def e5U:Pers:=⟨12,[22,39],48,[]⟩
def c1T(e:a7):Reg:=xA (wB (.int .i64 0)) fun a=>xC (e.upd 4 a)
def c4E(e:a7):Reg:=xA (wB (e 0)) fun a=>xA (.eqK .ptr false a (.pointer none)) fun b=>xC (e.upd 6 b)
def b9q(e:a7):Reg:=xA (wB (.int .i64 0)) fun a=>xC (e.upd 4 a)
def b7O(e:a7):Reg:=xA (wB (e 1)) fun a=>xA (wB (e 0)) fun b=>xA (wJ b) fun c=>xA (wC 2 c) fun d=>xA (wA none d) fun f=>xA (wE .quo a f) fun g=>xA (wB g) fun i=>xC (e.upd 4 i)
def e7w:=an (ro c1T.eq_1)<|an (ro c4E.eq_1)<|an (ro b9q.eq_1)<|ro b7O.eq_1
def d8M:CFn:=⟨(.seq (.region c1T) (.seq (.seq (.region c4E) (.cond (fun e=>e 6) (.seq (.region b9q) .ret) .skip)) (.seq (.region b7O) .ret))),[.t 4]⟩
def e3U:Pers:=⟨5,[6],13,[]⟩
def b7F(e:a7):Reg:=xA (wB (e 0)) fun a=>xA (.eqK .ptr true a (.pointer none)) fun b=>xC (e.upd 3 b)
def c4a(e:a7):Reg:=xA (wB (e 0)) fun a=>xA (wJ a) fun b=>xA (wC 2 b) fun c=>xA (wA none c) fun d=>xA (.clearSl [(.int .i64 0)] d) fun _=>xC e
def e8H:=an (ro b7F.eq_1)<|ro c4a.eq_1
def d8o:CFn:=⟨(.seq (.region b7F) (.cond (fun e=>e 3) (.region c4a) .skip)),[]⟩
def e1E:Pers:=⟨2,[3],8,[]⟩
def c4F(e:a7):Reg:=xA (wB (e 0)) fun a=>xA (.eqK .ptr false a (.pointer none)) fun b=>xA (wB b) fun c=>xB c false (wB (e 2)) fun d=>xB c false (wE .lss d (.int .i64 1)) fun f=>xA (wK c (.bool true) f) fun g=>xC (e.upd 14 g)
def b8k(e:a7):Reg:=xA (wB (e 0)) fun a=>xA (wB (e 1)) fun b=>xA (wD 172 [a,b]) fun c=>xA (wB (e 2)) fun d=>xA (wD 126 [c,d]) fun f=>xA (wB f) fun g=>xC (e.upd 6 g)
def c0t(e:a7):Reg:=xA (wB (e 0)) fun a=>xA (wJ a) fun b=>xA (wC 0 b) fun c=>xA (wA none c) fun d=>xA (wL d) fun f=>xA (wB (.int .i64 0)) fun g=>xC ((e.upd 24 f).upd 25 g)
def c0G(e:a7):Reg:=xA (wE .lss (e 25) (e 24)) fun a=>xC (e.upd 26 a)
def b8a(e:a7):Reg:=xA (wB (e 25)) fun a=>xA (wB a) fun b=>xC (e.upd 7 b)
def c0l(e:a7):Reg:=xA (wB (e 0)) fun a=>xA (wB (e 7)) fun b=>xA (wB (e 1)) fun c=>xA (wD 174 [a,b,c]) fun d=>xA (wB d) fun f=>xC (e.upd 8 f)
def c2X(e:a7):Reg:=xA (wB (e 8)) fun a=>xA (wB (e 8)) fun b=>xA (wJ b) fun c=>xA (wA none c) fun d=>xA (wB (e 6)) fun f=>xA (.minmax true [d,f]) fun g=>xA (wJ a) fun i=>xA (wF 1 i g) fun _=>xC e
def c1e(e:a7):Reg:=xA (wE .add (e 25) (.int .i64 1)) fun a=>xA (wB a) fun b=>xC (e.upd 25 b)
def a3Z:CC:=(.seq (.region c0G) (.seq (.cond (fun e=>e 26) .skip (.exit 0)) (.seq (.block 1 (.seq (.region b8a) (.seq (.region c0l) (.region c2X)))) (.region c1e))))
def c5f:=an (ro c4F.eq_1)<|an (ro b8k.eq_1)<|an (ro c0t.eq_1)<|an (ro c0G.eq_1)<|an (ro b8a.eq_1)<|an (ro c0l.eq_1)<|an (ro c2X.eq_1)<|ro c1e.eq_1
def b0s:CFn:=⟨(.seq (.seq (.region c4F) (.cond (fun e=>e 14) .ret .skip)) (.seq (.region b8k) (.seq (.region c0t) (.block 0 (.loop a3Z))))),[]⟩
def e5K:Pers:=⟨9,[14,24,25,26],40,[]⟩
def c4U(e:a7):Reg:=xA (wB (.int .i64 0)) fun a=>xC (e.upd 4 a)
def c0k(e:a7):Reg:=xA (wB (e 0)) fun a=>xA (wB (e 1)) fun b=>xA (wD 72 [a,b]) fun c=>xA (wB c) fun d=>xA (wG d 0) fun f=>xA (wG d 1) fun g=>xA (wB f) fun i=>xA (wB g) fun j=>xC ((e.upd 5 i).upd 6 j)
def b6X(e:a7):Reg:=xA (wB (e 6)) fun a=>xA (wP .not a) fun b=>xC (e.upd 14 b)
def c0g(e:a7):Reg:=xA (wB (e 0)) fun a=>xA (wE .lss a (.int .i64 0)) fun b=>xA (wB (e 1)) fun c=>xA (wE .lss c (.int .i64 0)) fun d=>xA (.eqK .bool true b d) fun f=>xA (wD 145 [f]) fun g=>xA (wB g) fun i=>xC (e.upd 4 i)
def b6Q(e:a7):Reg:=xA (wB (e 5)) fun a=>xA (wB a) fun b=>xC (e.upd 4 b)
def e7J:=an (ro c4U.eq_1)<|an (ro c0k.eq_1)<|an (ro b6X.eq_1)<|an (ro c0g.eq_1)<|ro b6Q.eq_1
def d9r:CFn:=⟨(.seq (.region c4U) (.seq (.region c0k) (.seq (.seq (.region b6X) (.cond (fun e=>e 14) (.seq (.region c0g) .ret) .skip)) (.seq (.region b6Q) .ret)))),[.t 4]⟩
def e3J:Pers:=⟨7,[14],22,[]⟩
def c0J(e:a7):Reg:=xA (wB (e 0)) fun a=>xA (.eqK .ptr false a (.pointer none)) fun b=>xC (e.upd 9 b)
def c3Q(e:a7):Reg:=xA (wB (e 0)) fun a=>xA (wJ a) fun b=>xA (wC 2 b) fun c=>xA (wA none c) fun d=>xA (wL d) fun f=>xA (wB (.int .i64 0)) fun g=>xC (((e.upd 13 d).upd 14 f).upd 15 g)
def c1O(e:a7):Reg:=xA (wE .lss (e 15) (e 14)) fun a=>xC (e.upd 16 a)
def c3R(e:a7):Reg:=xA (wB (e 15)) fun a=>xA (wI 4 (e 13) (e 15)) fun b=>xA (wA (some 4) b) fun c=>xA (wH 250 [(.int .i64 0),(.int .i64 0),(.int .i64 0),(.int .i64 0)]) fun d=>xA (wB a) fun f=>xA (wF 4 d c) fun _=>xC ((e.upd 5 d).upd 4 f)
def a4i(e:a7)(a b:Value):Reg:=xA (wG a 1) fun c=>xA (wB b) fun d=>xA (wB c) fun f=>xC ((e.upd 6 d).upd 7 f)
def c0f(e:a7):Reg:=xA (wB (e 0)) fun a=>xA (wJ a) fun b=>xA (wC 0 b) fun c=>xA (wA none c) fun d=>xA (wB (e 4)) fun f=>xA (wD 166 [d,f]) fun g=>xA (wB g) fun i=>xA (wG i 0) fun j=>a4i e i j
def c1v(e:a7):Reg:=xA (wB (e 7)) fun a=>xA (wB a) fun b=>xB b true (wB (e 1)) fun c=>xB b true (wB (e 6)) fun d=>xB b true (wA (some 4) (e 5)) fun f=>xB b true (.callv c [d,f]) fun g=>xB b true (wP .not g) fun i=>xA (wK b i (.bool false)) fun j=>xC (e.upd 36 j)
def b8g(e:a7):Reg:=xA (wE .add (e 15) (.int .i64 1)) fun a=>xA (wB a) fun b=>xC (e.upd 15 b)
def Z6:CC:=(.seq (.region c1O) (.seq (.cond (fun e=>e 16) .skip (.exit 0)) (.seq (.block 1 (.seq (.region c3R) (.seq (.region c0f) (.seq (.region c1v) (.cond (fun e=>e 36) .ret .skip))))) (.region b8g))))
def c5q:=an (ro c0J.eq_1)<|an (ro c3Q.eq_1)<|an (ro c1O.eq_1)<|an (ro c3R.eq_1)<|an (Q7 a4i.eq_1)<|an (ro c0f.eq_1)<|an (ro c1v.eq_1)<|ro b8g.eq_1
def b0Q:CFn:=⟨(.seq (.seq (.region c0J) (.cond (fun e=>e 9) .ret .skip)) (.seq (.region c3Q) (.block 0 (.loop Z6)))),[]⟩
def e2x:Pers:=⟨8,[9,13,14,15,16,36],38,[]⟩
def b9v(e:a7):Reg:=xA (wN 250 (e 0)) fun a=>xA (wN 126 (e 1)) fun b=>xA (wB (.bool false)) fun c=>xC (((e.upd 3 a).upd 4 b).upd 6 c)
def a4O(e:a7)(a b:Value):Reg:=xB a true (wB (e 2)) fun c=>xB a true (wC 1 (e 4)) fun d=>xB a true (wA none d) fun f=>xB a true (wE .sub c f) fun g=>xB a true (wE .leq b g) fun i=>xA (wK a i (.bool false)) fun j=>xA (wB j) fun k=>xC (e.upd 6 k)
def c2b(e:a7):Reg:=xA (wA (some 4) (e 3)) fun a=>xA (wA (some 4) (e 4)) fun b=>xA (wB (e 2)) fun c=>xA (wD 156 [a,b,c]) fun d=>xA (wP .not d) fun f=>xA (wB f) fun g=>xB g true (wC 0 (e 3)) fun i=>xB g true (wA none i) fun j=>a4O e g j
def d7P:=an (ro b9v.eq_1)<|an (Q7 a4O.eq_1)<|ro c2b.eq_1
def c163:CFn:=⟨(.seq (.region b9v) (.seq (.region c2b) .ret)),[.t 6]⟩
def e5r:Pers:=⟨7,[],21,[]⟩
def c4x(e:a7):Reg:=xA (wB (.int .i64 0)) fun a=>xA (wB (.int .i64 0)) fun b=>xC ((e.upd 4 a).upd 5 b)
def b8R(e:a7):Reg:=xA (wB (e 0)) fun a=>xA (wB (e 1)) fun b=>xA (wD 175 [a,b]) fun c=>xA (wB c) fun d=>xC (e.upd 6 d)
def c1Z(e:a7):Reg:=xA (wB (e 0)) fun a=>xA (wJ a) fun b=>xA (wC 4 b) fun c=>xA (wA none c) fun d=>xA (wB (e 6)) fun f=>xA (wI 1 d f) fun g=>xA (wA none g) fun i=>xA (wO .i64 i) fun j=>xA (wE .sub j (.int .i64 1)) fun k=>xA (wB k) fun m=>xC (e.upd 7 m)
def a4z(e:a7)(a b c:Value):Reg:=xB a false (wB (e 1)) fun d=>xB a false (wD 176 [b,c,d]) fun f=>xA (wK a (.bool true) f) fun g=>xC (e.upd 38 g)
def c0w(e:a7):Reg:=xA (wB (e 7)) fun a=>xA (wE .lss a (.int .i64 0)) fun b=>xA (wB b) fun c=>xB c false (wB (e 0)) fun d=>xB c false (wJ d) fun f=>xB c false (wC 0 f) fun g=>xB c false (wA none g) fun i=>xB c false (wB (e 7)) fun j=>a4z e c i j
def c1k(e:a7):Reg:=xA (wB (e 6)) fun a=>xA (wB (e 7)) fun b=>xA (wB a) fun c=>xA (wB b) fun d=>xC ((e.upd 4 c).upd 5 d)
def c2s(e:a7):Reg:=xA (wB (e 6)) fun a=>xA (wE .add a (.int .i64 1)) fun b=>xA (wB (e 0)) fun c=>xA (wJ c) fun d=>xA (wC 4 d) fun f=>xA (wA none f) fun g=>xA (wL g) fun i=>xA (wE .rem b i) fun j=>xA (wB j) fun k=>xC (e.upd 6 k)
def a1z:CC:=(.seq (.block 1 (.seq (.region c1Z) (.seq (.region c0w) (.cond (fun e=>e 38) (.seq (.region c1k) .ret) .skip)))) (.region c2s))
def d3A:=an (ro c4x.eq_1)<|an (ro b8R.eq_1)<|an (ro c1Z.eq_1)<|an (T4 a4z.eq_1)<|an (ro c0w.eq_1)<|an (ro c1k.eq_1)<|ro c2s.eq_1
def b1O:CFn:=⟨(.seq (.region c4x) (.seq (.region b8R) (.block 0 (.loop a1z)))),[.t 4,.t 5]⟩
def e3S:Pers:=⟨8,[38],41,[]⟩
def c1Q(e:a7):Reg:=xA (wB (.string ⟨#[]⟩)) fun a=>xA (wB (.bool false)) fun b=>xC ((e.upd 4 a).upd 5 b)
def c2D(e:a7):Reg:=xA (wB (e 0)) fun a=>xA (wB (e 1)) fun b=>xA (wD 177 [a,b]) fun c=>xA (wP .not c) fun d=>xC (e.upd 9 d)
def b7B(e:a7):Reg:=xA (wB (.string ⟨#[]⟩)) fun a=>xA (wB (.bool false)) fun b=>xC ((e.upd 4 a).upd 5 b)
def a4B(e:a7)(a b c d:Value):Reg:=xA (wE .add c d) fun f=>xA (.slice 5 1 a (some b) (some f)) fun g=>xA (.toStr g) fun i=>xA (wB i) fun j=>xA (wB (.bool true)) fun k=>xC ((e.upd 4 j).upd 5 k)
def a4X(e:a7)(a b c:Value):Reg:=xA (wB (e 0)) fun d=>xA (wJ d) fun f=>xA (wC 1 f) fun g=>xA (wA none g) fun i=>xA (wB (e 1)) fun j=>xA (wI 1 i j) fun k=>xA (wA none k) fun m=>xA (wO .i64 m) fun n=>a4B e a b c n
def b9i(e:a7):Reg:=xA (wB (e 0)) fun a=>xA (wJ a) fun b=>xA (wC 0 b) fun c=>xA (wA none c) fun d=>xA (wB (e 1)) fun f=>xA (wE .mul f (.int .i64 64)) fun g=>xA (wB (e 1)) fun i=>xA (wE .mul i (.int .i64 64)) fun j=>a4X e d g j
def e1L:=an (ro c1Q.eq_1)<|an (ro c2D.eq_1)<|an (ro b7B.eq_1)<|an (ro4 a4B.eq_1)<|an (T4 a4X.eq_1)<|ro b9i.eq_1
def c8X:CFn:=⟨(.seq (.region c1Q) (.seq (.seq (.region c2D) (.cond (fun e=>e 9) (.seq (.region b7B) .ret) .skip)) (.seq (.region b9i) .ret))),[.t 4,.t 5]⟩
def e3Y:Pers:=⟨6,[9],29,[]⟩
def c3K(e:a7):Reg:=xA (wB (.int .i64 0)) fun a=>xC (e.upd 4 a)
def c0z(e:a7):Reg:=xA (wB (e 0)) fun a=>xA (.eqK .ptr false a (.pointer none)) fun b=>xC (e.upd 13 b)
def c1U(e:a7):Reg:=xA (wB (.int .i64 (-1))) fun a=>xC (e.upd 4 a)
def b7w(e:a7):Reg:=xA (wB (e 0)) fun a=>xA (wB (e 1)) fun b=>xA (wD 165 [a,b]) fun c=>xA (wB c) fun d=>xA (wG d 0) fun f=>xA (wG d 1) fun g=>xA (wB f) fun i=>xA (wB g) fun j=>xC ((e.upd 5 i).upd 6 j)
def c1I(e:a7):Reg:=xA (wB (e 6)) fun a=>xA (wE .lss a (.int .i64 0)) fun b=>xC (e.upd 21 b)
def b8z(e:a7):Reg:=xA (wB (.int .i64 (-1))) fun a=>xC (e.upd 4 a)
def c3S(e:a7):Reg:=xA (wB (e 0)) fun a=>xA (wJ a) fun b=>xA (wC 4 b) fun c=>xA (wA none c) fun d=>xA (wL d) fun f=>xA (wB f) fun g=>xC (e.upd 7 g)
def b6S(e:a7):Reg:=xA (wB (e 0)) fun a=>xA (wJ a) fun b=>xA (wC 0 b) fun c=>xA (wA none c) fun d=>xA (wB (e 6)) fun f=>xA (wD 178 [d,f]) fun g=>xC e
def b6F(e:a7):Reg:=xA (wB (e 0)) fun a=>xA (wJ a) fun b=>xA (wC 4 b) fun c=>xA (wA none c) fun d=>xA (wB (e 5)) fun f=>xA (wI 1 d f) fun g=>xA (wF 1 g (.int .i32 0)) fun _=>xC e
def b8r(e:a7):Reg:=xA (wB (e 5)) fun a=>xA (wE .add a (.int .i64 1)) fun b=>xA (wB (e 7)) fun c=>xA (wE .rem b c) fun d=>xA (wB d) fun f=>xC (e.upd 8 f)
def b3n(e:a7):Reg:=xA (wB (e 0)) fun a=>xA (wJ a) fun b=>xA (wC 4 b) fun c=>xA (wA none c) fun d=>xA (wB (e 8)) fun f=>xA (wI 1 d f) fun g=>xA (wA none g) fun i=>xA (wE .gtr i (.int .i32 0)) fun j=>xC (e.upd 50 j)
def a3D(e:a7)(a:Value):Reg:=xA (wG a 0) fun b=>xA (wG a 1) fun c=>xA (wB b) fun d=>xA (wB c) fun f=>xC ((e.upd 9 d).upd 10 f)
def a3i(e:a7)(a b:Value):Reg:=xA (wB (e 8)) fun c=>xA (wI 1 b c) fun d=>xA (wA none d) fun f=>xA (wO .i64 f) fun g=>xA (wE .sub g (.int .i64 1)) fun i=>xD fun h13=>xA (wD 166 [a,i]) fun j=>xA (wB j) fun k=>a3D e k
def b2R(e:a7):Reg:=xA (wB (e 0)) fun a=>xA (wJ a) fun b=>xA (wC 0 b) fun c=>xA (wA none c) fun d=>xA (wB (e 0)) fun f=>xA (wJ f) fun g=>xA (wC 4 g) fun i=>xA (wA none i) fun j=>a3i e d j
def b1C(e:a7):Reg:=xA (wB (e 0)) fun a=>xA (wB (e 9)) fun b=>xA (wD 175 [a,b]) fun c=>xA (wB c) fun d=>xC (e.upd 11 d)
def a3z(e:a7)(a b:Value):Reg:=xA (wB (e 5)) fun c=>xA (wE .sub b c) fun d=>xA (wB (e 7)) fun f=>xA (wE .add d f) fun g=>xA (wB (e 7)) fun i=>xA (wE .rem g i) fun j=>xA (wE .lss a j) fun k=>xC (e.upd 89 k)
def b1p(e:a7):Reg:=xA (wB (e 8)) fun a=>xA (wB (e 11)) fun b=>xA (wE .sub a b) fun c=>xA (wB (e 7)) fun d=>xA (wE .add c d) fun f=>xA (wB (e 7)) fun g=>xA (wE .rem f g) fun i=>xA (wB (e 8)) fun j=>a3z e i j
def a3e(e:a7)(a b c d f:Value):Reg:=xA (wA none f) fun g=>xA (wI 1 a b) fun i=>xD fun h18=>xA (wF 1 i g) fun _=>xA (wI 1 c d) fun j=>xD fun h20=>xA (wF 1 j (.int .i32 0)) fun _=>xC e
def a3k(e:a7)(a b c:Value):Reg:=xA (wA none c) fun d=>xA (wB (e 8)) fun f=>xA (wB (e 0)) fun g=>xA (wJ g) fun i=>xA (wC 4 i) fun j=>xA (wA none j) fun k=>xA (wB (e 8)) fun m=>xA (wI 1 k m) fun n=>a3e e a b d f n
def b1Y(e:a7):Reg:=xA (wB (e 0)) fun a=>xA (wJ a) fun b=>xA (wC 4 b) fun c=>xA (wA none c) fun d=>xA (wB (e 5)) fun f=>xA (wB (e 0)) fun g=>xA (wJ g) fun i=>xA (wC 4 i) fun j=>a3k e d f j
def b1A(e:a7):Reg:=xA (wB (e 8)) fun a=>xA (wB a) fun b=>xC (e.upd 5 b)
def b2X(e:a7):Reg:=xA (wB (e 8)) fun a=>xA (wE .add a (.int .i64 1)) fun b=>xA (wB (e 7)) fun c=>xA (wE .rem b c) fun d=>xA (wB d) fun f=>xC (e.upd 8 f)
def a0R:CC:=(.seq (.seq (.region b3n) (.cond (fun e=>e 50) .skip (.exit 0))) (.seq (.block 1 (.seq (.region b2R) (.seq (.region b1C) (.seq (.seq (.region b1p) (.cond (fun e=>e 89) (.exit 1) .skip)) (.seq (.region b1Y) (.region b1A)))))) (.region b2X)))
def b1o(e:a7):Reg:=xA (wB (e 6)) fun a=>xA (wB a) fun b=>xC (e.upd 4 b)
def b4j:=an (ro c3K.eq_1)<|an (ro c0z.eq_1)<|an (ro c1U.eq_1)<|an (ro b7w.eq_1)<|an (ro c1I.eq_1)<|an (ro b8z.eq_1)<|an (ro c3S.eq_1)<|an (ro b6S.eq_1)<|an (ro b6F.eq_1)<|an (ro b8r.eq_1)<|an (ro b3n.eq_1)<|an (ro1 a3D.eq_1)<|an (Q7 a3i.eq_1)<|an (ro b2R.eq_1)<|an (ro b1C.eq_1)<|an (Q7 a3z.eq_1)<|an (ro b1p.eq_1)<|an (ro5 a3e.eq_1)<|an (T4 a3k.eq_1)<|an (ro b1Y.eq_1)<|an (ro b1A.eq_1)<|an (ro b2X.eq_1)<|ro b1o.eq_1
def a7o:CFn:=⟨(.seq (.region c3K) (.seq (.seq (.region c0z) (.cond (fun e=>e 13) (.seq (.region c1U) .ret) .skip)) (.seq (.region b7w) (.seq (.seq (.region c1I) (.cond (fun e=>e 21) (.seq (.region b8z) .ret) .skip)) (.seq (.region c3S) (.seq (.region b6S) (.seq (.region b6F) (.seq .skip (.seq (.seq (.region b8r) (.block 0 (.loop a0R))) (.seq (.region b1o) .ret)))))))))),[.t 4]⟩
def e4C:Pers:=⟨12,[13,21,50,89],111,[]⟩
def c0T(e:a7):Reg:=xA (wB (.int .i64 0)) fun a=>xC (e.upd 4 a)
def a6R(e:a7)(a b:Value):Reg:=xA (wK a (.bool true) b) fun c=>xA (wB c) fun d=>xB d false (wB (e 1)) fun f=>xB d false (.lenStr f) fun g=>xB d false (wE .gtr g (.int .i64 64)) fun i=>xA (wK d (.bool true) i) fun j=>xC (e.upd 19 j)
def b8p(e:a7):Reg:=xA (wB (e 0)) fun a=>xA (.eqK .ptr false a (.pointer none)) fun b=>xA (wB b) fun c=>xB c false (wB (e 0)) fun d=>xB c false (wJ d) fun f=>xB c false (wC 3 f) fun g=>xB c false (wA none g) fun i=>xB c false (wE .lss i (.int .i32 0)) fun j=>a6R e c j
def b9c(e:a7):Reg:=xA (wB (.int .i64 (-1))) fun a=>xC (e.upd 4 a)
def b6a(e:a7):Reg:=xA (wB (e 0)) fun a=>xA (wJ a) fun b=>xA (wC 3 b) fun c=>xA (wA none c) fun d=>xA (wO .i64 d) fun f=>xA (wB f) fun g=>xC (e.upd 5 g)
def a6O(e:a7)(a b:Value):Reg:=xA (wJ a) fun c=>xA (wC 3 c) fun d=>xA (wF 1 d b) fun _=>xC e
def b9P(e:a7):Reg:=xA (wB (e 0)) fun a=>xA (wB (e 0)) fun b=>xA (wJ b) fun c=>xA (wC 2 c) fun d=>xA (wA none d) fun f=>xA (wB (e 5)) fun g=>xA (wI 1 f g) fun i=>xA (wA none i) fun j=>a6O e a j
def c0W(e:a7):Reg:=xA (wB (e 0)) fun a=>xA (wJ a) fun b=>xA (wC 0 b) fun c=>xA (wA none c) fun d=>xA (wB (e 5)) fun f=>xA (wE .mul f (.int .i64 64)) fun g=>xA (.slice 5 1 d (some g) none) fun i=>xA (wB (e 1)) fun j=>xA (.copy 1 i j) fun k=>xC e
def c3s(e:a7):Reg:=xA (wB (e 0)) fun a=>xA (wJ a) fun b=>xA (wC 1 b) fun c=>xA (wA none c) fun d=>xA (wB (e 5)) fun f=>xA (wB (e 1)) fun g=>xA (.lenStr g) fun i=>xA (wO .i8 i) fun j=>xA (wI 1 d f) fun k=>xA (wF 1 k j) fun _=>xC e
def c2o(e:a7):Reg:=xA (wB (e 0)) fun a=>xA (wJ a) fun b=>xA (wC 4 b) fun c=>xA (wA none c) fun d=>xA (wE .add d (.int .i64 1)) fun f=>xA (wJ a) fun g=>xA (wC 4 g) fun i=>xA (wF 1 i f) fun _=>xC e
def b9e(e:a7):Reg:=xA (wB (e 5)) fun a=>xA (wB a) fun b=>xC (e.upd 4 b)
def e7n:=an (ro c0T.eq_1)<|an (Q7 a6R.eq_1)<|an (ro b8p.eq_1)<|an (ro b9c.eq_1)<|an (ro b6a.eq_1)<|an (Q7 a6O.eq_1)<|an (ro b9P.eq_1)<|an (ro c0W.eq_1)<|an (ro c3s.eq_1)<|an (ro c2o.eq_1)<|ro b9e.eq_1
def d8w:CFn:=⟨(.seq (.region c0T) (.seq (.seq (.region b8p) (.cond (fun e=>e 19) (.seq (.region b9c) .ret) .skip)) (.seq (.region b6a) (.seq (.region b9P) (.seq (.region c0W) (.seq (.region c3s) (.seq (.region c2o) (.seq (.region b9e) .ret)))))))),[.t 4]⟩
def e5y:Pers:=⟨6,[19],61,[]⟩
def b6e(e:a7):Reg:=xA (wB (.int .i64 0)) fun a=>xA (wB (.int .i64 0)) fun b=>xA (wB (.bool false)) fun c=>xC (((e.upd 4 a).upd 5 b).upd 6 c)
def b8h(e:a7):Reg:=xA (wB (e 0)) fun a=>xA (.eqK .ptr false a (.pointer none)) fun b=>xC (e.upd 9 b)
def c0b(e:a7):Reg:=xA (wB (.int .i64 0)) fun a=>xA (wB (.int .i64 0)) fun b=>xA (wB (.bool false)) fun c=>xC (((e.upd 4 a).upd 5 b).upd 6 c)
def b5T(e:a7):Reg:=xA (wB (e 0)) fun a=>xA (wJ a) fun b=>xA (wC 1 b) fun c=>xA (wA none c) fun d=>xA (wB (e 1)) fun f=>xA (wD 147 [d,f]) fun g=>xA (wB g) fun i=>xC (e.upd 7 i)
def b5G(e:a7):Reg:=xA (wB (e 7)) fun a=>xA (wE .lss a (.int .i64 0)) fun b=>xC (e.upd 17 b)
def b8s(e:a7):Reg:=xA (wB (.int .i64 0)) fun a=>xA (wB (.int .i64 0)) fun b=>xA (wB (.bool false)) fun c=>xC (((e.upd 4 a).upd 5 b).upd 6 c)
def a4N(e:a7)(a b:Value):Reg:=xA (wJ b) fun c=>xA (wC 3 c) fun d=>xA (wA none d) fun f=>xA (wB (e 7)) fun g=>xA (wI 1 f g) fun i=>xA (wA none i) fun j=>xA (wB a) fun k=>xA (wB j) fun m=>xA (wB (.bool true)) fun n=>xC (((e.upd 4 k).upd 5 m).upd 6 n)
def c2n(e:a7):Reg:=xA (wB (e 0)) fun a=>xA (wJ a) fun b=>xA (wC 2 b) fun c=>xA (wA none c) fun d=>xA (wB (e 7)) fun f=>xA (wI 1 d f) fun g=>xA (wA none g) fun i=>xA (wB (e 0)) fun j=>a4N e i j
def e0D:=an (ro b6e.eq_1)<|an (ro b8h.eq_1)<|an (ro c0b.eq_1)<|an (ro b5T.eq_1)<|an (ro b5G.eq_1)<|an (ro b8s.eq_1)<|an (Q7 a4N.eq_1)<|ro c2n.eq_1
def c5Z:CFn:=⟨(.seq (.region b6e) (.seq (.seq (.region b8h) (.cond (fun e=>e 9) (.seq (.region c0b) .ret) .skip)) (.seq (.region b5T) (.seq (.seq (.region b5G) (.cond (fun e=>e 17) (.seq (.region b8s) .ret) .skip)) (.seq (.region c2n) .ret))))),[.t 4,.t 5,.t 6]⟩
def e3B:Pers:=⟨8,[9,17],32,[]⟩
def c2m(e:a7):Reg:=xA (wB (.int .i64 0)) fun a=>xC (e.upd 2 a)
def a5T(e:a7)(a:Value)(h4:Heap)(b c:Value):Reg:=xB a false (wC 2 c) fun d=>xB a false (wA none d) fun f=>xE (some (a,false)) (some h4) (.load none d) f<|xB a false (wL f) fun g=>xB a false (wE .lss b g) fun i=>xA (wK a (.bool true) i) fun j=>xC (e.upd 14 j)
def c4l(e:a7):Reg:=xA (wB (e 0)) fun a=>xA (.eqK .ptr false a (.pointer none)) fun b=>xA (wB b) fun c=>xB c false (wB (e 0)) fun d=>xD fun h4=>xB c false (wD 148 [d]) fun f=>xB c false (wB (e 0)) fun g=>xB c false (wJ g) fun i=>a5T e c h4 f i
def c1o(e:a7):Reg:=xA (wB (.int .i64 0)) fun a=>xC (e.upd 2 a)
def a5R(e:a7)(a b:Value):Reg:=xA (wI 1 a b) fun c=>xA (wA none c) fun d=>xA (wB d) fun f=>xC (e.upd 2 f)
def a5f(e:a7)(a b:Value):Reg:=xA (wB (e 0)) fun c=>xA (wJ c) fun d=>xA (wC 2 d) fun f=>xA (wA none f) fun g=>xA (wL g) fun i=>xA (wE .sub i (.int .i64 1)) fun j=>xA (wI 1 b j) fun k=>xA (wA none k) fun m=>a5R e a m
def b8P(e:a7):Reg:=xA (wB (e 0)) fun a=>xA (wJ a) fun b=>xA (wC 2 b) fun c=>xA (wA none c) fun d=>xA (wB (e 0)) fun f=>xA (wJ f) fun g=>xA (wC 4 g) fun i=>xA (wA none i) fun j=>a5f e d j
def e3h:=an (ro c2m.eq_1)<|an (ro4 a5T.eq_1)<|an (ro c4l.eq_1)<|an (ro c1o.eq_1)<|an (Q7 a5R.eq_1)<|an (Q7 a5f.eq_1)<|ro b8P.eq_1
def d4x:CFn:=⟨(.seq (.region c2m) (.seq (.seq (.region c4l) (.cond (fun e=>e 14) (.seq (.region c1o) .ret) .skip)) (.seq (.region b8P) .ret))),[.t 2]⟩
def e2f:Pers:=⟨3,[14],33,[]⟩
def b7A(e:a7):Reg:=xA (wB (.pointer none)) fun a=>xC (e.upd 4 a)
def c0F(e:a7):Reg:=xA (wB (e 1)) fun a=>xA (wE .lss a (.int .i64 0)) fun b=>xC (e.upd 7 b)
def b7X(e:a7):Reg:=xA (wB (.pointer none)) fun a=>xC (e.upd 4 a)
def c4X(e:a7):Reg:=xA (wB (e 1)) fun a=>xA (wB (e 0)) fun b=>xA (wJ b) fun c=>xA (wC 0 c) fun d=>xA (wA none d) fun f=>xA (wL f) fun g=>xA (wE .rem a g) fun i=>xA (wB i) fun j=>xC (e.upd 5 j)
def b6z(e:a7):Reg:=xA (wB (e 0)) fun a=>xA (wJ a) fun b=>xA (wC 1 b) fun c=>xA (wA none c) fun d=>xA (wB (e 5)) fun f=>xA (wI 1 d f) fun g=>xA (wA none g) fun i=>xA (wB (e 1)) fun j=>xA (wE .add j (.int .i64 1)) fun k=>xA (wE .neq i k) fun m=>xC (e.upd 24 m)
def c1K(e:a7):Reg:=xA (wB (.pointer none)) fun a=>xC (e.upd 4 a)
def b5J(e:a7):Reg:=xA (wB (e 0)) fun a=>xA (wJ a) fun b=>xA (wC 0 b) fun c=>xA (wA none c) fun d=>xA (wB (e 5)) fun f=>xA (wI 1 d f) fun g=>xA (wA none g) fun i=>xA (wB i) fun j=>xC (e.upd 4 j)
def e1k:=an (ro b7A.eq_1)<|an (ro c0F.eq_1)<|an (ro b7X.eq_1)<|an (ro c4X.eq_1)<|an (ro b6z.eq_1)<|an (ro c1K.eq_1)<|ro b5J.eq_1
def c6v:CFn:=⟨(.seq (.region b7A) (.seq (.seq (.region c0F) (.cond (fun e=>e 7) (.seq (.region b7X) .ret) .skip)) (.seq (.region c4X) (.seq (.seq (.region b6z) (.cond (fun e=>e 24) (.seq (.region c1K) .ret) .skip)) (.seq (.region b5J) .ret))))),[.t 4]⟩
def e5Q:Pers:=⟨6,[7,24],32,[]⟩
def c0M(e:a7):Reg:=xA (wB (.int .i64 0)) fun a=>xC (e.upd 4 a)
def b6Y(e:a7):Reg:=xA (wB (e 0)) fun a=>xA (.eqK .ptr false a (.pointer none)) fun b=>xC (e.upd 8 b)
def b8e(e:a7):Reg:=xA (wB (.int .i64 0)) fun a=>xC (e.upd 4 a)
def c2Y(e:a7):Reg:=xA (wB (e 0)) fun a=>xA (wB (e 1)) fun b=>xA (wD 174 [a,(.int .i64 0),b]) fun c=>xA (wJ c) fun d=>xA (wA none d) fun f=>xA (wB f) fun g=>xC (e.upd 5 g)
def b6U(e:a7):Reg:=xA (wB (.int .i64 1)) fun a=>xC (e.upd 6 a)
def c3q(e:a7):Reg:=xA (wB (e 6)) fun a=>xA (wB (e 0)) fun b=>xA (wJ b) fun c=>xA (wC 0 c) fun d=>xA (wA none d) fun f=>xA (wL f) fun g=>xA (wE .lss a g) fun i=>xC (e.upd 20 i)
def c3g(e:a7):Reg:=xA (wB (e 5)) fun a=>xA (wB (e 0)) fun b=>xA (wB (e 6)) fun c=>xA (wB (e 1)) fun d=>xA (wD 174 [b,c,d]) fun f=>xA (wJ f) fun g=>xA (wA none g) fun i=>xA (.minmax false [a,i]) fun j=>xA (wB j) fun k=>xC (e.upd 5 k)
def c3l(e:a7):Reg:=xA (wB (e 6)) fun a=>xA (wE .add a (.int .i64 1)) fun b=>xA (wB b) fun c=>xC (e.upd 6 c)
def a3Y:CC:=(.seq (.seq (.region c3q) (.cond (fun e=>e 20) .skip (.exit 0))) (.seq (.block 1 (.region c3g)) (.region c3l)))
def c2y(e:a7):Reg:=xA (wB (e 5)) fun a=>xA (wB a) fun b=>xC (e.upd 4 b)
def c6O:=an (ro c0M.eq_1)<|an (ro b6Y.eq_1)<|an (ro b8e.eq_1)<|an (ro c2Y.eq_1)<|an (ro b6U.eq_1)<|an (ro c3q.eq_1)<|an (ro c3g.eq_1)<|an (ro c3l.eq_1)<|ro c2y.eq_1
def b0e:CFn:=⟨(.seq (.region c0M) (.seq (.seq (.region b6Y) (.cond (fun e=>e 8) (.seq (.region b8e) .ret) .skip)) (.seq (.region c2Y) (.seq (.seq (.region b6U) (.block 0 (.loop a3Y))) (.seq (.region c2y) .ret))))),[.t 4]⟩
def e2g:Pers:=⟨7,[8,20],32,[]⟩
def b8x(e:a7):Reg:=xA (wB (.int .i64 0)) fun a=>xC (e.upd 6 a)
def c4r(e:a7):Reg:=xA (wB (e 0)) fun a=>xA (wJ a) fun b=>xA (wC 5 b) fun c=>xA (wA none c) fun d=>xA (wP .not d) fun f=>xC (e.upd 13 f)
def c2F(e:a7):Reg:=xA (wB (e 1)) fun a=>xA (wB a) fun b=>xC (e.upd 6 b)
def a7f(e:a7)(a:Value):Reg:=xA (wB a) fun b=>xA (wG b 0) fun c=>xA (wG b 1) fun d=>xA (wB c) fun f=>xA (wB d) fun g=>xC ((e.upd 7 f).upd 8 g)
def a4j(e:a7)(a b:Value):Reg:=xA (wO .u64 b) fun c=>xA (wB (e 0)) fun d=>xA (wJ d) fun f=>xA (wC 2 f) fun g=>xA (wA none g) fun i=>xA (wO .u64 i) fun j=>xD fun h14=>xA (wD 179 [a,c,j]) fun k=>a7f e k
def c2P(e:a7):Reg:=xA (wB (e 1)) fun a=>xA (wO .u64 a) fun b=>xA (wB (e 0)) fun c=>xA (wJ c) fun d=>xA (wC 2 d) fun f=>xA (wA none f) fun g=>xA (wB (e 2)) fun i=>xA (wE .sub g i) fun j=>a4j e b j
def b5H(e:a7):Reg:=xA (wB (e 7)) fun a=>xA (wO .i64 a) fun b=>xA (wB b) fun c=>xC (e.upd 6 c)
def e1U:=an (ro b8x.eq_1)<|an (ro c4r.eq_1)<|an (ro c2F.eq_1)<|an (ro1 a7f.eq_1)<|an (Q7 a4j.eq_1)<|an (ro c2P.eq_1)<|ro b5H.eq_1
def c9g:CFn:=⟨(.seq (.region b8x) (.seq (.seq (.region c4r) (.cond (fun e=>e 13) (.seq (.region c2F) .ret) .skip)) (.seq (.region c2P) (.seq (.region b5H) .ret)))),[.t 6]⟩
def e5N:Pers:=⟨9,[13],35,[]⟩
def c0v(e:a7):Reg:=xA (wB (.pointer none)) fun a=>xC (e.upd 6 a)
def a6K(e:a7)(a b c d f g:Value):Reg:=xE none none (wA none c) d<|xE none none (wA none a) b<|xA (wE .add f g) fun i=>xA (wI 1 b i) fun j=>xA (wB j) fun k=>xC (e.upd 6 k)
def a6G(e:a7)(a b c d f g:Value):Reg:=xA (wA (some 3) g) fun i=>xA (wB (e 2)) fun j=>xA (wB (e 0)) fun k=>xA (wJ k) fun m=>xA (wC 1 m) fun n=>xA (wA none n) fun o=>xD fun h22=>xA (wD 180 [i,j,o]) fun p=>a6K e a b c d f p
def a6v(e:a7)(a b c d:Value):Reg:=xA (wA none d) fun f=>xA (wE .mul c f) fun g=>xA (wB (e 0)) fun i=>xA (wJ i) fun j=>xA (wC 0 j) fun k=>xA (wA none k) fun m=>xA (wB (e 1)) fun n=>xA (wI 3 m n) fun o=>a6G e a b d f g o
def c0A(e:a7):Reg:=xA (wB (e 0)) fun a=>xA (wJ a) fun b=>xA (wC 2 b) fun c=>xA (wA none c) fun d=>xA (wB (e 1)) fun f=>xA (wB (e 0)) fun g=>xA (wJ g) fun i=>xA (wC 1 i) fun j=>a6v e c d f j
def e9a:=an (ro c0v.eq_1)<|an (ro6 a6K.eq_1)<|an (ro6 a6G.eq_1)<|an (ro4 a6v.eq_1)<|ro c0A.eq_1
def d9E:CFn:=⟨(.seq (.region c0v) (.seq (.region c0A) .ret)),[.t 6]⟩
def e2l:Pers:=⟨7,[],32,[]⟩
def b8H(e:a7):Reg:=xA (wB (.int .i64 0)) fun a=>xC (e.upd 4 a)
def a4A(e:a7)(a b c:Value):Reg:=xA (wA none c) fun d=>xA (wL d) fun f=>xD fun h10=>xA (wD 180 [a,b,f]) fun g=>xA (wB g) fun i=>xC (e.upd 4 i)
def c3U(e:a7):Reg:=xA (wB (e 0)) fun a=>xA (wJ a) fun b=>xA (wC 1 b) fun c=>xA (wA (some 3) c) fun d=>xA (wB (e 1)) fun f=>xA (wB (e 0)) fun g=>xA (wJ g) fun i=>xA (wC 4 i) fun j=>a4A e d f j
def e6v:=an (ro b8H.eq_1)<|an (T4 a4A.eq_1)<|ro c3U.eq_1
def d8z:CFn:=⟨(.seq (.region b8H) (.seq (.region c3U) .ret)),[.t 4]⟩
def e2J:Pers:=⟨5,[],16,[]⟩
def b5L(e:a7):Reg:=xA (wB (.bool false)) fun a=>xC (e.upd 6 a)
def a4L(e:a7)(a b:Value):Reg:=xB a true (wB (e 2)) fun c=>xB a true (wE .eql b c) fun d=>xA (wK a d (.bool false)) fun f=>xA (wB f) fun g=>xC (e.upd 6 g)
def a6H(e:a7)(a b c d f:Value):Reg:=xB a true (wA none f) fun g=>xB a true (wB (e 1)) fun i=>xB a true (wI 1 g i) fun j=>xB a true (wA none j) fun k=>xB a true (wO .i64 k) fun m=>xB a true (wE .add d m) fun n=>xB a true (.slice 5 1 b (some c) (some n)) fun o=>xB a true (.toStr o) fun p=>a4L e a p
def a5x(e:a7)(a b:Value):Reg:=xB a true (wA none b) fun c=>xB a true (wB (e 1)) fun d=>xB a true (wE .mul d (.int .i64 64)) fun f=>xB a true (wB (e 1)) fun g=>xB a true (wE .mul g (.int .i64 64)) fun i=>xB a true (wB (e 0)) fun j=>xB a true (wJ j) fun k=>xB a true (wC 1 k) fun m=>a6H e a c f i m
def c4z(e:a7):Reg:=xA (wB (e 0)) fun a=>xA (wB (e 1)) fun b=>xD fun h2=>xA (wD 177 [a,b]) fun c=>xA (wB c) fun d=>xB d true (wB (e 0)) fun f=>xB d true (wJ f) fun g=>xB d true (wC 0 g) fun i=>a5x e d i
def e7q:=an (ro b5L.eq_1)<|an (Q7 a4L.eq_1)<|an (ro5 a6H.eq_1)<|an (Q7 a5x.eq_1)<|ro c4z.eq_1
def d7K:CFn:=⟨(.seq (.region b5L) (.seq (.region c4z) .ret)),[.t 6]⟩
def e5C:Pers:=⟨7,[],33,[]⟩
def c1x(e:a7):Reg:=xA (wB (.bool false)) fun a=>xC (e.upd 4 a)
def a5C(e:a7)(a b:Value):Reg:=xB a true (wE .geq b (.int .i8 0)) fun c=>xA (wK a c (.bool false)) fun d=>xA (wB d) fun f=>xC (e.upd 4 f)
def a5z(e:a7)(a:Value):Reg:=xA (wB a) fun b=>xB b true (wB (e 0)) fun c=>xB b true (wJ c) fun d=>xB b true (wC 1 d) fun f=>xB b true (wA none f) fun g=>xB b true (wB (e 1)) fun i=>xB b true (wI 1 g i) fun j=>xB b true (wA none j) fun k=>a5C e b k
def b7r(e:a7):Reg:=xA (wB (e 1)) fun a=>xA (wE .geq a (.int .i64 0)) fun b=>xA (wB b) fun c=>xB c true (wB (e 1)) fun d=>xB c true (wB (e 0)) fun f=>xB c true (wD 100 [f]) fun g=>xB c true (wE .lss d g) fun i=>xA (wK c i (.bool false)) fun j=>a5z e j
def e1h:=an (ro c1x.eq_1)<|an (Q7 a5C.eq_1)<|an (ro1 a5z.eq_1)<|ro b7r.eq_1
def c6t:CFn:=⟨(.seq (.region c1x) (.seq (.region b7r) .ret)),[.t 4]⟩
def e3p:Pers:=⟨5,[],23,[]⟩
def c2K(e:a7):Reg:=xA (wB (e 0)) fun a=>xA (wB (e 1)) fun b=>xA (wD 177 [a,b]) fun c=>xC (e.upd 6 c)
def a6D(e:a7)(a b c d:Value):Reg:=xA (wF 1 d (.int .i8 (-1))) fun _=>xA (wI 1 a b) fun f=>xD fun h17=>xA (wF 1 f c) fun _=>xC e
def a5u(e:a7)(a b c:Value):Reg:=xA (wA none c) fun d=>xA (wB (e 1)) fun f=>xA (wB (e 0)) fun g=>xA (wJ g) fun i=>xA (wC 3 i) fun j=>xA (wA none j) fun k=>xA (wI 1 a b) fun m=>xD fun h15=>a6D e d f k m
def c2R(e:a7):Reg:=xA (wB (e 0)) fun a=>xA (wJ a) fun b=>xA (wC 1 b) fun c=>xA (wA none c) fun d=>xA (wB (e 1)) fun f=>xA (wB (e 0)) fun g=>xA (wJ g) fun i=>xA (wC 2 i) fun j=>a5u e d f j
def c0Y(e:a7):Reg:=xA (wB (e 0)) fun a=>xA (wB (e 1)) fun b=>xA (wO .i32 b) fun c=>xA (wJ a) fun d=>xA (wC 3 d) fun f=>xA (wF 1 f c) fun _=>xC e
def c1P(e:a7):Reg:=xA (wB (e 0)) fun a=>xA (wJ a) fun b=>xA (wC 4 b) fun c=>xA (wA none c) fun d=>xA (wE .sub d (.int .i64 1)) fun f=>xA (wJ a) fun g=>xA (wC 4 g) fun i=>xA (wF 1 i f) fun _=>xC e
def e9m:=an (ro c2K.eq_1)<|an (ro4 a6D.eq_1)<|an (T4 a5u.eq_1)<|an (ro c2R.eq_1)<|an (ro c0Y.eq_1)<|ro c1P.eq_1
def d8s:CFn:=⟨(.seq (.region c2K) (.cond (fun e=>e 6) (.seq (.region c2R) (.seq (.region c0Y) (.region c1P))) .skip)),[]⟩
def e3w:Pers:=⟨4,[6],35,[]⟩
def b6d(e:a7):Reg:=xA (wB (.int .u64 0)) fun a=>xA (wB (.bool false)) fun b=>xC ((e.upd 6 a).upd 7 b)
def a5q(e:a7)(a b c:Value):Reg:=xA (wB a) fun d=>xA (wB b) fun f=>xA (wB c) fun g=>xC (((e.upd 8 d).upd 9 f).upd 10 g)
def b7v(e:a7):Reg:=xA (wB (e 0)) fun a=>xA (wB (e 1)) fun b=>xA (wB (e 2)) fun c=>xA (wD 181 [a,b,c]) fun d=>xA (wB d) fun f=>xA (wG f 0) fun g=>xA (wG f 1) fun i=>xA (wG f 2) fun j=>a5q e g i j
def c2T(e:a7):Reg:=xA (wB (e 10)) fun a=>xA (wP .not a) fun b=>xA (wB b) fun c=>xB c false (wB (e 9)) fun d=>xB c false (wE .gtr d (.int .u64 0)) fun f=>xB c false (wB f) fun g=>xB g true (wB (e 8)) fun i=>xB g true (wE .eql i (.int .u64 18446744073709551615)) fun j=>xB c false (wK g j (.bool false)) fun k=>xA (wK c (.bool true) k) fun m=>xC (e.upd 28 m)
def b9C(e:a7):Reg:=xA (wB (.int .u64 0)) fun a=>xA (wB (.bool false)) fun b=>xC ((e.upd 6 a).upd 7 b)
def c2M(e:a7):Reg:=xA (wB (e 9)) fun a=>xA (wE .gtr a (.int .u64 0)) fun b=>xC (e.upd 30 b)
def c3n(e:a7):Reg:=xA (wB (e 8)) fun a=>xA (wE .add a (.int .u64 1)) fun b=>xA (wB b) fun c=>xC (e.upd 8 c)
def b7x(e:a7):Reg:=xA (wB (e 8)) fun a=>xA (wB a) fun b=>xA (wB (.bool true)) fun c=>xC ((e.upd 6 b).upd 7 c)
def e2U:=an (ro b6d.eq_1)<|an (T4 a5q.eq_1)<|an (ro b7v.eq_1)<|an (ro c2T.eq_1)<|an (ro b9C.eq_1)<|an (ro c2M.eq_1)<|an (ro c3n.eq_1)<|ro b7x.eq_1
def d4w:CFn:=⟨(.seq (.region b6d) (.seq (.region b7v) (.seq (.seq (.region c2T) (.cond (fun e=>e 28) (.seq (.region b9C) .ret) .skip)) (.seq (.seq (.region c2M) (.cond (fun e=>e 30) (.region c3n) .skip)) (.seq (.region b7x) .ret))))),[.t 6,.t 7]⟩
def e1V:Pers:=⟨11,[28,30],34,[]⟩
def b5N(e:a7):Reg:=xA (wN 182 (e 0)) fun a=>xA (wB (.int .i64 0)) fun b=>xC ((e.upd 3 a).upd 6 b)
def b6w(e:a7):Reg:=xA (wA (some 3) (e 3)) fun a=>xA (wB (e 1)) fun b=>xA (wD 183 [a,b]) fun c=>xA (wB (e 2)) fun d=>xA (wD 182 [c,d]) fun f=>xA (wB f) fun g=>xC (e.upd 6 g)
def e6Z:=an (ro b5N.eq_1)<|ro b6w.eq_1
def d8x:CFn:=⟨(.seq (.region b5N) (.seq (.region b6w) .ret)),[.t 6]⟩
def e6f:Pers:=⟨7,[],12,[]⟩
def b7N(e:a7):Reg:=xA (wB (.int .u64 0)) fun a=>xA (wB (.int .u64 0)) fun b=>xA (wB (.bool false)) fun c=>xC (((e.upd 6 a).upd 7 b).upd 8 c)
def c1E(e:a7):Reg:=xA (wB (e 0)) fun a=>xA (wB (e 1)) fun b=>xA (wD 85 [a,b]) fun c=>xA (wB c) fun d=>xA (wG d 0) fun f=>xA (wG d 1) fun g=>xA (wB f) fun i=>xA (wB g) fun j=>xC ((e.upd 9 i).upd 10 j)
def b5O(e:a7):Reg:=xA (wB (e 2)) fun a=>xA (wE .eql a (.int .u64 0)) fun b=>xA (wB b) fun c=>xB c false (wB (e 9)) fun d=>xB c false (wB (e 2)) fun f=>xB c false (wE .geq d f) fun g=>xA (wK c (.bool true) g) fun i=>xC (e.upd 25 i)
def c4S(e:a7):Reg:=xA (wB (.int .u64 0)) fun a=>xA (wB (.int .u64 0)) fun b=>xA (wB (.bool false)) fun c=>xC (((e.upd 6 a).upd 7 b).upd 8 c)
def b8b(e:a7):Reg:=xA (wB (e 9)) fun a=>xA (wB (e 10)) fun b=>xA (wB (e 2)) fun c=>xA (wD 184 [a,b,c]) fun d=>xA (wB d) fun f=>xA (wG f 0) fun g=>xA (wG f 1) fun i=>xA (wB g) fun j=>xA (wB i) fun k=>xC ((e.upd 11 j).upd 12 k)
def c0s(e:a7):Reg:=xA (wB (e 11)) fun a=>xA (wB (e 12)) fun b=>xA (wB a) fun c=>xA (wB b) fun d=>xA (wB (.bool true)) fun f=>xC (((e.upd 6 c).upd 7 d).upd 8 f)
def e6x:=an (ro b7N.eq_1)<|an (ro c1E.eq_1)<|an (ro b5O.eq_1)<|an (ro c4S.eq_1)<|an (ro b8b.eq_1)<|ro c0s.eq_1
def d9j:CFn:=⟨(.seq (.region b7N) (.seq (.region c1E) (.seq (.seq (.region b5O) (.cond (fun e=>e 25) (.seq (.region c4S) .ret) .skip)) (.seq (.region b8b) (.seq (.region c0s) .ret))))),[.t 6,.t 7,.t 8]⟩
def e1T:Pers:=⟨13,[25],35,[]⟩
def c4k(e:a7):Reg:=xA (wB (.int .i64 0)) fun a=>xC (e.upd 4 a)
def c2l(e:a7):Reg:=xA (wB (e 1)) fun a=>xA (wE .lss a (.int .i64 1)) fun b=>xC (e.upd 8 b)
def b8I(e:a7):Reg:=xA (wB (.int .i64 0)) fun a=>xC (e.upd 4 a)
def b8i(e:a7):Reg:=xA (wB (e 0)) fun a=>xA (wB (e 1)) fun b=>xA (wO .u64 b) fun c=>xA (wD 185 [a,c,(.int .u64 2305843009213693951)]) fun d=>xA (wB d) fun f=>xA (wG f 0) fun g=>xA (wG f 1) fun i=>xA (wB g) fun j=>xA (wB i) fun k=>xC ((e.upd 5 j).upd 6 k)
def c4s(e:a7):Reg:=xA (wB (e 5)) fun a=>xA (wO .i64 a) fun b=>xA (wB b) fun c=>xC (e.upd 4 c)
def e8V:=an (ro c4k.eq_1)<|an (ro c2l.eq_1)<|an (ro b8I.eq_1)<|an (ro b8i.eq_1)<|ro c4s.eq_1
def d8L:CFn:=⟨(.seq (.region c4k) (.seq (.seq (.region c2l) (.cond (fun e=>e 8) (.seq (.region b8I) .ret) .skip)) (.seq (.region b8i) (.seq (.region c4s) .ret)))),[.t 4]⟩
def e2b:Pers:=⟨7,[8],18,[]⟩
def c2d(e:a7):Reg:=xA (wN 182 (e 0)) fun a=>xA (wB (.int .u64 0)) fun b=>xC ((e.upd 2 a).upd 4 b)
def c2p(e:a7):Reg:=xA (wB (e 1)) fun a=>xA (.lenStr a) fun b=>xA (wO .u64 b) fun c=>xA (wE .add c (.int .u64 1)) fun d=>xA (wB d) fun f=>xC (e.upd 5 f)
def b7g(e:a7):Reg:=xA (wB (.int .i64 0)) fun a=>xC (e.upd 6 a)
def c1r(e:a7):Reg:=xA (wB (e 6)) fun a=>xA (wB (e 1)) fun b=>xA (.lenStr b) fun c=>xA (wE .lss a c) fun d=>xC (e.upd 14 d)
def a5P(e:a7)(a b c d:Value):Reg:=xA (wE .add d (.int .i64 7)) fun f=>xA (wB (e 1)) fun g=>xA (.lenStr g) fun i=>xA (.minmax false [f,i]) fun j=>xA (.sliceStr b (some c) (some j)) fun k=>xD fun h12=>xA (wD 188 [k]) fun m=>xD fun h13=>xA (wD 186 [a,m]) fun n=>xA (wB n) fun o=>xC (e.upd 5 o)
def b9s(e:a7):Reg:=xA (wB (e 5)) fun a=>xA (wC 0 (e 2)) fun b=>xA (wA none b) fun c=>xD fun h3=>xA (wD 187 [a,c]) fun d=>xA (wB (e 1)) fun f=>xA (wB (e 6)) fun g=>xA (wB (e 6)) fun i=>a5P e d f g i
def c1V(e:a7):Reg:=xA (wB (e 6)) fun a=>xA (wE .add a (.int .i64 7)) fun b=>xA (wB b) fun c=>xC (e.upd 6 c)
def a4c:CC:=(.seq (.seq (.region c1r) (.cond (fun e=>e 14) .skip (.exit 0))) (.seq (.block 1 (.region b9s)) (.region c1V)))
def a4G(e:a7)(a b:Value):Reg:=xD fun h6=>xA (wD 186 [a,b]) fun c=>xA (wB c) fun d=>xC (e.upd 4 d)
def b5F(e:a7):Reg:=xA (wB (e 5)) fun a=>xA (wC 1 (e 2)) fun b=>xA (wA none b) fun c=>xD fun h3=>xA (wD 187 [a,c]) fun d=>xA (wC 2 (e 2)) fun f=>xA (wA none f) fun g=>xE none (some h3) (wA none f) g<|a4G e d g
def d9p:=an (ro c2d.eq_1)<|an (ro c2p.eq_1)<|an (ro b7g.eq_1)<|an (ro c1r.eq_1)<|an (ro4 a5P.eq_1)<|an (ro b9s.eq_1)<|an (ro c1V.eq_1)<|an (Q7 a4G.eq_1)<|ro b5F.eq_1
def b4c:CFn:=⟨(.seq (.region c2d) (.seq (.region c2p) (.seq (.seq (.region b7g) (.block 0 (.loop a4c))) (.seq (.region b5F) .ret)))),[.t 4]⟩
def e4m:Pers:=⟨7,[14],38,[]⟩
def b8X(e:a7):Reg:=xA (wB (.int .u64 0)) fun a=>xA (wB (.int .u64 0)) fun b=>xC ((e.upd 6 a).upd 7 b)
def b7o(e:a7):Reg:=xA (wB (e 2)) fun a=>xA (wE .eql a (.int .u64 0)) fun b=>xC (e.upd 20 b)
def b7D(e:a7):Reg:=xA (wA none unk) fun a=>xA (.bad) fun _=>xC e
def b5S(e:a7):Reg:=xA (wB (e 2)) fun a=>xA (wB (e 0)) fun b=>xA (wE .leq a b) fun c=>xC (e.upd 24 c)
def c4q(e:a7):Reg:=xA (wA none unk) fun a=>xA (.bad) fun _=>xC e
def b6t(e:a7):Reg:=xA (wB (e 0)) fun a=>xA (wE .eql a (.int .u64 0)) fun b=>xC (e.upd 27 b)
def c1J(e:a7):Reg:=xA (wB (e 1)) fun a=>xA (wB (e 2)) fun b=>xA (wE .quo a b) fun c=>xA (wB (e 1)) fun d=>xA (wB (e 2)) fun f=>xA (wE .rem d f) fun g=>xA (wB c) fun i=>xA (wB g) fun j=>xC ((e.upd 6 i).upd 7 j)
def b8U(e:a7):Reg:=xA (wB (e 2)) fun a=>xA (wD 189 [a]) fun b=>xA (wO .u64 b) fun c=>xA (wB c) fun d=>xC (e.upd 8 d)
def b6B(e:a7):Reg:=xA (wB (e 2)) fun a=>xA (wB (e 8)) fun b=>xA (wE .shl a b) fun c=>xA (wB c) fun d=>xC (e.upd 2 d)
def c1i(e:a7):Reg:=xA (wB (e 2)) fun a=>xA (wE .shr a (.int .u64 32)) fun b=>xA (wB b) fun c=>xC (e.upd 9 c)
def b1m(e:a7):Reg:=xA (wB (e 2)) fun a=>xA (wE .and a (.int .u64 4294967295)) fun b=>xA (wB b) fun c=>xC (e.upd 10 c)
def b2D(e:a7):Reg:=xA (wB (e 0)) fun a=>xA (wB (e 8)) fun b=>xA (wE .shl a b) fun c=>xA (wB (e 1)) fun d=>xA (wB (e 8)) fun f=>xA (wE .sub (.int .u64 64) f) fun g=>xA (wE .shr d g) fun i=>xA (wE .or c i) fun j=>xA (wB j) fun k=>xC (e.upd 11 k)
def b2Q(e:a7):Reg:=xA (wB (e 1)) fun a=>xA (wB (e 8)) fun b=>xA (wE .shl a b) fun c=>xA (wB c) fun d=>xC (e.upd 12 d)
def b3E(e:a7):Reg:=xA (wB (e 12)) fun a=>xA (wE .shr a (.int .u64 32)) fun b=>xA (wB b) fun c=>xC (e.upd 13 c)
def b1J(e:a7):Reg:=xA (wB (e 12)) fun a=>xA (wE .and a (.int .u64 4294967295)) fun b=>xA (wB b) fun c=>xC (e.upd 14 c)
def b1z(e:a7):Reg:=xA (wB (e 11)) fun a=>xA (wB (e 9)) fun b=>xA (wE .quo a b) fun c=>xA (wB c) fun d=>xC (e.upd 15 d)
def b3m(e:a7):Reg:=xA (wB (e 11)) fun a=>xA (wB (e 15)) fun b=>xA (wB (e 9)) fun c=>xA (wE .mul b c) fun d=>xA (wE .sub a d) fun f=>xA (wB f) fun g=>xC (e.upd 16 g)
def a2S(e:a7)(a b c:Value):Reg:=xB a false (wB (e 13)) fun d=>xB a false (wE .add c d) fun f=>xB a false (wE .gtr b f) fun g=>xA (wK a (.bool true) g) fun i=>xC (e.upd 78 i)
def b2z(e:a7):Reg:=xA (wB (e 15)) fun a=>xA (wE .geq a (.int .u64 4294967296)) fun b=>xA (wB b) fun c=>xB c false (wB (e 15)) fun d=>xB c false (wB (e 10)) fun f=>xB c false (wE .mul d f) fun g=>xB c false (wB (e 16)) fun i=>xB c false (wE .mul (.int .u64 4294967296) i) fun j=>a2S e c g j
def b2b(e:a7):Reg:=xA (wB (e 15)) fun a=>xA (wE .sub a (.int .u64 1)) fun b=>xA (wB b) fun c=>xC (e.upd 15 c)
def b3w(e:a7):Reg:=xA (wB (e 16)) fun a=>xA (wB (e 9)) fun b=>xA (wE .add a b) fun c=>xA (wB c) fun d=>xC (e.upd 16 d)
def b2S(e:a7):Reg:=xA (wB (e 16)) fun a=>xA (wE .geq a (.int .u64 4294967296)) fun b=>xC (e.upd 85 b)
def Z1:CC:=(.seq (.seq (.region b2z) (.cond (fun e=>e 78) .skip (.exit 0))) (.block 1 (.seq (.region b2b) (.seq (.region b3w) (.seq (.region b2S) (.cond (fun e=>e 85) (.exit 0) .skip))))))
def b3u(e:a7):Reg:=xA (wB (e 11)) fun a=>xA (wE .mul a (.int .u64 4294967296)) fun b=>xA (wB (e 13)) fun c=>xA (wE .add b c) fun d=>xA (wB (e 15)) fun f=>xA (wB (e 2)) fun g=>xA (wE .mul f g) fun i=>xA (wE .sub d i) fun j=>xA (wB j) fun k=>xC (e.upd 17 k)
def b1G(e:a7):Reg:=xA (wB (e 17)) fun a=>xA (wB (e 9)) fun b=>xA (wE .quo a b) fun c=>xA (wB c) fun d=>xC (e.upd 18 d)
def b2u(e:a7):Reg:=xA (wB (e 17)) fun a=>xA (wB (e 18)) fun b=>xA (wB (e 9)) fun c=>xA (wE .mul b c) fun d=>xA (wE .sub a d) fun f=>xA (wB f) fun g=>xC (e.upd 16 g)
def a2V(e:a7)(a b c:Value):Reg:=xB a false (wB (e 14)) fun d=>xB a false (wE .add c d) fun f=>xB a false (wE .gtr b f) fun g=>xA (wK a (.bool true) g) fun i=>xC (e.upd 113 i)
def b1i(e:a7):Reg:=xA (wB (e 18)) fun a=>xA (wE .geq a (.int .u64 4294967296)) fun b=>xA (wB b) fun c=>xB c false (wB (e 18)) fun d=>xB c false (wB (e 10)) fun f=>xB c false (wE .mul d f) fun g=>xB c false (wB (e 16)) fun i=>xB c false (wE .mul (.int .u64 4294967296) i) fun j=>a2V e c g j
def b2W(e:a7):Reg:=xA (wB (e 18)) fun a=>xA (wE .sub a (.int .u64 1)) fun b=>xA (wB b) fun c=>xC (e.upd 18 c)
def b1X(e:a7):Reg:=xA (wB (e 16)) fun a=>xA (wB (e 9)) fun b=>xA (wE .add a b) fun c=>xA (wB c) fun d=>xC (e.upd 16 d)
def b1x(e:a7):Reg:=xA (wB (e 16)) fun a=>xA (wE .geq a (.int .u64 4294967296)) fun b=>xC (e.upd 120 b)
def Z8:CC:=(.seq (.seq (.region b1i) (.cond (fun e=>e 113) .skip (.exit 2))) (.block 3 (.seq (.region b2W) (.seq (.region b1X) (.seq (.region b1x) (.cond (fun e=>e 120) (.exit 2) .skip))))))
def a3s(e:a7)(a b:Value):Reg:=xA (wB (e 18)) fun c=>xA (wB (e 2)) fun d=>xA (wE .mul c d) fun f=>xA (wE .sub b f) fun g=>xA (wB (e 8)) fun i=>xA (wE .shr g i) fun j=>xA (wB a) fun k=>xA (wB j) fun m=>xC ((e.upd 6 k).upd 7 m)
def b3b(e:a7):Reg:=xA (wB (e 15)) fun a=>xA (wE .mul a (.int .u64 4294967296)) fun b=>xA (wB (e 18)) fun c=>xA (wE .add b c) fun d=>xA (wB (e 17)) fun f=>xA (wE .mul f (.int .u64 4294967296)) fun g=>xA (wB (e 14)) fun i=>xA (wE .add g i) fun j=>a3s e d j
def a2c:=an (ro b8X.eq_1)<|an (ro b7o.eq_1)<|an (ro b7D.eq_1)<|an (ro b5S.eq_1)<|an (ro c4q.eq_1)<|an (ro b6t.eq_1)<|an (ro c1J.eq_1)<|an (ro b8U.eq_1)<|an (ro b6B.eq_1)<|an (ro c1i.eq_1)<|an (ro b1m.eq_1)<|an (ro b2D.eq_1)<|an (ro b2Q.eq_1)<|an (ro b3E.eq_1)<|an (ro b1J.eq_1)<|an (ro b1z.eq_1)<|an (ro b3m.eq_1)<|an (T4 a2S.eq_1)<|an (ro b2z.eq_1)<|an (ro b2b.eq_1)<|an (ro b3w.eq_1)<|an (ro b2S.eq_1)<|an (ro b3u.eq_1)<|an (ro b1G.eq_1)<|an (ro b2u.eq_1)<|an (T4 a2V.eq_1)<|an (ro b1i.eq_1)<|an (ro b2W.eq_1)<|an (ro b1X.eq_1)<|an (ro b1x.eq_1)<|an (Q7 a3s.eq_1)<|ro b3b.eq_1
def a0w:CFn:=⟨(.seq (.region b8X) (.seq (.seq (.region b7o) (.cond (fun e=>e 20) (.region b7D) .skip)) (.seq (.seq (.region b5S) (.cond (fun e=>e 24) (.region c4q) .skip)) (.seq (.seq (.region b6t) (.cond (fun e=>e 27) (.seq (.region c1J) .ret) .skip)) (.seq (.region b8U) (.seq (.region b6B) (.seq (.region c1i) (.seq (.region b1m) (.seq (.region b2D) (.seq (.region b2Q) (.seq (.region b3E) (.seq (.region b1J) (.seq (.region b1z) (.seq (.region b3m) (.seq (.block 0 (.loop Z1)) (.seq (.region b3u) (.seq (.region b1G) (.seq (.region b2u) (.seq (.block 2 (.loop Z8)) (.seq (.region b3b) .ret)))))))))))))))))))),[.t 6,.t 7]⟩
def e2H:Pers:=⟨19,[20,24,27,78,85,113,120],135,[]⟩
def c0y(e:a7):Reg:=xA (wB (.int .u64 0)) fun a=>xA (wB (.bool false)) fun b=>xC ((e.upd 6 a).upd 7 b)
def a6n(e:a7)(a b c:Value):Reg:=xA (wB a) fun d=>xA (wB b) fun f=>xA (wB c) fun g=>xC (((e.upd 8 d).upd 9 f).upd 10 g)
def c4u(e:a7):Reg:=xA (wB (e 0)) fun a=>xA (wB (e 1)) fun b=>xA (wB (e 2)) fun c=>xA (wD 181 [a,b,c]) fun d=>xA (wB d) fun f=>xA (wG f 0) fun g=>xA (wG f 1) fun i=>xA (wG f 2) fun j=>a6n e g i j
def c1t(e:a7):Reg:=xA (wB (e 8)) fun a=>xA (wB (e 10)) fun b=>xA (wB a) fun c=>xA (wB b) fun d=>xC ((e.upd 6 c).upd 7 d)
def e8W:=an (ro c0y.eq_1)<|an (T4 a6n.eq_1)<|an (ro c4u.eq_1)<|ro c1t.eq_1
def d8y:CFn:=⟨(.seq (.region c0y) (.seq (.region c4u) (.seq (.region c1t) .ret))),[.t 6,.t 7]⟩
def e5H:Pers:=⟨11,[],21,[]⟩
def c4T(e:a7):Reg:=xA (wB (.int .u64 0)) fun a=>xC (e.upd 4 a)
def b9p(e:a7):Reg:=xA (wB (e 0)) fun a=>xA (wB (e 1)) fun b=>xA (wE .add a b) fun c=>xA (wD 90 [c]) fun d=>xA (wB d) fun f=>xC (e.upd 4 f)
def e8D:=an (ro c4T.eq_1)<|ro b9p.eq_1
def d9F:CFn:=⟨(.seq (.region c4T) (.seq (.region b9p) .ret)),[.t 4]⟩
def e3o:Pers:=⟨5,[],9,[]⟩
def c1F(e:a7):Reg:=xA (wB (.int .u64 0)) fun a=>xC (e.upd 4 a)
def b8F(e:a7):Reg:=xA (wB (e 0)) fun a=>xA (wB (e 1)) fun b=>xA (wD 85 [a,b]) fun c=>xA (wB c) fun d=>xA (wG d 0) fun f=>xA (wG d 1) fun g=>xA (wB f) fun i=>xA (wB g) fun j=>xC ((e.upd 5 i).upd 6 j)
def a6q(e:a7)(a b:Value):Reg:=xA (wE .rem b (.int .u64 2305843009213693951)) fun c=>xA (wD 186 [a,c]) fun d=>xA (wB d) fun f=>xC (e.upd 4 f)
def c2e(e:a7):Reg:=xA (wB (e 5)) fun a=>xA (wE .shl a (.int .u64 3)) fun b=>xA (wB (e 6)) fun c=>xA (wE .shr c (.int .u64 61)) fun d=>xA (wE .or b d) fun f=>xA (wD 90 [f]) fun g=>xA (wB (e 6)) fun i=>xA (wE .and i (.int .u64 2305843009213693951)) fun j=>a6q e g j
def e7O:=an (ro c1F.eq_1)<|an (ro b8F.eq_1)<|an (Q7 a6q.eq_1)<|ro c2e.eq_1
def d7L:CFn:=⟨(.seq (.region c1F) (.seq (.region b8F) (.seq (.region c2e) .ret))),[.t 4]⟩
def e4c:Pers:=⟨7,[],23,[]⟩
def b9I(e:a7):Reg:=xA (wB (.int .u64 0)) fun a=>xC (e.upd 2 a)
def c1W(e:a7):Reg:=xA (wB (.int .u64 0)) fun a=>xC (e.upd 3 a)
def c3u(e:a7):Reg:=xA (wB (e 0)) fun a=>xA (.lenStr a) fun b=>xA (wB (.int .i64 0)) fun c=>xC ((e.upd 6 b).upd 7 c)
def b9G(e:a7):Reg:=xA (wE .lss (e 7) (e 6)) fun a=>xC (e.upd 8 a)
def b6r(e:a7):Reg:=xA (wB (e 7)) fun a=>xA (wB a) fun b=>xC (e.upd 4 b)
def c1m(e:a7):Reg:=xA (wB (e 3)) fun a=>xA (wE .shl a (.int .u64 8)) fun b=>xA (wB (e 0)) fun c=>xA (wB (e 4)) fun d=>xA (.indexStr c d) fun f=>xA (wO .u64 f) fun g=>xA (wE .or b g) fun i=>xA (wB i) fun j=>xC (e.upd 3 j)
def c3a(e:a7):Reg:=xA (wE .add (e 7) (.int .i64 1)) fun a=>xA (wB a) fun b=>xC (e.upd 7 b)
def a4d:CC:=(.seq (.region b9G) (.seq (.cond (fun e=>e 8) .skip (.exit 0)) (.seq (.block 1 (.seq (.region b6r) (.region c1m))) (.region c3a))))
def b7d(e:a7):Reg:=xA (wB (e 3)) fun a=>xA (wB a) fun b=>xC (e.upd 2 b)
def d8n:=an (ro b9I.eq_1)<|an (ro c1W.eq_1)<|an (ro c3u.eq_1)<|an (ro b9G.eq_1)<|an (ro b6r.eq_1)<|an (ro c1m.eq_1)<|an (ro c3a.eq_1)<|ro b7d.eq_1
def b4O:CFn:=⟨(.seq (.region b9I) (.seq (.region c1W) (.seq (.seq (.region c3u) (.block 0 (.loop a4d))) (.seq (.region b7d) .ret)))),[.t 2]⟩
def e4j:Pers:=⟨5,[6,7,8],19,[]⟩
def c0o(e:a7):Reg:=xA (wB (.int .i64 0)) fun a=>xC (e.upd 2 a)
def c3j(e:a7):Reg:=xA (wB (e 0)) fun a=>xA (wD 190 [a]) fun b=>xA (wE .sub (.int .i64 64) b) fun c=>xA (wB c) fun d=>xC (e.upd 2 d)
def e6R:=an (ro c0o.eq_1)<|ro c3j.eq_1
def d9C:CFn:=⟨(.seq (.region c0o) (.seq (.region c3j) .ret)),[.t 2]⟩
def e4G:Pers:=⟨3,[],6,[]⟩
def b9k(e:a7):Reg:=xA (wB (.int .i64 0)) fun a=>xC (e.upd 2 a)
def c2A(e:a7):Reg:=xA (wB (e 0)) fun a=>xA (wE .geq a (.int .u64 4294967296)) fun b=>xC (e.upd 4 b)
def c1q(e:a7):Reg:=xA (wB (e 0)) fun a=>xA (wE .shr a (.int .u64 32)) fun b=>xA (wB b) fun c=>xC (e.upd 0 c)
def b6y(e:a7):Reg:=xA (wB (.int .i64 32)) fun a=>xC (e.upd 2 a)
def b7W(e:a7):Reg:=xA (wB (e 0)) fun a=>xA (wE .geq a (.int .u64 65536)) fun b=>xC (e.upd 8 b)
def c4f(e:a7):Reg:=xA (wB (e 0)) fun a=>xA (wE .shr a (.int .u64 16)) fun b=>xA (wB b) fun c=>xC (e.upd 0 c)
def b7z(e:a7):Reg:=xA (wB (e 2)) fun a=>xA (wE .add a (.int .i64 16)) fun b=>xA (wB b) fun c=>xC (e.upd 2 c)
def b9z(e:a7):Reg:=xA (wB (e 0)) fun a=>xA (wE .geq a (.int .u64 256)) fun b=>xC (e.upd 14 b)
def c2v(e:a7):Reg:=xA (wB (e 0)) fun a=>xA (wE .shr a (.int .u64 8)) fun b=>xA (wB b) fun c=>xC (e.upd 0 c)
def c1d(e:a7):Reg:=xA (wB (e 2)) fun a=>xA (wE .add a (.int .i64 8)) fun b=>xA (wB b) fun c=>xC (e.upd 2 c)
def b1T(e:a7):Reg:=xA (wB (e 2)) fun a=>xA (wB (e 0)) fun b=>xA (wO .u8 b) fun c=>xA (.indexStr (.string c8S) c) fun d=>xA (wO .i64 d) fun f=>xA (wE .add a f) fun g=>xA (wB g) fun i=>xC (e.upd 2 i)
def b2d:=an (ro b9k.eq_1)<|an (ro c2A.eq_1)<|an (ro c1q.eq_1)<|an (ro b6y.eq_1)<|an (ro b7W.eq_1)<|an (ro c4f.eq_1)<|an (ro b7z.eq_1)<|an (ro b9z.eq_1)<|an (ro c2v.eq_1)<|an (ro c1d.eq_1)<|ro b1T.eq_1
def a4I:CFn:=⟨(.seq (.region b9k) (.seq (.seq (.region c2A) (.cond (fun e=>e 4) (.seq (.region c1q) (.region b6y)) .skip)) (.seq (.seq (.region b7W) (.cond (fun e=>e 8) (.seq (.region c4f) (.region b7z)) .skip)) (.seq (.seq (.region b9z) (.cond (fun e=>e 14) (.seq (.region c2v) (.region c1d)) .skip)) (.seq (.region b1T) .ret))))),[.t 2]⟩
def e5z:Pers:=⟨3,[4,8,14],25,[]⟩
def cpF:FuncId->Option CFn
 |10=>some c10
 |11=>some c11
 |12=>some c12
 |13=>some c13
 |14=>some c14
 |15=>some c15
 |16=>some c16
 |20=>some c20
 |21=>some c21
 |25=>some c25
 |26=>some c26
 |27=>some c27
 |28=>some c28
 |30=>some c30
 |31=>some c31
 |32=>some c32
 |34=>some c34
 |35=>some c35
 |36=>some c36
 |38=>some c38
 |39=>some c39
 |40=>some c40
 |44=>some c44
 |45=>some c45
 |46=>some c46
 |47=>some c47
 |49=>some c49
 |50=>some c50
 |51=>some c51
 |52=>some c52
 |53=>some c53
 |54=>some c54
 |55=>some c55
 |56=>some c56
 |57=>some c57
 |58=>some c58
 |59=>some c59
 |60=>some c60
 |61=>some c61
 |62=>some c62
 |63=>some c63
 |64=>some c64
 |65=>some c65
 |66=>some c66
 |70=>some c70
 |71=>some c71
 |72=>some c72
 |73=>some c73
 |74=>some c74
 |75=>some c75
 |76=>some c76
 |77=>some c77
 |78=>some c78
 |79=>some c79
 |80=>some c80
 |81=>some c81
 |82=>some c82
 |83=>some c83
 |84=>some c84
 |85=>some c85
 |86=>some c86
 |87=>some c87
 |88=>some c88
 |89=>some c89
 |90=>some c90
 |91=>some c91
 |92=>some c92
 |93=>some c93
 |94=>some c94
 |95=>some c95
 |96=>some c96
 |97=>some c97
 |98=>some c98
 |99=>some c99
 |100=>some d8N
 |101=>some b3o
 |117=>some a9M
 |118=>some c8o
 |119=>some d4a
 |120=>some R4
 |121=>some b4D
 |126=>some c9D
 |127=>some b3g
 |128=>some c5N
 |129=>some d8d
 |130=>some b0X
 |131=>some Y2
 |132=>some b4F
 |133=>some b5g
 |134=>some b2l
 |135=>some c7Z
 |136=>some b2t
 |137=>some a7p
 |138=>some d9f
 |139=>some c6n
 |140=>some b0D
 |141=>some d9w
 |142=>some d8h
 |144=>some d8l
 |145=>some d8v
 |147=>some d5v
 |148=>some d6z
 |149=>some d1n
 |150=>some c5u
 |151=>some b4e
 |152=>some a2j
 |153=>some d5b
 |154=>some c6x
 |155=>some d2K
 |156=>some d7G
 |157=>some b3T
 |158=>some d8M
 |159=>some d8o
 |160=>some b0s
 |161=>some d9r
 |162=>some b0Q
 |163=>some c163
 |165=>some b1O
 |166=>some c8X
 |167=>some a7o
 |168=>some d8w
 |169=>some c5Z
 |170=>some d4x
 |171=>some c6v
 |172=>some b0e
 |173=>some c9g
 |174=>some d9E
 |175=>some d8z
 |176=>some d7K
 |177=>some c6t
 |178=>some d8s
 |179=>some d4w
 |180=>some d8x
 |181=>some d9j
 |182=>some d8L
 |183=>some b4c
 |184=>some a0w
 |185=>some d8y
 |186=>some d9F
 |187=>some d7L
 |188=>some b4O
 |189=>some d9C
 |190=>some a4I
 |_=>none
def cp:CProg:=⟨cpF,none⟩
theorem e6J:cp 12=some c12:=rfl
theorem e6y:cp 13=some c13:=rfl
theorem e6u:cp 14=some c14:=rfl
theorem e1t:cp 15=some c15:=rfl
theorem e7j:cp 16=some c16:=rfl
theorem e7P:cp 20=some c20:=rfl
theorem e7W:cp 26=some c26:=rfl
theorem e6B:cp 27=some c27:=rfl
theorem e8m:cp 28=some c28:=rfl
theorem e8r:cp 30=some c30:=rfl
theorem e8u:cp 31=some c31:=rfl
theorem e8P:cp 32=some c32:=rfl
theorem e8j:cp 34=some c34:=rfl
theorem e0j:cp 35=some c35:=rfl
theorem e6E:cp 36=some c36:=rfl
theorem e9p:cp 38=some c38:=rfl
theorem e6C:cp 39=some c39:=rfl
theorem e8L:cp 40=some c40:=rfl
theorem e6S:cp 44=some c44:=rfl
theorem e8Q:cp 45=some c45:=rfl
theorem e7E:cp 46=some c46:=rfl
theorem e4b:cp 49=some c49:=rfl
theorem e7s:cp 50=some c50:=rfl
theorem e7l:cp 51=some c51:=rfl
theorem e6Y:cp 52=some c52:=rfl
theorem e9j:cp 53=some c53:=rfl
theorem e8e:cp 54=some c54:=rfl
theorem e7a:cp 55=some c55:=rfl
theorem e7e:cp 56=some c56:=rfl
theorem e8I:cp 57=some c57:=rfl
theorem e6n:cp 58=some c58:=rfl
theorem e9i:cp 59=some c59:=rfl
theorem e6j:cp 60=some c60:=rfl
theorem e8M:cp 61=some c61:=rfl
theorem e9c:cp 62=some c62:=rfl
theorem e8X:cp 63=some c63:=rfl
theorem e8f:cp 64=some c64:=rfl
theorem e7B:cp 65=some c65:=rfl
theorem e7z:cp 66=some c66:=rfl
theorem e6U:cp 70=some c70:=rfl
theorem e8q:cp 71=some c71:=rfl
theorem e8v:cp 72=some c72:=rfl
theorem e9e:cp 73=some c73:=rfl
theorem e2o:cp 74=some c74:=rfl
theorem e7d:cp 75=some c75:=rfl
theorem e8U:cp 76=some c76:=rfl
theorem e6m:cp 77=some c77:=rfl
theorem e6w:cp 78=some c78:=rfl
theorem e8J:cp 79=some c79:=rfl
theorem e7T:cp 80=some c80:=rfl
theorem e7h:cp 81=some c81:=rfl
theorem e8d:cp 82=some c82:=rfl
theorem e7C:cp 83=some c83:=rfl
theorem e7M:cp 84=some c84:=rfl
theorem e7y:cp 85=some c85:=rfl
theorem e8i:cp 86=some c86:=rfl
theorem e6t:cp 87=some c87:=rfl
theorem e6T:cp 88=some c88:=rfl
theorem e8h:cp 89=some c89:=rfl
theorem e8G:cp 90=some c90:=rfl
theorem e6A:cp 91=some c91:=rfl
theorem e8s:cp 92=some c92:=rfl
theorem e8Y:cp 93=some c93:=rfl
theorem e6G:cp 94=some c94:=rfl
theorem e8o:cp 95=some c95:=rfl
theorem e6k:cp 96=some c96:=rfl
theorem e7G:cp 97=some c97:=rfl
theorem e8F:cp 98=some c98:=rfl
theorem e2m:cp 99=some c99:=rfl
theorem e5Y:cp 100=some d8N:=rfl
theorem e3O:cp 101=some b3o:=rfl
theorem e6g:cp 117=some a9M:=rfl
theorem e3V:cp 118=some c8o:=rfl
theorem e3Q:cp 119=some d4a:=rfl
theorem d9H:cp 120=some R4:=rfl
theorem e5k:cp 121=some b4D:=rfl
theorem e4S:cp 126=some c9D:=rfl
theorem e1N:cp 127=some b3g:=rfl
theorem e4X:cp 128=some c5N:=rfl
theorem e2G:cp 129=some d8d:=rfl
theorem e2P:cp 130=some b0X:=rfl
theorem e3C:cp 131=some Y2:=rfl
theorem d9M:cp 132=some b4F:=rfl
theorem e3T:cp 133=some b5g:=rfl
theorem e5f:cp 134=some b2l:=rfl
theorem e5l:cp 135=some c7Z:=rfl
theorem e3u:cp 136=some b2t:=rfl
theorem e4Y:cp 137=some a7p:=rfl
theorem e2n:cp 138=some d9f:=rfl
theorem e3n:cp 139=some c6n:=rfl
theorem e4W:cp 140=some b0D:=rfl
theorem e5V:cp 141=some d9w:=rfl
theorem e3L:cp 142=some d8h:=rfl
theorem e4I:cp 144=some d8l:=rfl
theorem e5w:cp 145=some d8v:=rfl
theorem e5e:cp 147=some d5v:=rfl
theorem d9K:cp 148=some d6z:=rfl
theorem e5Z:cp 149=some d1n:=rfl
theorem e4H:cp 150=some c5u:=rfl
theorem e3k:cp 151=some b4e:=rfl
theorem e1M:cp 152=some a2j:=rfl
theorem e3i:cp 153=some d5b:=rfl
theorem e2T:cp 154=some c6x:=rfl
theorem e4p:cp 155=some d2K:=rfl
theorem e2a:cp 156=some d7G:=rfl
theorem e4o:cp 157=some b3T:=rfl
theorem e4L:cp 158=some d8M:=rfl
theorem e2r:cp 159=some d8o:=rfl
theorem e2e:cp 160=some b0s:=rfl
theorem e3m:cp 161=some d9r:=rfl
theorem e1X:cp 162=some b0Q:=rfl
theorem e5d:cp 163=some c163:=rfl
theorem e3a:cp 165=some b1O:=rfl
theorem d9G:cp 166=some c8X:=rfl
theorem e4g:cp 167=some a7o:=rfl
theorem e4T:cp 168=some d8w:=rfl
theorem e2D:cp 169=some c5Z:=rfl
theorem e4B:cp 170=some d4x:=rfl
theorem e5X:cp 171=some c6v:=rfl
theorem d9I:cp 172=some b0e:=rfl
theorem e5n:cp 173=some c9g:=rfl
theorem e2W:cp 174=some d9E:=rfl
theorem e5A:cp 175=some d8z:=rfl
theorem e2N:cp 176=some d7K:=rfl
theorem e4N:cp 177=some c6t:=rfl
theorem e4a:cp 178=some d8s:=rfl
theorem e2B:cp 179=some d4w:=rfl
theorem e2E:cp 180=some d8x:=rfl
theorem e2K:cp 181=some d9j:=rfl
theorem e2L:cp 182=some d8L:=rfl
theorem e4Q:cp 183=some b4c:=rfl
theorem e5x:cp 184=some a0w:=rfl
theorem e4w:cp 185=some d8y:=rfl
theorem e4s:cp 186=some d9F:=rfl
theorem e3e:cp 187=some d7L:=rfl
theorem e4J:cp 188=some b4O:=rfl
theorem e2F:cp 189=some d9C:=rfl
theorem a3u:cp 190=some a4I:=rfl
theorem e6L:s9 Tryz.prog p10 Tryz.f10=some c10:=by kernel_rfl
theorem e6h:s9 Tryz.prog p11 Tryz.f11=some c11:=by kernel_rfl
theorem e8w:s9 Tryz.prog p12 Tryz.f12=some c12:=by kernel_rfl
theorem e7D:s9 Tryz.prog p13 Tryz.f13=some c13:=by kernel_rfl
theorem e9n:s9 Tryz.prog p14 Tryz.f14=some c14:=by kernel_rfl
theorem e6X:s9 Tryz.prog p15 Tryz.f15=some c15:=by kernel_rfl
theorem e6K:s9 Tryz.prog p16 Tryz.f16=some c16:=by kernel_rfl
theorem e8A:s9 Tryz.prog p20 Tryz.f20=some c20:=by kernel_rfl
theorem e7A:s9 Tryz.prog p21 Tryz.f21=some c21:=by kernel_rfl
theorem e9k:s9 Tryz.prog p25 Tryz.f25=some c25:=by kernel_rfl
theorem e6l:s9 Tryz.prog p26 Tryz.f26=some c26:=by kernel_rfl
theorem e7t:s9 Tryz.prog p27 Tryz.f27=some c27:=by kernel_rfl
theorem e8K:s9 Tryz.prog p28 Tryz.f28=some c28:=by kernel_rfl
theorem e7U:s9 Tryz.prog p30 Tryz.f30=some c30:=by kernel_rfl
theorem e7S:s9 Tryz.prog p31 Tryz.f31=some c31:=by kernel_rfl
theorem e6P:s9 Tryz.prog p32 Tryz.f32=some c32:=by kernel_rfl
theorem e8B:s9 Tryz.prog p34 Tryz.f34=some c34:=by kernel_rfl
theorem e8n:s9 Tryz.prog p35 Tryz.f35=some c35:=by kernel_rfl
theorem e7c:s9 Tryz.prog p36 Tryz.f36=some c36:=by kernel_rfl
theorem e8p:s9 Tryz.prog p38 Tryz.f38=some c38:=by kernel_rfl
theorem e7N:s9 Tryz.prog p39 Tryz.f39=some c39:=by kernel_rfl
theorem e9h:s9 Tryz.prog p40 Tryz.f40=some c40:=by kernel_rfl
theorem e6o:s9 Tryz.prog p44 Tryz.f44=some c44:=by kernel_rfl
theorem e6V:s9 Tryz.prog p45 Tryz.f45=some c45:=by kernel_rfl
theorem e7k:s9 Tryz.prog p46 Tryz.f46=some c46:=by kernel_rfl
theorem e8O:s9 Tryz.prog p47 Tryz.f47=some c47:=by kernel_rfl
theorem e8b:s9 Tryz.prog p49 Tryz.f49=some c49:=by kernel_rfl
theorem e8Z:s9 Tryz.prog p50 Tryz.f50=some c50:=by kernel_rfl
theorem e7F:s9 Tryz.prog p51 Tryz.f51=some c51:=by kernel_rfl
theorem e7b:s9 Tryz.prog p52 Tryz.f52=some c52:=by kernel_rfl
theorem e6W:s9 Tryz.prog p53 Tryz.f53=some c53:=by kernel_rfl
theorem e7L:s9 Tryz.prog p54 Tryz.f54=some c54:=by kernel_rfl
theorem e8E:s9 Tryz.prog p55 Tryz.f55=some c55:=by kernel_rfl
theorem e6M:s9 Tryz.prog p56 Tryz.f56=some c56:=by kernel_rfl
theorem e8S:s9 Tryz.prog p57 Tryz.f57=some c57:=by kernel_rfl
theorem e7r:s9 Tryz.prog p58 Tryz.f58=some c58:=by kernel_rfl
theorem e7H:s9 Tryz.prog p59 Tryz.f59=some c59:=by kernel_rfl
theorem e8k:s9 Tryz.prog p60 Tryz.f60=some c60:=by kernel_rfl
theorem e8l:s9 Tryz.prog p61 Tryz.f61=some c61:=by kernel_rfl
theorem e8C:s9 Tryz.prog p62 Tryz.f62=some c62:=by kernel_rfl
theorem e7f:s9 Tryz.prog p63 Tryz.f63=some c63:=by kernel_rfl
theorem e7R:s9 Tryz.prog p64 Tryz.f64=some c64:=by kernel_rfl
theorem e7X:s9 Tryz.prog p65 Tryz.f65=some c65:=by kernel_rfl
theorem e8x:s9 Tryz.prog p66 Tryz.f66=some c66:=by kernel_rfl
theorem e7I:s9 Tryz.prog p70 Tryz.f70=some c70:=by kernel_rfl
theorem e8N:s9 Tryz.prog p71 Tryz.f71=some c71:=by kernel_rfl
theorem e6N:s9 Tryz.prog p72 Tryz.f72=some c72:=by kernel_rfl
theorem e7Z:s9 Tryz.prog p73 Tryz.f73=some c73:=by kernel_rfl
theorem e6H:s9 Tryz.prog p74 Tryz.f74=some c74:=by kernel_rfl
theorem e8t:s9 Tryz.prog p75 Tryz.f75=some c75:=by kernel_rfl
theorem e9g:s9 Tryz.prog p76 Tryz.f76=some c76:=by kernel_rfl
theorem e9l:s9 Tryz.prog p77 Tryz.f77=some c77:=by kernel_rfl
theorem e8R:s9 Tryz.prog p78 Tryz.f78=some c78:=by kernel_rfl
theorem e8g:s9 Tryz.prog p79 Tryz.f79=some c79:=by kernel_rfl
theorem e6D:s9 Tryz.prog p80 Tryz.f80=some c80:=by kernel_rfl
theorem e9f:s9 Tryz.prog p81 Tryz.f81=some c81:=by kernel_rfl
theorem e6r:s9 Tryz.prog p82 Tryz.f82=some c82:=by kernel_rfl
theorem e7u:s9 Tryz.prog p83 Tryz.f83=some c83:=by kernel_rfl
theorem e7V:s9 Tryz.prog p84 Tryz.f84=some c84:=by kernel_rfl
theorem e6p:s9 Tryz.prog p85 Tryz.f85=some c85:=by kernel_rfl
theorem e7x:s9 Tryz.prog p86 Tryz.f86=some c86:=by kernel_rfl
theorem e7g:s9 Tryz.prog p87 Tryz.f87=some c87:=by kernel_rfl
theorem e7o:s9 Tryz.prog p88 Tryz.f88=some c88:=by kernel_rfl
theorem e9q:s9 Tryz.prog p89 Tryz.f89=some c89:=by kernel_rfl
theorem e6s:s9 Tryz.prog p90 Tryz.f90=some c90:=by kernel_rfl
theorem e7p:s9 Tryz.prog p91 Tryz.f91=some c91:=by kernel_rfl
theorem e8z:s9 Tryz.prog p92 Tryz.f92=some c92:=by kernel_rfl
theorem e9d:s9 Tryz.prog p93 Tryz.f93=some c93:=by kernel_rfl
theorem e6q:s9 Tryz.prog p94 Tryz.f94=some c94:=by kernel_rfl
theorem e6I:s9 Tryz.prog p95 Tryz.f95=some c95:=by kernel_rfl
theorem e6F:s9 Tryz.prog p96 Tryz.f96=some c96:=by kernel_rfl
theorem e8a:s9 Tryz.prog p97 Tryz.f97=some c97:=by kernel_rfl
theorem e6Q:s9 Tryz.prog p98 Tryz.f98=some c98:=by kernel_rfl
theorem e7i:s9 Tryz.prog p99 Tryz.f99=some c99:=by kernel_rfl
theorem e3E:s9 Tryz.prog e1Q Tryz.f100=some d8N:=by kernel_rfl
theorem e2X:s9 Tryz.prog e5E Tryz.f101=some b3o:=by kernel_rfl
theorem e4q:s9 Tryz.prog e4O Tryz.f117=some a9M:=by kernel_rfl
theorem e3M:s9 Tryz.prog e1Y Tryz.f118=some c8o:=by kernel_rfl
theorem e2Q:s9 Tryz.prog e3v Tryz.f119=some d4a:=by kernel_rfl
theorem e2A:s9 Tryz.prog e4k Tryz.f120=some R4:=by kernel_rfl
theorem e5J:s9 Tryz.prog e3X Tryz.f121=some b4D:=by kernel_rfl
theorem e3H:s9 Tryz.prog e2O Tryz.f126=some c9D:=by kernel_rfl
theorem e3y:s9 Tryz.prog e2v Tryz.f127=some b3g:=by kernel_rfl
theorem e5F:s9 Tryz.prog e1P Tryz.f128=some c5N:=by kernel_rfl
theorem e3z:s9 Tryz.prog e4P Tryz.f129=some d8d:=by kernel_rfl
theorem e2Y:s9 Tryz.prog e6c Tryz.f130=some b0X:=by kernel_rfl
theorem e3N:s9 Tryz.prog e1H Tryz.f131=some Y2:=by kernel_rfl
theorem e5i:s9 Tryz.prog e2q Tryz.f132=some b4F:=by kernel_rfl
theorem e5L:s9 Tryz.prog e2h Tryz.f133=some b5g:=by kernel_rfl
theorem e6b:s9 Tryz.prog e1Z Tryz.f134=some b2l:=by kernel_rfl
theorem e2c:s9 Tryz.prog e4v Tryz.f135=some c7Z:=by kernel_rfl
theorem e1G:s9 Tryz.prog e3W Tryz.f136=some b2t:=by kernel_rfl
theorem e6e:s9 Tryz.prog e1F Tryz.f137=some a7p:=by kernel_rfl
theorem e2p:s9 Tryz.prog e2w Tryz.f138=some d9f:=by kernel_rfl
theorem e6a:s9 Tryz.prog e4A Tryz.f139=some c6n:=by kernel_rfl
theorem e4x:s9 Tryz.prog e3s Tryz.f140=some b0D:=by kernel_rfl
theorem e3F:s9 Tryz.prog e4r Tryz.f141=some d9w:=by kernel_rfl
theorem e3f:s9 Tryz.prog e2Z Tryz.f142=some d8h:=by kernel_rfl
theorem e5M:s9 Tryz.prog e2R Tryz.f144=some d8l:=by kernel_rfl
theorem e3I:s9 Tryz.prog e4u Tryz.f145=some d8v:=by kernel_rfl
theorem e6d:s9 Tryz.prog e1J Tryz.f147=some d5v:=by kernel_rfl
theorem e2d:s9 Tryz.prog e2t Tryz.f148=some d6z:=by kernel_rfl
theorem e4E:s9 Tryz.prog e4M Tryz.f149=some d1n:=by kernel_rfl
theorem e2i:s9 Tryz.prog e4z Tryz.f150=some c5u:=by kernel_rfl
theorem e2M:s9 Tryz.prog e3A Tryz.f151=some b4e:=by kernel_rfl
theorem e3x:s9 Tryz.prog e4l Tryz.f152=some a2j:=by kernel_rfl
theorem e2z:s9 Tryz.prog e2k Tryz.f153=some d5b:=by kernel_rfl
theorem e5h:s9 Tryz.prog e5b Tryz.f154=some c6x:=by kernel_rfl
theorem e3K:s9 Tryz.prog e4R Tryz.f155=some d2K:=by kernel_rfl
theorem e3G:s9 Tryz.prog e2s Tryz.f156=some d7G:=by kernel_rfl
theorem e4V:s9 Tryz.prog e5U Tryz.f157=some b3T:=by kernel_rfl
theorem e4e:s9 Tryz.prog e3U Tryz.f158=some d8M:=by kernel_rfl
theorem e3r:s9 Tryz.prog e1E Tryz.f159=some d8o:=by kernel_rfl
theorem e5g:s9 Tryz.prog e5K Tryz.f160=some b0s:=by kernel_rfl
theorem e3P:s9 Tryz.prog e3J Tryz.f161=some d9r:=by kernel_rfl
theorem e3R:s9 Tryz.prog e2x Tryz.f162=some b0Q:=by kernel_rfl
theorem e5P:s9 Tryz.prog e5r Tryz.f163=some c163:=by kernel_rfl
theorem e4D:s9 Tryz.prog e3S Tryz.f165=some b1O:=by kernel_rfl
theorem e5j:s9 Tryz.prog e3Y Tryz.f166=some c8X:=by kernel_rfl
theorem e5I:s9 Tryz.prog e4C Tryz.f167=some a7o:=by kernel_rfl
theorem e4d:s9 Tryz.prog e5y Tryz.f168=some d8w:=by kernel_rfl
theorem e2u:s9 Tryz.prog e3B Tryz.f169=some c5Z:=by kernel_rfl
theorem e3g:s9 Tryz.prog e2f Tryz.f170=some d4x:=by kernel_rfl
theorem e2C:s9 Tryz.prog e5Q Tryz.f171=some c6v:=by kernel_rfl
theorem e1W:s9 Tryz.prog e2g Tryz.f172=some b0e:=by kernel_rfl
theorem e1R:s9 Tryz.prog e5N Tryz.f173=some c9g:=by kernel_rfl
theorem e2y:s9 Tryz.prog e2l Tryz.f174=some d9E:=by kernel_rfl
theorem e5c:s9 Tryz.prog e2J Tryz.f175=some d8z:=by kernel_rfl
theorem e3Z:s9 Tryz.prog e5C Tryz.f176=some d7K:=by kernel_rfl
theorem e4Z:s9 Tryz.prog e3p Tryz.f177=some c6t:=by kernel_rfl
theorem e1O:s9 Tryz.prog e3w Tryz.f178=some d8s:=by kernel_rfl
theorem e3b:s9 Tryz.prog e1V Tryz.f179=some d4w:=by kernel_rfl
theorem e5D:s9 Tryz.prog e6f Tryz.f180=some d8x:=by kernel_rfl
theorem e4f:s9 Tryz.prog e1T Tryz.f181=some d9j:=by kernel_rfl
theorem e4y:s9 Tryz.prog e2b Tryz.f182=some d8L:=by kernel_rfl
theorem e5o:s9 Tryz.prog e4m Tryz.f183=some b4c:=by kernel_rfl
theorem e4n:s9 Tryz.prog e2H Tryz.f184=some a0w:=by kernel_rfl
theorem e4K:s9 Tryz.prog e5H Tryz.f185=some d8y:=by kernel_rfl
theorem e3d:s9 Tryz.prog e3o Tryz.f186=some d9F:=by kernel_rfl
theorem e1S:s9 Tryz.prog e4c Tryz.f187=some d7L:=by kernel_rfl
theorem e1K:s9 Tryz.prog e4j Tryz.f188=some b4O:=by kernel_rfl
theorem e5p:s9 Tryz.prog e4G Tryz.f189=some d9C:=by kernel_rfl
theorem e4t:s9 Tryz.prog e5z Tryz.f190=some a4I:=by kernel_rfl
set_option maxRecDepth 100000 in
theorem d6N:a6k Tryz.prog cp:=by
 refine⟨rfl,fun f fn h=>?_⟩
 have h:cpF f=some fn:=h
 unfold cpF at h
 split at h
 ·obtain rfl:=yA h;exact⟨p10,Tryz.f10,Tryz.func10,e6L⟩
 ·obtain rfl:=yA h;exact⟨p11,Tryz.f11,Tryz.func11,e6h⟩
 ·obtain rfl:=yA h;exact⟨p12,Tryz.f12,Tryz.func12,e8w⟩
 ·obtain rfl:=yA h;exact⟨p13,Tryz.f13,Tryz.func13,e7D⟩
 ·obtain rfl:=yA h;exact⟨p14,Tryz.f14,Tryz.func14,e9n⟩
 ·obtain rfl:=yA h;exact⟨p15,Tryz.f15,Tryz.func15,e6X⟩
 ·obtain rfl:=yA h;exact⟨p16,Tryz.f16,Tryz.func16,e6K⟩
 ·obtain rfl:=yA h;exact⟨p20,Tryz.f20,Tryz.func20,e8A⟩
 ·obtain rfl:=yA h;exact⟨p21,Tryz.f21,Tryz.func21,e7A⟩
 ·obtain rfl:=yA h;exact⟨p25,Tryz.f25,Tryz.func25,e9k⟩
 ·obtain rfl:=yA h;exact⟨p26,Tryz.f26,Tryz.func26,e6l⟩
 ·obtain rfl:=yA h;exact⟨p27,Tryz.f27,Tryz.func27,e7t⟩
 ·obtain rfl:=yA h;exact⟨p28,Tryz.f28,Tryz.func28,e8K⟩
 ·obtain rfl:=yA h;exact⟨p30,Tryz.f30,Tryz.func30,e7U⟩
 ·obtain rfl:=yA h;exact⟨p31,Tryz.f31,Tryz.func31,e7S⟩
 ·obtain rfl:=yA h;exact⟨p32,Tryz.f32,Tryz.func32,e6P⟩
 ·obtain rfl:=yA h;exact⟨p34,Tryz.f34,Tryz.func34,e8B⟩
 ·obtain rfl:=yA h;exact⟨p35,Tryz.f35,Tryz.func35,e8n⟩
 ·obtain rfl:=yA h;exact⟨p36,Tryz.f36,Tryz.func36,e7c⟩
 ·obtain rfl:=yA h;exact⟨p38,Tryz.f38,Tryz.func38,e8p⟩
 ·obtain rfl:=yA h;exact⟨p39,Tryz.f39,Tryz.func39,e7N⟩
 ·obtain rfl:=yA h;exact⟨p40,Tryz.f40,Tryz.func40,e9h⟩
 ·obtain rfl:=yA h;exact⟨p44,Tryz.f44,Tryz.func44,e6o⟩
 ·obtain rfl:=yA h;exact⟨p45,Tryz.f45,Tryz.func45,e6V⟩
 ·obtain rfl:=yA h;exact⟨p46,Tryz.f46,Tryz.func46,e7k⟩
 ·obtain rfl:=yA h;exact⟨p47,Tryz.f47,Tryz.func47,e8O⟩
 ·obtain rfl:=yA h;exact⟨p49,Tryz.f49,Tryz.func49,e8b⟩
 ·obtain rfl:=yA h;exact⟨p50,Tryz.f50,Tryz.func50,e8Z⟩
 ·obtain rfl:=yA h;exact⟨p51,Tryz.f51,Tryz.func51,e7F⟩
 ·obtain rfl:=yA h;exact⟨p52,Tryz.f52,Tryz.func52,e7b⟩
 ·obtain rfl:=yA h;exact⟨p53,Tryz.f53,Tryz.func53,e6W⟩
 ·obtain rfl:=yA h;exact⟨p54,Tryz.f54,Tryz.func54,e7L⟩
 ·obtain rfl:=yA h;exact⟨p55,Tryz.f55,Tryz.func55,e8E⟩
 ·obtain rfl:=yA h;exact⟨p56,Tryz.f56,Tryz.func56,e6M⟩
 ·obtain rfl:=yA h;exact⟨p57,Tryz.f57,Tryz.func57,e8S⟩
 ·obtain rfl:=yA h;exact⟨p58,Tryz.f58,Tryz.func58,e7r⟩
 ·obtain rfl:=yA h;exact⟨p59,Tryz.f59,Tryz.func59,e7H⟩
 ·obtain rfl:=yA h;exact⟨p60,Tryz.f60,Tryz.func60,e8k⟩
 ·obtain rfl:=yA h;exact⟨p61,Tryz.f61,Tryz.func61,e8l⟩
 ·obtain rfl:=yA h;exact⟨p62,Tryz.f62,Tryz.func62,e8C⟩
 ·obtain rfl:=yA h;exact⟨p63,Tryz.f63,Tryz.func63,e7f⟩
 ·obtain rfl:=yA h;exact⟨p64,Tryz.f64,Tryz.func64,e7R⟩
 ·obtain rfl:=yA h;exact⟨p65,Tryz.f65,Tryz.func65,e7X⟩
 ·obtain rfl:=yA h;exact⟨p66,Tryz.f66,Tryz.func66,e8x⟩
 ·obtain rfl:=yA h;exact⟨p70,Tryz.f70,Tryz.func70,e7I⟩
 ·obtain rfl:=yA h;exact⟨p71,Tryz.f71,Tryz.func71,e8N⟩
 ·obtain rfl:=yA h;exact⟨p72,Tryz.f72,Tryz.func72,e6N⟩
 ·obtain rfl:=yA h;exact⟨p73,Tryz.f73,Tryz.func73,e7Z⟩
 ·obtain rfl:=yA h;exact⟨p74,Tryz.f74,Tryz.func74,e6H⟩
 ·obtain rfl:=yA h;exact⟨p75,Tryz.f75,Tryz.func75,e8t⟩
 ·obtain rfl:=yA h;exact⟨p76,Tryz.f76,Tryz.func76,e9g⟩
 ·obtain rfl:=yA h;exact⟨p77,Tryz.f77,Tryz.func77,e9l⟩
 ·obtain rfl:=yA h;exact⟨p78,Tryz.f78,Tryz.func78,e8R⟩
 ·obtain rfl:=yA h;exact⟨p79,Tryz.f79,Tryz.func79,e8g⟩
 ·obtain rfl:=yA h;exact⟨p80,Tryz.f80,Tryz.func80,e6D⟩
 ·obtain rfl:=yA h;exact⟨p81,Tryz.f81,Tryz.func81,e9f⟩
 ·obtain rfl:=yA h;exact⟨p82,Tryz.f82,Tryz.func82,e6r⟩
 ·obtain rfl:=yA h;exact⟨p83,Tryz.f83,Tryz.func83,e7u⟩
 ·obtain rfl:=yA h;exact⟨p84,Tryz.f84,Tryz.func84,e7V⟩
 ·obtain rfl:=yA h;exact⟨p85,Tryz.f85,Tryz.func85,e6p⟩
 ·obtain rfl:=yA h;exact⟨p86,Tryz.f86,Tryz.func86,e7x⟩
 ·obtain rfl:=yA h;exact⟨p87,Tryz.f87,Tryz.func87,e7g⟩
 ·obtain rfl:=yA h;exact⟨p88,Tryz.f88,Tryz.func88,e7o⟩
 ·obtain rfl:=yA h;exact⟨p89,Tryz.f89,Tryz.func89,e9q⟩
 ·obtain rfl:=yA h;exact⟨p90,Tryz.f90,Tryz.func90,e6s⟩
 ·obtain rfl:=yA h;exact⟨p91,Tryz.f91,Tryz.func91,e7p⟩
 ·obtain rfl:=yA h;exact⟨p92,Tryz.f92,Tryz.func92,e8z⟩
 ·obtain rfl:=yA h;exact⟨p93,Tryz.f93,Tryz.func93,e9d⟩
 ·obtain rfl:=yA h;exact⟨p94,Tryz.f94,Tryz.func94,e6q⟩
 ·obtain rfl:=yA h;exact⟨p95,Tryz.f95,Tryz.func95,e6I⟩
 ·obtain rfl:=yA h;exact⟨p96,Tryz.f96,Tryz.func96,e6F⟩
 ·obtain rfl:=yA h;exact⟨p97,Tryz.f97,Tryz.func97,e8a⟩
 ·obtain rfl:=yA h;exact⟨p98,Tryz.f98,Tryz.func98,e6Q⟩
 ·obtain rfl:=yA h;exact⟨p99,Tryz.f99,Tryz.func99,e7i⟩
 ·obtain rfl:=yA h;exact⟨e1Q,Tryz.f100,Tryz.func100,e3E⟩
 ·obtain rfl:=yA h;exact⟨e5E,Tryz.f101,Tryz.func101,e2X⟩
 ·obtain rfl:=yA h;exact⟨e4O,Tryz.f117,Tryz.func117,e4q⟩
 ·obtain rfl:=yA h;exact⟨e1Y,Tryz.f118,Tryz.func118,e3M⟩
 ·obtain rfl:=yA h;exact⟨e3v,Tryz.f119,Tryz.func119,e2Q⟩
 ·obtain rfl:=yA h;exact⟨e4k,Tryz.f120,Tryz.func120,e2A⟩
 ·obtain rfl:=yA h;exact⟨e3X,Tryz.f121,Tryz.func121,e5J⟩
 ·obtain rfl:=yA h;exact⟨e2O,Tryz.f126,Tryz.func126,e3H⟩
 ·obtain rfl:=yA h;exact⟨e2v,Tryz.f127,Tryz.func127,e3y⟩
 ·obtain rfl:=yA h;exact⟨e1P,Tryz.f128,Tryz.func128,e5F⟩
 ·obtain rfl:=yA h;exact⟨e4P,Tryz.f129,Tryz.func129,e3z⟩
 ·obtain rfl:=yA h;exact⟨e6c,Tryz.f130,Tryz.func130,e2Y⟩
 ·obtain rfl:=yA h;exact⟨e1H,Tryz.f131,Tryz.func131,e3N⟩
 ·obtain rfl:=yA h;exact⟨e2q,Tryz.f132,Tryz.func132,e5i⟩
 ·obtain rfl:=yA h;exact⟨e2h,Tryz.f133,Tryz.func133,e5L⟩
 ·obtain rfl:=yA h;exact⟨e1Z,Tryz.f134,Tryz.func134,e6b⟩
 ·obtain rfl:=yA h;exact⟨e4v,Tryz.f135,Tryz.func135,e2c⟩
 ·obtain rfl:=yA h;exact⟨e3W,Tryz.f136,Tryz.func136,e1G⟩
 ·obtain rfl:=yA h;exact⟨e1F,Tryz.f137,Tryz.func137,e6e⟩
 ·obtain rfl:=yA h;exact⟨e2w,Tryz.f138,Tryz.func138,e2p⟩
 ·obtain rfl:=yA h;exact⟨e4A,Tryz.f139,Tryz.func139,e6a⟩
 ·obtain rfl:=yA h;exact⟨e3s,Tryz.f140,Tryz.func140,e4x⟩
 ·obtain rfl:=yA h;exact⟨e4r,Tryz.f141,Tryz.func141,e3F⟩
 ·obtain rfl:=yA h;exact⟨e2Z,Tryz.f142,Tryz.func142,e3f⟩
 ·obtain rfl:=yA h;exact⟨e2R,Tryz.f144,Tryz.func144,e5M⟩
 ·obtain rfl:=yA h;exact⟨e4u,Tryz.f145,Tryz.func145,e3I⟩
 ·obtain rfl:=yA h;exact⟨e1J,Tryz.f147,Tryz.func147,e6d⟩
 ·obtain rfl:=yA h;exact⟨e2t,Tryz.f148,Tryz.func148,e2d⟩
 ·obtain rfl:=yA h;exact⟨e4M,Tryz.f149,Tryz.func149,e4E⟩
 ·obtain rfl:=yA h;exact⟨e4z,Tryz.f150,Tryz.func150,e2i⟩
 ·obtain rfl:=yA h;exact⟨e3A,Tryz.f151,Tryz.func151,e2M⟩
 ·obtain rfl:=yA h;exact⟨e4l,Tryz.f152,Tryz.func152,e3x⟩
 ·obtain rfl:=yA h;exact⟨e2k,Tryz.f153,Tryz.func153,e2z⟩
 ·obtain rfl:=yA h;exact⟨e5b,Tryz.f154,Tryz.func154,e5h⟩
 ·obtain rfl:=yA h;exact⟨e4R,Tryz.f155,Tryz.func155,e3K⟩
 ·obtain rfl:=yA h;exact⟨e2s,Tryz.f156,Tryz.func156,e3G⟩
 ·obtain rfl:=yA h;exact⟨e5U,Tryz.f157,Tryz.func157,e4V⟩
 ·obtain rfl:=yA h;exact⟨e3U,Tryz.f158,Tryz.func158,e4e⟩
 ·obtain rfl:=yA h;exact⟨e1E,Tryz.f159,Tryz.func159,e3r⟩
 ·obtain rfl:=yA h;exact⟨e5K,Tryz.f160,Tryz.func160,e5g⟩
 ·obtain rfl:=yA h;exact⟨e3J,Tryz.f161,Tryz.func161,e3P⟩
 ·obtain rfl:=yA h;exact⟨e2x,Tryz.f162,Tryz.func162,e3R⟩
 ·obtain rfl:=yA h;exact⟨e5r,Tryz.f163,Tryz.func163,e5P⟩
 ·obtain rfl:=yA h;exact⟨e3S,Tryz.f165,Tryz.func165,e4D⟩
 ·obtain rfl:=yA h;exact⟨e3Y,Tryz.f166,Tryz.func166,e5j⟩
 ·obtain rfl:=yA h;exact⟨e4C,Tryz.f167,Tryz.func167,e5I⟩
 ·obtain rfl:=yA h;exact⟨e5y,Tryz.f168,Tryz.func168,e4d⟩
 ·obtain rfl:=yA h;exact⟨e3B,Tryz.f169,Tryz.func169,e2u⟩
 ·obtain rfl:=yA h;exact⟨e2f,Tryz.f170,Tryz.func170,e3g⟩
 ·obtain rfl:=yA h;exact⟨e5Q,Tryz.f171,Tryz.func171,e2C⟩
 ·obtain rfl:=yA h;exact⟨e2g,Tryz.f172,Tryz.func172,e1W⟩
 ·obtain rfl:=yA h;exact⟨e5N,Tryz.f173,Tryz.func173,e1R⟩
 ·obtain rfl:=yA h;exact⟨e2l,Tryz.f174,Tryz.func174,e2y⟩
 ·obtain rfl:=yA h;exact⟨e2J,Tryz.f175,Tryz.func175,e5c⟩
 ·obtain rfl:=yA h;exact⟨e5C,Tryz.f176,Tryz.func176,e3Z⟩
 ·obtain rfl:=yA h;exact⟨e3p,Tryz.f177,Tryz.func177,e4Z⟩
 ·obtain rfl:=yA h;exact⟨e3w,Tryz.f178,Tryz.func178,e1O⟩
 ·obtain rfl:=yA h;exact⟨e1V,Tryz.f179,Tryz.func179,e3b⟩
 ·obtain rfl:=yA h;exact⟨e6f,Tryz.f180,Tryz.func180,e5D⟩
 ·obtain rfl:=yA h;exact⟨e1T,Tryz.f181,Tryz.func181,e4f⟩
 ·obtain rfl:=yA h;exact⟨e2b,Tryz.f182,Tryz.func182,e4y⟩
 ·obtain rfl:=yA h;exact⟨e4m,Tryz.f183,Tryz.func183,e5o⟩
 ·obtain rfl:=yA h;exact⟨e2H,Tryz.f184,Tryz.func184,e4n⟩
 ·obtain rfl:=yA h;exact⟨e5H,Tryz.f185,Tryz.func185,e4K⟩
 ·obtain rfl:=yA h;exact⟨e3o,Tryz.f186,Tryz.func186,e3d⟩
 ·obtain rfl:=yA h;exact⟨e4c,Tryz.f187,Tryz.func187,e1S⟩
 ·obtain rfl:=yA h;exact⟨e4j,Tryz.f188,Tryz.func188,e1K⟩
 ·obtain rfl:=yA h;exact⟨e4G,Tryz.f189,Tryz.func189,e5p⟩
 ·obtain rfl:=yA h;exact⟨e5z,Tryz.f190,Tryz.func190,e4t⟩
 ·cases h
theorem a2n(n:Int):IntKind.u64.wrap n=n % 18446744073709551616:=by simp[IntKind.wrap,IntKind.bits,IntKind.signed]
theorem e7K(n:Int):IntKind.u32.wrap n=n % 4294967296:=by simp[IntKind.wrap,IntKind.bits,IntKind.signed]
theorem wu8(n:Int):IntKind.u8.wrap n=n % 256:=by simp[IntKind.wrap,IntKind.bits,IntKind.signed]
theorem W5(n:Int):IntKind.i64.wrap n=(n+9223372036854775808) % 18446744073709551616-9223372036854775808:=by
 show(if(true && decide (n % 18446744073709551616>=9223372036854775808))=true then n % 18446744073709551616-18446744073709551616 else n % 18446744073709551616)=_
 simp only[Bool.true_and,decide_eq_true_eq]
 split<;>omega
def C2(n:Int):Prop:= -9223372036854775808<=n/\n<=9223372036854775807
def U64(n:Int):Prop:=0<=n/\n<=18446744073709551615
instance (n:Int):Decidable (C2 n):=by unfold C2;infer_instance
instance (n:Int):Decidable (U64 n):=by unfold U64;infer_instance
theorem e1y{a:Int}(h:(Lit.int .i64 a).wf=true):C2 a:=by
 simp only[Lit.wf,IntKind.min,IntKind.max,IntKind.signed,IntKind.bits,Bool.and_eq_true,decide_eq_true_eq]at h
 simp at h
 unfold C2;omega
theorem b2P(k:IntKind)(i:Nat)(hi:i<=k.bits)(hk:∀n:Int,0<=n->n<2 ^ i->k.wrap n=n)(x:Int):
  k.wrap ((BitVec.ofInt k.bits x &&& BitVec.ofInt k.bits (2 ^ i-1)).toNat:Int)=x % 2 ^ i:=by
 have hp:(2:Nat) ^ i<=2 ^ k.bits:=Nat.pow_le_pow_right (by decide) hi
 have hpos:0<2 ^ i:=Nat.two_pow_pos i
 have hc:((2:Int) ^ i-1)=((2 ^ i-1:Nat):Int):=by rw[Int.natCast_sub hpos];simp
 rw[hc]
 simp only[BitVec.ofInt_natCast,BitVec.toNat_and,BitVec.toNat_ofNat,BitVec.toNat_ofInt]
 rw[Nat.mod_eq_of_lt (a:=2 ^ i-1) (by omega),Nat.and_two_pow_sub_one_eq_mod]
 have e:(((x % ((2 ^ k.bits:Nat):Int)).toNat % 2 ^ i:Nat):Int)=x % 2 ^ i:=by
  have hb:(0:Int)<((2 ^ k.bits:Nat):Int):=by exact_mod_cast Nat.two_pow_pos k.bits
  have h0:0<=x % ((2 ^ k.bits:Nat):Int):=Int.emod_nonneg _ (by omega)
  rw[Int.natCast_emod,Int.toNat_of_nonneg h0]
  have hd:((2 ^ i:Nat):Int) ∣ ((2 ^ k.bits:Nat):Int):=by
   exact_mod_cast Nat.pow_dvd_pow 2 hi
  rw[Int.emod_emod_of_dvd _ hd]
  simp
 rw[e]
 have h2:(0:Int)<2 ^ i:=by exact_mod_cast hpos
 exact hk _ (Int.emod_nonneg _ (by omega)) (Int.emod_lt_of_pos _ h2)
theorem b0b(i:Nat)(hi:i<=64):∀n:Int,0<=n->n<2 ^ i->IntKind.u64.wrap n=n:=fun n h0 h1=>by
 have:(2:Nat) ^ i<=2 ^ 64:=Nat.pow_le_pow_right (by decide) hi
 have h2:(2:Int) ^ i<=2 ^ 64:=by exact_mod_cast this
 rw[a2n];omega
theorem d8e(i:Nat)(hi:i<=63):∀n:Int,0<=n->n<2 ^ i->IntKind.i64.wrap n=n:=fun n h0 h1=>by
 have:(2:Nat) ^ i<=2 ^ 63:=Nat.pow_le_pow_right (by decide) hi
 have h2:(2:Int) ^ i<=2 ^ 63:=by exact_mod_cast this
 rw[W5];omega
theorem a1H(i:Nat)(hi:i<=64)(x m:Int)(hm:m=2 ^ i-1):IntKind.u64.wrap ((BitVec.ofInt IntKind.u64.bits x &&& BitVec.ofInt IntKind.u64.bits m).toNat:Int)=x % 2 ^ i:=by
 rw[hm];exact b2P .u64 i hi (b0b i hi) x
theorem S9(i:Nat)(hi:i<=63)(x m:Int)(hm:m=2 ^ i-1):IntKind.i64.wrap ((BitVec.ofInt IntKind.i64.bits x &&& BitVec.ofInt IntKind.i64.bits m).toNat:Int)=x % 2 ^ i:=by
 rw[hm];exact b2P .i64 i (by show i<=64;omega) (d8e i hi) x
theorem a1x(k:IntKind)(x:Int)(n:Nat)(h:n<=k.bits):x.fdiv (2 ^ (min n k.bits))=x / 2 ^ n:=by
 rw[Nat.min_eq_left h,Int.fdiv_eq_ediv_of_nonneg _ (by exact_mod_cast Nat.zero_le _)]
theorem b3S(k:IntKind)(x:Int)(n:Nat)(h:n<=k.bits):x*2 ^ (min n k.bits)=x*2 ^ n:=by
 rw[Nat.min_eq_left h]
theorem H8(a b:Int)(h:0<=a):Int.tmod a b=a % b:=Int.tmod_eq_emod_of_nonneg h
theorem a4a(a b:Int)(h:0<=a):Int.tdiv a b=a / b:=Int.tdiv_eq_ediv_of_nonneg h
theorem e0p(a1 a0 b1 b0 p00 p01 p10 p11:Int)(h00:p00=a0*b0)(h01:p01=a0*b1)(h10:p10=a1*b0)(h11:p11=a1*b1):
  (a1*4294967296+a0)*(b1*4294967296+b0)=p11*18446744073709551616+(p10+p01)*4294967296+p00:=by
 subst h00 h01 h10 h11
 simp only[Int.add_mul,Int.mul_add]
 have e1:a1*4294967296*(b1*4294967296)=a1*b1*18446744073709551616:=by
  rw[Int.mul_assoc,Int.mul_left_comm 4294967296 b1,<-Int.mul_assoc];rfl
 have e2:a0*(b1*4294967296)=a0*b1*4294967296:=(Int.mul_assoc ..).symm
 have e3:a1*4294967296*b0=a1*b0*4294967296:=by rw[Int.mul_assoc,Int.mul_comm 4294967296 b0,<-Int.mul_assoc]
 rw[e1,e2,e3]
 omega
theorem T7(x y m:Int)(hx0:0<=x)(hx:x<=m)(hy0:0<=y)(hy:y<=m):0<=x*y/\x*y<=m*m:=
 ⟨yO hx0 hy0,Int.mul_le_mul hx hy hy0 (by omega)⟩
theorem e3c(a b p00 p01 p10 p11:Int)(ha0:0<=a)(ha:a<18446744073709551616)(hb0:0<=b)(hb:b<18446744073709551616)
  (h00:p00=(a % 4294967296)*(b % 4294967296)) (h01:p01=(a % 4294967296)*(b / 4294967296)) (h10:p10=(a / 4294967296)*(b % 4294967296)) (h11:p11=(a / 4294967296)*(b / 4294967296)):
  a*b=p11*18446744073709551616+(p10+p01)*4294967296+p00/\(0<=p00/\p00<=18446744065119617025)/\(0<=p01/\p01<=18446744065119617025)/\(0<=p10/\p10<=18446744065119617025)/\0<=p11/\p11<=18446744065119617025:=by
 have e:=e0p (a / 4294967296) (a % 4294967296) (b / 4294967296) (b % 4294967296) p00 p01 p10 p11 h00 h01 h10 h11
 have ea:a / 4294967296*4294967296+a % 4294967296=a:=by omega
 have eb:b / 4294967296*4294967296+b % 4294967296=b:=by omega
 rw[ea,eb]at e
 refine⟨e,?_,?_,?_,?_⟩
 ·rw[h00];exact T7 _ _ 4294967295 (by omega) (by omega) (by omega) (by omega)
 ·rw[h01];exact T7 _ _ 4294967295 (by omega) (by omega) (by omega) (by omega)
 ·rw[h10];exact T7 _ _ 4294967295 (by omega) (by omega) (by omega) (by omega)
 ·rw[h11];exact T7 _ _ 4294967295 (by omega) (by omega) (by omega) (by omega)
theorem d5k(a b:Int)(ha:U64 a)(hb:U64 b):
  (a / 4294967296*(b / 4294967296) % 18446744073709551616+(a / 4294967296*(b % 4294967296) % 18446744073709551616+a % 4294967296*(b % 4294967296) % 18446744073709551616 / 4294967296) % 18446744073709551616 / 4294967296) % 18446744073709551616+
   ((a / 4294967296*(b % 4294967296) % 18446744073709551616+a % 4294967296*(b % 4294967296) % 18446744073709551616 / 4294967296) % 18446744073709551616 % 4294967296+a % 4294967296*(b / 4294967296) % 18446744073709551616) % 18446744073709551616 / 4294967296=a*b / 18446744073709551616:=by
 unfold U64 at ha hb
 obtain⟨e,h0,h1,h2,h3⟩:=e3c a b _ _ _ _ ha.1 (by omega) hb.1 (by omega) rfl rfl rfl rfl
 generalize a % 4294967296*(b % 4294967296)=p00 at*
 generalize a % 4294967296*(b / 4294967296)=p01 at*
 generalize a / 4294967296*(b % 4294967296)=p10 at*
 generalize a / 4294967296*(b / 4294967296)=p11 at*
 rw[e]
 omega
end Go.Proofs.YtlakhgibjfmjjaaGreat.Can
namespace Go.Proofs.YtlakhgibjfmjjaaGreat.Can
open Go
attribute [local congr] l9 m9 f6 f7 f9 l7 l8 s7 r9
theorem a5I(h:Heap)(a b:Int)(ha:U64 a)(hb:U64 b)(Q:Value->Heap->Prop):r8 cp 85 [.int .u64 a,.int .u64 b] h Q↔Q (.tuple #[.int .u64 (a*b / 18446744073709551616),.int .u64 (a*b % 18446744073709551616)]) h:=by
 refine p6 ?_ Q
 rw[a8 cp e7y]
 have m1:=fun x:Int=>a1H 32 (by decide) x 4294967295 (by decide)
 have s1:=fun x:Int=>a1x .u64 x 32 (by decide)
 have p32:(2:Int) ^ 32=4294967296:=by decide
 simp(disch:=omega)only[c85,↓R85,m1,s1,a2n,p32,↓l5,j0,zA,zB,zC,zD,zE,zF,zG,zH,zI,reduceCtorEq,zJ,zK,zL,zM]
 have e:=d5k a b ha hb
 have h2:0<=a*b / 18446744073709551616/\a*b / 18446744073709551616<18446744073709551616:=by
  unfold U64 at ha hb
  have:=T7 a b 18446744073709551615 ha.1 ha.2 hb.1 hb.2
  omega
 rw[e,Int.emod_eq_of_lt h2.1 h2.2]
theorem a1Q(n:Int)(h:C2 n):IntKind.i64.wrap n=n:=by unfold C2 at h;exact M8 h.1 h.2
theorem d7v(a b:Int)(ha:C2 a)(hb:C2 b):(decide (IntKind.i64.wrap (a+b)>a)==decide (b>0))=decide (C2 (a+b)):=by
 unfold C2 at*
 rw[W5]
 by_cases h: -9223372036854775808<=a+b/\a+b<=9223372036854775807
 ·rw[decide_eq_true h,beq_iff_eq,decide_eq_decide];omega
 ·rw[decide_eq_false h,beq_eq_false_iff_ne,ne_eq,decide_eq_decide];omega
theorem e1m(h:Heap)(a b:Int)(ha:C2 a)(hb:C2 b)(Q:Value->Heap->Prop):r8 cp 144 [.int .i64 a,.int .i64 b] h Q↔Q (.tuple #[.int .i64 (IntKind.i64.wrap (a+b)),.bool (decide (C2 (a+b)))]) h:=by
 refine p6 ?_ Q
 rw[a8 cp e4I]
 simp(disch:=omega)only[d8l,↓e8c,↓l5,j0,zA,zB,zC,zD,zE,zF,zG,zH,zI,reduceCtorEq,zJ,zK,zL,zM]
 rw[d7v a b ha hb]
 first|done|trivial
theorem e1o(h:Heap)(b:Bool)(Q:Value->Heap->Prop):r8 cp 145 [.bool b] h Q↔Q (.int .i64 (if b then-9223372036854775808 else 9223372036854775807)) h:=by
 refine p6 ?_ Q
 rw[a8 cp e5w]
 cases b<;>simp(disch:=omega)only[d8v,↓e7Y,↓l5,j0,zA,zB,zC,zD,zE,zF,zG,zH,zI,reduceCtorEq,zJ,zK,zL,zM]<;>first|done|trivial
def M6(n:Int):Int:=if n< -9223372036854775808 then-9223372036854775808 else if n>9223372036854775807 then 9223372036854775807 else n
theorem a1B(n:Int):C2 (M6 n):=by
 unfold M6 C2
 split
 ·omega
 ·split<;>omega
theorem O1{n:Int}(h:C2 n):M6 n=n:=by unfold C2 at h;unfold M6;rw[if_neg (by omega),if_neg (by omega)]
theorem N3(h:Heap)(a b:Int)(ha:C2 a)(hb:C2 b)(Q:Value->Heap->Prop):r8 cp 126 [.int .i64 a,.int .i64 b] h Q↔Q (.int .i64 (M6 (a+b))) h:=by
 refine p6 ?_ Q
 rw[a8 cp e4S]
 have f1:=fun h=>e1m h a b ha hb
 by_cases hi:C2 (a+b)
 ·have a1:=decide_eq_true hi
  simp(disch:=omega)only[c9D,↓e5q,f1,a1,O1 hi,a1Q _ hi,↓l5,j0,zA,zB,zC,zD,zE,zF,zG,zH,zI,reduceCtorEq,zJ,zK,zL,zM]
  first|done|trivial
 ·have a1:=decide_eq_false hi
  simp(disch:=omega)only[c9D,↓e5q,f1,a1,e1o,↓l5,j0,zA,zB,zC,zD,zE,zF,zG,zH,zI,reduceCtorEq,zJ,zK,zL,zM]
  unfold C2 at ha hb hi
  unfold M6
  by_cases h0:a<0
  ·rw[decide_eq_true h0,if_pos rfl,if_pos (by omega)]
  ·rw[decide_eq_false h0,if_neg Bool.false_ne_true,if_neg (by omega),if_pos (by omega)]
def Q4(W D:Int):Int:=if W % D=0 then W / D else W / D+1
theorem c0I(h:Heap)(a b:Int)(ha:C2 a)(ha0:0<=a)(hb:C2 b)(hb1:1<=b)(Q:Value->Heap->Prop):r8 cp 73 [.int .i64 a,.int .i64 b] h Q↔Q (.int .i64 (Q4 a b)) h:=by
 refine p6 ?_ Q
 rw[a8 cp e9e]
 unfold C2 at ha hb
 have a1:decide (a<0)=false:=decide_eq_false (by omega)
 have a2:decide (b<1)=false:=decide_eq_false (by omega)
 have n0:(b=0)=False:=by simp;omega
 have q0:0<=a / b:=Int.ediv_nonneg ha0 (by omega)
 have q1:a / b<=a:=Int.ediv_le_self b ha0
 have r0:0<=a % b:=Int.emod_nonneg a (by omega)
 have r1:=Int.emod_lt_of_pos a (show 0<b by omega)
 have t1:a.tdiv b=a / b:=a4a a b ha0
 have t2:a.tmod b=a % b:=H8 a b ha0
 by_cases hr:a % b=0
 ·have a3:decide (a % b>0)=false:=decide_eq_false (by omega)
  simp(disch:=omega)only[c73,↓R73,a1,a2,a3,n0,t1,t2,↓l5,j0,zA,zB,zC,zD,zE,zF,zG,zH,zI,reduceCtorEq,zJ,zK,zL,zM]
  exact(by unfold Q4;rw[if_pos hr])
 ·have a3:decide (a % b>0)=true:=decide_eq_true (by omega)
  have q2:a / b<a\/b=1:=by
   by_cases hb2:b=1
   ·exact .inr hb2
   ·left
    have:=Int.ediv_lt_self_of_pos_of_ne_one (x:=a) (y:=b) (by rcases Int.lt_or_eq_of_le ha0 with h|h;exact h;rw[<-h]at hr;simp at hr) hb2
    omega
  have q3:a / b+1<=9223372036854775807:=by
   rcases q2 with h|h
   ·omega
   ·subst h;simp at hr
  simp(disch:=omega)only[c73,↓R73,a1,a2,a3,n0,t1,t2,↓l5,j0,zA,zB,zC,zD,zE,zF,zG,zH,zI,reduceCtorEq,zJ,zK,zL,zM]
  exact(by unfold Q4;rw[if_neg hr])
theorem c8W(a b p:Int)(ha:C2 a)(hb:C2 b)(hp:p=a*b):
  ∃hi lo,a % 18446744073709551616*(b % 18446744073709551616) / 18446744073709551616=hi/\a % 18446744073709551616*(b % 18446744073709551616) % 18446744073709551616=lo/\U64 hi/\U64 lo/\
   IntKind.i64.wrap lo=IntKind.i64.wrap p/\
   ((let up:=IntKind.i64.wrap hi;let up:=if a<0 then IntKind.i64.wrap (up-b)else up;let up:=if b<0 then IntKind.i64.wrap (up-a)else up;(up==IntKind.i64.wrap lo / 9223372036854775808))=decide (C2 p)):=by
 have hpb: -85070591730234615865843651857942052864<=p/\p<=85070591730234615865843651857942052864:=by
  unfold C2 at ha hb
  rw[hp]
  have h1:(a.natAbs:Int)<=9223372036854775808:=by omega
  have h2:(b.natAbs:Int)<=9223372036854775808:=by omega
  have h3:((a*b).natAbs:Int)<=9223372036854775808*9223372036854775808:=by
   rw[Int.natAbs_mul,Int.natCast_mul]
   exact Int.mul_le_mul h1 h2 (by omega) (by omega)
  omega
 refine⟨_,_,rfl,rfl,?_⟩
 unfold C2 at ha hb
 have hx:∃m,a % 18446744073709551616*(b % 18446744073709551616)=p+18446744073709551616*m/\
   m=(if a<0 then b else 0)+(if b<0 then a else 0)+(if a<0/\b<0 then 18446744073709551616 else 0):=by
  refine⟨_,?_,rfl⟩
  by_cases c1:a<0
  ·have e1:a % 18446744073709551616=a+18446744073709551616:=by omega
   by_cases c2:b<0
   ·have e2:b % 18446744073709551616=b+18446744073709551616:=by omega
    rw[e1,e2,if_pos c1,if_pos c2,if_pos ⟨c1,c2⟩,Int.add_mul,Int.mul_add,Int.mul_add,<-hp];omega
   ·have e2:b % 18446744073709551616=b:=by omega
    rw[e1,e2,if_pos c1,if_neg c2,if_neg (by omega),Int.add_mul,<-hp];omega
  ·have e1:a % 18446744073709551616=a:=by omega
   by_cases c2:b<0
   ·have e2:b % 18446744073709551616=b+18446744073709551616:=by omega
    rw[e1,e2,if_neg c1,if_pos c2,if_neg (by omega),Int.mul_add,<-hp];omega
   ·have e2:b % 18446744073709551616=b:=by omega
    rw[e1,e2,if_neg c1,if_neg c2,if_neg (by omega),<-hp];omega
 obtain⟨m,hm,hmm⟩:=hx
 have hpos:=T7 (a % 18446744073709551616) (b % 18446744073709551616) 18446744073709551615 (by omega) (by omega) (by omega) (by omega)
 rw[hm]at hpos ⊢
 clear hm hp
 have hq:(p+18446744073709551616*m) / 18446744073709551616=p / 18446744073709551616+m:=by omega
 have hl:(p+18446744073709551616*m) % 18446744073709551616=p % 18446744073709551616:=by omega
 have hqb: -4611686018427387904<=p / 18446744073709551616/\p / 18446744073709551616<=4611686018427387904:=by omega
 have hlw:IntKind.i64.wrap (p % 18446744073709551616)=IntKind.i64.wrap p:=by rw[W5,W5];omega
 rw[hq,hl,hlw]
 have ws:∀x y:Int,IntKind.i64.wrap (IntKind.i64.wrap x-y)=IntKind.i64.wrap (x-y):=fun x y=>by rw[W5,W5,W5];omega
 have ws2:∀x y z:Int,IntKind.i64.wrap (IntKind.i64.wrap x-y-z)=IntKind.i64.wrap (x-y-z):=fun x y z=>by rw[W5,W5,W5];omega
 have hw:∀x k:Int,x=p / 18446744073709551616+18446744073709551616*k->IntKind.i64.wrap x=p / 18446744073709551616:=fun x k hx=>by rw[W5];omega
 have hfin:(p / 18446744073709551616=IntKind.i64.wrap p / 9223372036854775808)↔C2 p:=by unfold C2;rw[W5];omega
 have hhi:U64 (p / 18446744073709551616+m):=by
  unfold U64
  clear ws hw hfin hlw
  omega
 refine⟨hhi,by unfold U64;omega,rfl,?_⟩
 simp only
 rw[Bool.eq_iff_iff,decide_eq_true_eq,beq_iff_eq,<-hfin]
 by_cases c1:a<0
 ·by_cases c2:b<0
  ·rw[if_pos c1,if_pos c2,if_pos ⟨c1,c2⟩]at hmm
   rw[if_pos c1,if_pos c2,ws,ws2,hw _ 1 (by omega)]
  ·rw[if_pos c1,if_neg c2,if_neg (by omega)]at hmm
   rw[if_pos c1,if_neg c2,ws,hw _ 0 (by omega)]
 ·by_cases c2:b<0
  ·rw[if_neg c1,if_pos c2,if_neg (by omega)]at hmm
   rw[if_neg c1,if_pos c2,ws,hw _ 0 (by omega)]
  ·rw[if_neg c1,if_neg c2,if_neg (by omega)]at hmm
   rw[if_neg c1,if_neg c2,hw _ 0 (by omega)]
theorem c8q(h:Heap)(a b:Int)(ha:C2 a)(hb:C2 b)(Q:Value->Heap->Prop):r8 cp 72 [.int .i64 a,.int .i64 b] h Q↔Q (.tuple #[.int .i64 (IntKind.i64.wrap (a*b)),.bool (decide (C2 (a*b)))]) h:=by
 refine p6 ?_ Q
 rw[a8 cp e8v]
 have f1:=fun h=>a5I h (a % 18446744073709551616) (b % 18446744073709551616) (by unfold U64;omega) (by unfold U64;omega)
 obtain⟨hi,lo,e1,e2,u1,u2,e3,e4⟩:=c8W a b (a*b) ha hb rfl
 have c64:∀x:Int,(2:Int) ^ 63=9223372036854775808:=fun _=>by decide
 have s1:=fun x:Int=>a1x .i64 x 63 (by decide)
 rw[<-e4,<-e3]
 by_cases c1:a<0
 ·have a1:=decide_eq_true c1
  by_cases c2:b<0
  ·have a2:=decide_eq_true c2
   simp(disch:=omega)only[c72,↓R72,a2n,f1,e1,e2,a1,a2,s1,c64 0,c1,c2,↓l5,j0,zA,zB,zC,zD,zE,zF,zG,zH,zI,reduceCtorEq,zJ,zK,zL,zM]
   first|done|trivial
  ·have a2:=decide_eq_false c2
   simp(disch:=omega)only[c72,↓R72,a2n,f1,e1,e2,a1,a2,s1,c64 0,c1,c2,↓l5,j0,zA,zB,zC,zD,zE,zF,zG,zH,zI,reduceCtorEq,zJ,zK,zL,zM]
   first|done|trivial
 ·have a1:=decide_eq_false c1
  by_cases c2:b<0
  ·have a2:=decide_eq_true c2
   simp(disch:=omega)only[c72,↓R72,a2n,f1,e1,e2,a1,a2,s1,c64 0,c1,c2,↓l5,j0,zA,zB,zC,zD,zE,zF,zG,zH,zI,reduceCtorEq,zJ,zK,zL,zM]
   first|done|trivial
  ·have a2:=decide_eq_false c2
   simp(disch:=omega)only[c72,↓R72,a2n,f1,e1,e2,a1,a2,s1,c64 0,c1,c2,↓l5,j0,zA,zB,zC,zD,zE,zF,zG,zH,zI,reduceCtorEq,zJ,zK,zL,zM]
   first|done|trivial
end Go.Proofs.YtlakhgibjfmjjaaGreat.Can
