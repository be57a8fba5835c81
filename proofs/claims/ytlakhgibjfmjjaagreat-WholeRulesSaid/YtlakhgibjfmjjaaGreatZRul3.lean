/- Part 3 of 6 of the proof of the row RowWholeRules: whatever the input, the law returns true. No condition. -/
import Derived.Test.YtlakhgibjfmjjaaGreatZRul2
import Derived.KernelRfl
import Derived.RowKit
import Derived.Test.YtlakhgibjfmjjaaGreatProg
set_option linter.unusedSimpArgs false
set_option linter.unusedVariables false
set_option linter.defProp false
set_option maxHeartbeats 4000000
open Nat renaming reduceEqDiff → zA, reduceAdd → zB, reduceMul → zC, reduceSub → zD, reduceLT → zE, reduceLeDiff → zF, reduceBEq → zG, lt_of_lt_of_le → yN, le_refl → yP, le_trans → yR, mul_one → yS
open Int renaming reduceLT → zH, reduceLE → zI, reduceToNat → zJ, reduceAdd → zK, reduceSub → zL, reduceMul → zM, reduceBEq → zN, mul_nonneg → yO, le_refl → yQ
open Option renaming some.inj → yA, some.injEq → yC, map_eq_some_iff → yD
open Prod renaming mk.injEq → yB
open List renaming getElem?_eq_some_iff → yE, getElem?_eq_getElem → yF, length_append → yG, getElem?_set_self → yH, getElem?_set_ne → yI, getElem?_map → yJ, mem_of_getElem? → yK, length_map → yL, length_cons → yM
namespace Go.Proofs.YtlakhgibjfmjjaaGreat.Can
open Go
open Reg renaming op->xA,opg->xB,done->xC,snap->xD,chk->xE
open COp renaming load->wA,mv->wB,fieldAddr->wC,call->wD,bin->wE,store->wF,extract->wG,alloc->wH,indexSl->wI,nilCheck->wJ,pick->wK,lenSl->wL,build->wM,box->wN,conv->wO,un->wP
def d7r:ByteArray:=⟨#[0,1,2,2,3,3,3,3,4,4,4,4,4,4,4,4,5,5,5,5,5,5,5,5,5,5,5,5,5,5,5,5,6,6,6,6,6,6,6,6,6,6,6,6,6,6,6,6,6,6,6,6,6,6,6,6,6,6,6,6,6,6,6,6,7,7,7,7,7,7,7,7,7,7,7,7,7,7,7,7,7,7,7,7,7,7,7,7,7,7,7,7,7,7,7,7,7,7,7,7,7,7,7,7,7,7,7,7,7,7,7,7,7,7,7,7,7,7,7,7,7,7,7,7,7,7,7,7,8,8,8,8,8,8,8,8,8,8,8,8,8,8,8,8,8,8,8,8,8,8,8,8,8,8,8,8,8,8,8,8,8,8,8,8,8,8,8,8,8,8,8,8,8,8,8,8,8,8,8,8,8,8,8,8,8,8,8,8,8,8,8,8,8,8,8,8,8,8,8,8,8,8,8,8,8,8,8,8,8,8,8,8,8,8,8,8,8,8,8,8,8,8,8,8,8,8,8,8,8,8,8,8,8,8,8,8,8,8,8,8,8,8,8,8,8,8,8,8,8,8,8,8,8,8,8,8]⟩
def e1L(e:a7):Reg:=xA (wN 103 (e 0)) fun a=>xA (wB (.bool false)) fun b=>xC ((e.upd 3 a).upd 6 b)
def e5c(e:a7):Reg:=xA (wD 11 []) fun a=>xA (wP .not a) fun b=>xC (e.upd 21 b)
def e2d(e:a7):Reg:=xA (wB (.bool false)) fun a=>xC (e.upd 6 a)
def e4O(e:a7):Reg:=xA (wB (e 1)) fun a=>xA (wL a) fun b=>xA (wE .gtr b (.int .i64 50)) fun c=>xA (wB c) fun d=>xB d false (wB (e 2)) fun f=>xB d false (wD 12 [f]) fun g=>xB d false (wP .not g) fun i=>xA (wK d (.bool true) i) fun j=>xC (e.upd 29 j)
def e5v(e:a7):Reg:=xA (wB (.bool true)) fun a=>xC (e.upd 6 a)
def e5w(e:a7):Reg:=xA (.sliceArr 2 9 (e 3) none none) fun a=>xA (wD 13 [a,(.int .i64 0)]) fun b=>xA (wH 30 [(.int .i64 0),(.int .i64 0),(.int .i64 0),(.slice none 0 0)]) fun c=>xA (wF 4 c b) fun _=>xC (e.upd 7 c)
def e5U(e:a7):Reg:=xA (wA (some 4) (e 7)) fun a=>xA (wB (e 1)) fun b=>xA (wD 14 [a,b]) fun c=>xA (wB c) fun d=>xA (wG d 0) fun f=>xA (wG d 1) fun g=>xA (wB f) fun i=>xA (wB g) fun j=>xC ((e.upd 8 i).upd 9 j)
def e4e(e:a7):Reg:=xA (wA (some 4) (e 7)) fun a=>xA (wB (e 1)) fun b=>xA (wD 14 [a,b]) fun c=>xA (wB c) fun d=>xA (wG d 0) fun f=>xA (wG d 1) fun g=>xA (wB f) fun i=>xA (wB g) fun j=>xC ((e.upd 10 i).upd 11 j)
def e2i(e:a7):Reg:=xA (wB (e 8)) fun a=>xA (wM [(.int .i64 0),(.int .i64 0),(.int .i64 0),(.slice none 0 0),(.int .i64 0),(.slice none 0 0)] [(0,1,(.int .i64 0))]) fun b=>xA (wD 15 [a,b]) fun c=>xC e
def e4P(e:a7):Reg:=xA (wB (e 10)) fun a=>xA (wM [(.int .i64 0),(.int .i64 0),(.int .i64 0),(.slice none 0 0),(.int .i64 0),(.slice none 0 0)] [(0,1,(.int .i64 0))]) fun b=>xA (wD 15 [a,b]) fun c=>xC e
def e1n(e:a7):Reg:=xA (wB (.int .i64 0)) fun a=>xC (e.upd 12 a)
def e0M(e:a7):Reg:=xA (wB (e 2)) fun a=>xA (wL a) fun b=>xA (wB (.int .i64 0)) fun c=>xC (((e.upd 50 a).upd 51 b).upd 52 c)
def e1g(e:a7):Reg:=xA (wE .lss (e 52) (e 51)) fun a=>xC (e.upd 53 a)
def e1r(e:a7):Reg:=xA (wB (e 52)) fun a=>xA (wI 4 (e 50) (e 52)) fun b=>xA (wA (some 4) b) fun c=>xA (wH 48 [(.int .i64 0),(.int .i64 0),(.string ⟨#[]⟩),(.bool false)]) fun d=>xA (wB a) fun f=>xA (wF 4 d c) fun _=>xC ((e.upd 14 d).upd 13 f)
def d9P(e:a7):Reg:=xA (wB (e 12)) fun a=>xA (wC 0 (e 14)) fun b=>xA (wA none b) fun c=>xA (wD 16 [c]) fun d=>xA (wE .add a d) fun f=>xA (wB f) fun g=>xC (e.upd 12 g)
def e0x(e:a7):Reg:=xA (wC 1 (e 14)) fun a=>xA (wA none a) fun b=>xA (wE .and b (.int .i64 31)) fun c=>xA (wO .u32 c) fun d=>xA (wC 2 (e 14)) fun f=>xA (wA none f) fun g=>xA (wM [(.int .i64 0),(.int .i64 0),(.int .u32 0),(.string ⟨#[]⟩),(.int .i64 0)] [(0,1,(.int .i64 1)),(2,1,d),(3,1,g)]) fun i=>xA (wH 61 [(.int .i64 0),(.int .i64 0),(.int .u32 0),(.string ⟨#[]⟩),(.int .i64 0)]) fun j=>xA (wF 5 j i) fun _=>xC (e.upd 15 j)
def e0A(e:a7):Reg:=xA (wB (e 13)) fun a=>xA (wE .and a (.int .i64 1)) fun b=>xA (wE .eql b (.int .i64 1)) fun c=>xC (e.upd 71 c)
def e1h(e:a7):Reg:=xA (wC 1 (e 15)) fun a=>xA (wF 1 a (.int .i64 1)) fun _=>xC e
def e1d(e:a7):Reg:=xA (wB (e 10)) fun a=>xA (wB (e 12)) fun b=>xA (wA (some 5) (e 15)) fun c=>xA (wD 20 [c]) fun d=>xA (wM [(.int .i64 0),(.int .i64 0),(.int .i64 0),(.slice none 0 0),(.int .i64 0),(.slice none 0 0)] [(0,1,(.int .i64 2)),(1,1,b),(3,1,d)]) fun f=>xA (wD 15 [a,f]) fun g=>xC e
def e0o(e:a7):Reg:=xA (wB (e 10)) fun a=>xA (wB (e 12)) fun b=>xA (wM [(.int .i64 0),(.int .i64 0),(.int .i64 0),(.slice none 0 0),(.int .i64 0),(.slice none 0 0)] [(0,1,(.int .i64 3)),(1,1,b),(4,1,(.int .i64 99))]) fun c=>xA (wD 15 [a,c]) fun d=>xC e
def e1m(e:a7):Reg:=xA (wB (e 8)) fun a=>xA (wB (e 12)) fun b=>xA (wA (some 5) (e 15)) fun c=>xD fun h3=>xA (wD 20 [c]) fun d=>xA (wM [(.int .i64 0),(.int .i64 0),(.int .i64 0),(.slice none 0 0),(.int .i64 0),(.slice none 0 0)] [(0,1,(.int .i64 2)),(1,1,b),(3,1,d)]) fun f=>xD fun h5=>xA (wD 15 [a,f]) fun g=>xA (wB (e 10)) fun i=>xA (wB (e 12)) fun j=>xA (wA (some 5) (e 15)) fun k=>xE none (some h5) (wA (some 5) (e 15)) k<|xE none (some h3) (wA (some 5) (e 15)) k<|xD fun h9=>xA (wD 20 [k]) fun m=>xA (wM [(.int .i64 0),(.int .i64 0),(.int .i64 0),(.slice none 0 0),(.int .i64 0),(.slice none 0 0)] [(0,1,(.int .i64 2)),(1,1,j),(3,1,m)]) fun n=>xD fun h11=>xA (wD 15 [i,n]) fun o=>xA (wH 42 [(.int .i64 0),(.int .i64 0),(.slice none 0 0),(.slice none 0 0)]) fun p=>xA (wH 42 [(.int .i64 0),(.int .i64 0),(.slice none 0 0),(.slice none 0 0)]) fun q=>xD fun h14=>xA (wF 4 p g) fun _=>xD fun h15=>xA (wF 4 q o) fun _=>xC ((e.upd 16 p).upd 17 q)
def d9V(e:a7):Reg:=xA (wB (e 8)) fun a=>xA (wB (e 12)) fun b=>xA (wM [(.int .i64 0),(.int .i64 0),(.int .i64 0),(.slice none 0 0),(.int .i64 0),(.slice none 0 0)] [(0,1,(.int .i64 3)),(1,1,b),(4,1,(.int .i64 99))]) fun c=>xA (wD 15 [a,c]) fun d=>xA (wB (e 10)) fun f=>xA (wB (e 12)) fun g=>xA (wM [(.int .i64 0),(.int .i64 0),(.int .i64 0),(.slice none 0 0),(.int .i64 0),(.slice none 0 0)] [(0,1,(.int .i64 3)),(1,1,g),(4,1,(.int .i64 99))]) fun i=>xA (wD 15 [f,i]) fun j=>xA (wH 42 [(.int .i64 0),(.int .i64 0),(.slice none 0 0),(.slice none 0 0)]) fun k=>xA (wH 42 [(.int .i64 0),(.int .i64 0),(.slice none 0 0),(.slice none 0 0)]) fun m=>xA (wF 4 k d) fun _=>xA (wF 4 m j) fun _=>xC ((e.upd 18 k).upd 19 m)
def e1a(e:a7):Reg:=xA (wA (some 4) (e 16)) fun a=>xA (wA (some 4) (e 17)) fun b=>xA (wD 25 [a,b]) fun c=>xA (wP .not c) fun d=>xA (wB d) fun f=>xB f false (wA (some 4) (e 18)) fun g=>xB f false (wA (some 4) (e 19)) fun i=>xB f false (wD 25 [g,i]) fun j=>xB f false (wP .not j) fun k=>xA (wK f (.bool true) k) fun m=>xC (e.upd 112 m)
def e0i(e:a7):Reg:=xA (wB (.bool false)) fun a=>xC (e.upd 6 a)
def e1k(e:a7):Reg:=xA (wE .add (e 52) (.int .i64 1)) fun a=>xA (wB a) fun b=>xC (e.upd 52 b)
def e4I:CC:=(.seq (.region e1g) (.seq (.cond (fun e=>e 53) .skip (.exit 0)) (.seq (.block 1 (.seq (.region e1r) (.seq (.region d9P) (.seq (.region e0x) (.seq (.seq (.region e0A) (.cond (fun e=>e 71) (.seq (.region e1h) (.seq (.region e1d) (.seq (.region e0o) (.exit 1)))) .skip)) (.seq (.region e1m) (.seq (.region d9V) (.seq (.region e1a) (.cond (fun e=>e 112) (.seq (.region e0i) .ret) .skip))))))))) (.region e1k))))
def e0d(e:a7):Reg:=xA (wB (e 8)) fun a=>xA (wD 27 [a,(.int .i64 0)]) fun b=>xA (wD 28 [b]) fun c=>xA (wB (e 10)) fun d=>xA (wD 27 [d,(.int .i64 0)]) fun f=>xA (wD 28 [f]) fun g=>xA (.eqAgg false [.int,.int,.int,.int,.int] c g) fun i=>xA (wB i) fun j=>xB j true (wB (e 8)) fun k=>xB j true (wD 27 [k,(.int .i64 1)]) fun m=>xB j true (wD 28 [m]) fun n=>xB j true (wM [(.int .i64 0),(.int .i64 0),(.int .i64 0),(.int .i64 0),(.int .i64 0)] []) fun o=>xB j true (.eqAgg false [.int,.int,.int,.int,.int] n o) fun p=>xA (wK j p (.bool false)) fun q=>xA (wB q) fun r=>xC (e.upd 6 r)
def c9:CFn:=⟨(.seq (.region e1L) (.seq (.seq (.region e5c) (.cond (fun e=>e 21) (.seq (.region e2d) .ret) .skip)) (.seq (.seq (.region e4O) (.cond (fun e=>e 29) (.seq (.region e5v) .ret) .skip)) (.seq (.region e5w) (.seq (.region e5U) (.seq (.region e4e) (.seq (.region e2i) (.seq (.region e4P) (.seq (.region e1n) (.seq (.seq (.region e0M) (.block 0 (.loop e4I))) (.seq (.region e0d) .ret))))))))))),[.t 6]⟩
def p9:Pers:=⟨20,[21,29,50,51,52,53,71,112],128,[]⟩
def e0z(e:a7):Reg:=xA (wB (.bool false)) fun a=>xC (e.upd 0 a)
def e1p(e:a7):Reg:=xA (wM [(.int .i64 0),(.int .i64 0),(.int .i64 0),(.int .i64 0),(.int .i64 0),(.int .i64 0),(.int .i64 0),(.int .i64 0),(.bool false)] []) fun a=>xA (.buildSlice 23 1 [(.int .i64 0),(.int .i64 0),(.int .i64 0),(.int .i64 0),(.int .i64 0),(.int .i64 0),(.int .i64 0),(.int .i64 0),(.bool false)] [(0,9,a)]) fun b=>xA (wD 13 [b,(.int .i64 0)]) fun c=>xA (wD 14 [c,(.slice none 0 0)]) fun d=>xA (wB d) fun f=>xA (wG f 0) fun g=>xA (wG f 1) fun i=>xA (wB g) fun j=>xA (wB i) fun k=>xC ((e.upd 1 j).upd 2 k)
def d9M(e:a7):Reg:=xA (wB (e 2)) fun a=>xA (wE .neq a (.int .i64 0)) fun b=>xA (wB b) fun c=>xB c false (wB (e 1)) fun d=>xB c false (.eqK .ptr false d (.pointer none)) fun f=>xA (wK c (.bool true) f) fun g=>xC (e.upd 20 g)
def e0t(e:a7):Reg:=xA (wB (.bool false)) fun a=>xC (e.upd 0 a)
def e0j(e:a7):Reg:=xA (wB (e 1)) fun a=>xA (wM [(.int .i64 0),(.int .i64 0),(.int .i64 0),(.slice none 0 0),(.int .i64 0),(.slice none 0 0)] [(0,1,(.int .i64 0))]) fun b=>xA (wD 15 [a,b]) fun c=>xC e
def d9O(e:a7):Reg:=xA (wB (e 1)) fun a=>xA (wM [(.int .i64 0),(.int .i64 0),(.int .u32 0),(.string ⟨#[]⟩),(.int .i64 0)] [(0,1,(.int .i64 1)),(2,1,(.int .u32 1)),(3,1,(.string ⟨#[97]⟩))]) fun b=>xA (wD 20 [b]) fun c=>xA (wM [(.int .i64 0),(.int .i64 0),(.int .i64 0),(.slice none 0 0),(.int .i64 0),(.slice none 0 0)] [(0,1,(.int .i64 2)),(1,1,(.int .i64 5)),(3,1,c)]) fun d=>xA (wD 15 [a,d]) fun f=>xA (wH 42 [(.int .i64 0),(.int .i64 0),(.slice none 0 0),(.slice none 0 0)]) fun g=>xA (wF 4 g f) fun _=>xC (e.upd 3 g)
def e0c(e:a7):Reg:=xA (wB (e 1)) fun a=>xA (wM [(.int .i64 0),(.int .i64 0),(.int .i64 0),(.slice none 0 0),(.int .i64 0),(.slice none 0 0)] [(0,1,(.int .i64 3)),(1,1,(.int .i64 5)),(4,1,(.int .i64 99))]) fun b=>xA (wD 15 [a,b]) fun c=>xA (wH 42 [(.int .i64 0),(.int .i64 0),(.slice none 0 0),(.slice none 0 0)]) fun d=>xA (wF 4 d c) fun _=>xC (e.upd 4 d)
def c5u(e:a7)(a b c d:Value):Reg:=xA (wF 12 d a) fun _=>xA (wB b) fun f=>xA (wB c) fun g=>xC (((e.upd 5 d).upd 6 f).upd 7 g)
def e0m(e:a7):Reg:=xA (wC 2 (e 4)) fun a=>xA (wA none a) fun b=>xA (wD 21 [b]) fun c=>xA (wB c) fun d=>xA (wG d 0) fun f=>xA (wG d 1) fun g=>xA (wG d 2) fun i=>xA (wH 66 [(.int .i64 0),(.int .i64 0),(.int .i64 0),(.int .i64 0),(.int .i64 0),(.int .i64 0),(.int .i64 0),(.int .i64 0),(.int .i64 0),(.int .i64 0),(.slice none 0 0),(.int .i64 0)]) fun j=>c5u e f g i j
def c5Z(e:a7)(a:Value):Reg:=xA (wB a) fun b=>xB b true (wC 2 (e 5)) fun c=>xB b true (wC 0 c) fun d=>xB b true (wA none d) fun f=>xB b true (wE .eql f (.int .i64 1)) fun g=>xA (wK b g (.bool false)) fun i=>xA (wB i) fun j=>xC (e.upd 0 j)
def c6P(e:a7)(a b:Value):Reg:=xA (wK a b (.bool false)) fun c=>xA (wB c) fun d=>xB d true (wB (e 7)) fun f=>xA (wK d f (.bool false)) fun g=>xA (wB g) fun i=>xB i true (wB (e 6)) fun j=>xB i true (wE .eql j (.int .i64 22)) fun k=>xA (wK i k (.bool false)) fun m=>c5Z e m
def d9K(e:a7):Reg:=xA (wC 1 (e 3)) fun a=>xA (wA none a) fun b=>xA (wE .eql b (.int .i64 12)) fun c=>xA (wB c) fun d=>xB d true (wC 3 (e 3)) fun f=>xB d true (wA none f) fun g=>xB d true (wL g) fun i=>xB d true (wE .eql i (.int .i64 1)) fun j=>c6P e d j
def c11:CFn:=⟨(.seq (.region e0z) (.seq (.region e1p) (.seq (.seq (.region d9M) (.cond (fun e=>e 20) (.seq (.region e0t) .ret) .skip)) (.seq (.region e0j) (.seq (.region d9O) (.seq (.region e0c) (.seq (.region e0m) (.seq (.region d9K) .ret)))))))),[.t 0]⟩
def p11:Pers:=⟨8,[20],61,[]⟩
def d4e(e:a7):Reg:=xA (wB (.bool false)) fun a=>xC (e.upd 2 a)
def c7S(e:a7):Reg:=xA (wB (e 0)) fun a=>xA (wL a) fun b=>xA (wE .gtr b (.int .i64 150)) fun c=>xC (e.upd 7 c)
def d2U(e:a7):Reg:=xA (wB (.bool false)) fun a=>xC (e.upd 2 a)
def d3T(e:a7):Reg:=xA (wB (e 0)) fun a=>xA (wL a) fun b=>xA (wB (.int .i64 0)) fun c=>xC (((e.upd 8 a).upd 9 b).upd 10 c)
def d2w(e:a7):Reg:=xA (wE .lss (e 10) (e 9)) fun a=>xC (e.upd 11 a)
def c8U(e:a7):Reg:=xA (wI 4 (e 8) (e 10)) fun a=>xA (wA (some 4) a) fun b=>xA (wH 48 [(.int .i64 0),(.int .i64 0),(.string ⟨#[]⟩),(.bool false)]) fun c=>xA (wF 4 c b) fun _=>xC (e.upd 4 c)
def d7B(e:a7):Reg:=xA (wC 2 (e 4)) fun a=>xA (wA none a) fun b=>xA (.lenStr b) fun c=>xA (wE .gtr c (.int .i64 64)) fun d=>xC (e.upd 17 d)
def c8q(e:a7):Reg:=xA (wB (.bool false)) fun a=>xC (e.upd 2 a)
def d6t(e:a7):Reg:=xA (wE .add (e 10) (.int .i64 1)) fun a=>xA (wB a) fun b=>xC (e.upd 10 b)
def a4C:CC:=(.seq (.region d2w) (.seq (.cond (fun e=>e 11) .skip (.exit 0)) (.seq (.block 1 (.seq (.region c8U) (.seq (.region d7B) (.cond (fun e=>e 17) (.seq (.region c8q) .ret) .skip)))) (.region d6t))))
def d5c(e:a7):Reg:=xA (wB (.bool true)) fun a=>xC (e.upd 2 a)
def R12:=an (ro d4e.eq_1)<|an (ro c7S.eq_1)<|an (ro d2U.eq_1)<|an (ro d3T.eq_1)<|an (ro d2w.eq_1)<|an (ro c8U.eq_1)<|an (ro d7B.eq_1)<|an (ro c8q.eq_1)<|an (ro d6t.eq_1)<|ro d5c.eq_1
def c12:CFn:=⟨(.seq (.region d4e) (.seq (.seq (.region c7S) (.cond (fun e=>e 7) (.seq (.region d2U) .ret) .skip)) (.seq (.seq (.region d3T) (.block 0 (.loop a4C))) (.seq (.region d5c) .ret)))),[.t 2]⟩
def p12:Pers:=⟨5,[7,8,9,10,11,17],19,[]⟩
def d5z(e:a7):Reg:=xA (wH 30 [(.int .i64 0),(.int .i64 0),(.int .i64 0),(.slice none 0 0)]) fun a=>xC (e.upd 4 a)
def d4n(e:a7):Reg:=xA (wB (e 1)) fun a=>xA (wE .and a (.int .i64 255)) fun b=>xA (wE .add (.int .i64 660) b) fun c=>xA (wM [(.int .i64 0),(.int .i64 0),(.int .i64 0),(.slice none 0 0)] [(0,1,(.int .i64 4294967296)),(1,1,(.int .i64 3)),(2,1,c)]) fun d=>xA (wH 30 [(.int .i64 0),(.int .i64 0),(.int .i64 0),(.slice none 0 0)]) fun f=>xA (wF 4 f d) fun _=>xC (e.upd 5 f)
def c8W(e:a7):Reg:=xA (wB (e 0)) fun a=>xA (wL a) fun b=>xA (wB (.int .i64 0)) fun c=>xC (((e.upd 12 a).upd 13 b).upd 14 c)
def d0G(e:a7):Reg:=xA (wE .lss (e 14) (e 13)) fun a=>xC (e.upd 15 a)
def c8G(e:a7):Reg:=xA (wB (e 14)) fun a=>xA (wI 9 (e 12) (e 14)) fun b=>xA (wA (some 9) b) fun c=>xA (wH 23 [(.int .i64 0),(.int .i64 0),(.int .i64 0),(.int .i64 0),(.int .i64 0),(.int .i64 0),(.int .i64 0),(.int .i64 0),(.bool false)]) fun d=>xA (wB a) fun f=>xA (wF 9 d c) fun _=>xC ((e.upd 7 d).upd 6 f)
def c9A(e:a7):Reg:=xA (wB (e 6)) fun a=>xA (wE .lss a (.int .i64 3)) fun b=>xC (e.upd 20 b)
def a7C(e:a7)(a b:Value):Reg:=xA (.append 34 9 72 a b) fun c=>xA (wC 3 (e 5)) fun d=>xD fun h7=>xA (wF 1 d c) fun _=>xC e
def d4b(e:a7):Reg:=xA (wC 3 (e 5)) fun a=>xA (wA none a) fun b=>xA (wA (some 9) (e 7)) fun c=>xD fun h3=>xA (wD 30 [c]) fun d=>xE none none (wA none a) b<|xA (.buildSlice 34 1 [(.int .i64 0),(.int .i64 0),(.int .i64 0),(.int .i64 0),(.int .i64 0),(.int .i64 0),(.int .i64 0),(.int .i64 0),(.bool false)] [(0,9,d)]) fun f=>xD fun h5=>a7C e b f
def c8C(e:a7):Reg:=xA (wE .add (e 14) (.int .i64 1)) fun a=>xA (wB a) fun b=>xC (e.upd 14 b)
def a2T:CC:=(.seq (.region d0G) (.seq (.cond (fun e=>e 15) .skip (.exit 0)) (.seq (.block 1 (.seq (.region c8G) (.seq (.region c9A) (.cond (fun e=>e 20) (.region d4b) .skip)))) (.region c8C))))
def d2Y(e:a7):Reg:=xA (wC 3 (e 5)) fun a=>xA (wA none a) fun b=>xA (wL b) fun c=>xA (wE .eql c (.int .i64 0)) fun d=>xC (e.upd 32 d)
def a8R(e:a7)(a b:Value):Reg:=xA (.append 34 9 72 a b) fun c=>xA (wC 3 (e 5)) fun d=>xD fun h7=>xA (wF 1 d c) fun _=>xC e
def c7U(e:a7):Reg:=xA (wC 3 (e 5)) fun a=>xA (wA none a) fun b=>xA (wM [(.int .i64 0),(.int .i64 0),(.int .i64 0),(.int .i64 0),(.int .i64 0),(.int .i64 0),(.int .i64 0),(.int .i64 0),(.bool false)] []) fun c=>xD fun h3=>xA (wD 30 [c]) fun d=>xE none none (wA none a) b<|xA (.buildSlice 34 1 [(.int .i64 0),(.int .i64 0),(.int .i64 0),(.int .i64 0),(.int .i64 0),(.int .i64 0),(.int .i64 0),(.int .i64 0),(.bool false)] [(0,9,d)]) fun f=>xD fun h5=>a8R e b f
def b8k(e:a7):Reg:=xA (wA (some 4) (e 5)) fun a=>xA (wF 4 (e 4) a) fun _=>xC e
def R13:=an (ro d5z.eq_1)<|an (ro d4n.eq_1)<|an (ro c8W.eq_1)<|an (ro d0G.eq_1)<|an (ro c8G.eq_1)<|an (ro c9A.eq_1)<|an (N8 a7C.eq_1)<|an (ro d4b.eq_1)<|an (ro c8C.eq_1)<|an (ro d2Y.eq_1)<|an (N8 a8R.eq_1)<|an (ro c7U.eq_1)<|ro b8k.eq_1
def c13:CFn:=⟨(.seq (.region d5z) (.seq (.region d4n) (.seq (.seq (.region c8W) (.block 0 (.loop a2T))) (.seq (.seq (.region d2Y) (.cond (fun e=>e 32) (.region c7U) .skip)) (.seq (.region b8k) .ret))))),[.c 4 (some 4)]⟩
def p13:Pers:=⟨8,[12,13,14,15,20,32],41,[]⟩
def d0Z(e:a7):Reg:=xA (wN 30 (e 0)) fun a=>xA (wB (.pointer none)) fun b=>xA (wB (.int .i64 0)) fun c=>xC (((e.upd 2 a).upd 4 b).upd 5 c)
def c9p(e:a7):Reg:=xA (wA (some 4) (e 2)) fun a=>xA (wD 31 [a]) fun b=>xA (wP .not b) fun c=>xC (e.upd 9 c)
def c7H(e:a7):Reg:=xA (wB (.pointer none)) fun a=>xA (wB (.int .i64 1)) fun b=>xC ((e.upd 4 a).upd 5 b)
def d1U(e:a7):Reg:=xA (wA (some 4) (e 2)) fun a=>xA (wM [(.int .i64 0),(.int .i64 0),(.bool false),(.bool false),(.int .i64 0),(.int .i64 0),(.int .i64 0),(.slice none 0 0),(.slice none 0 0),(.slice none 0 0),(.slice none 0 0)] [(4,4,a)]) fun b=>xA (wN 93 b) fun c=>xA (wB c) fun d=>xC (e.upd 6 d)
def c7G(e:a7):Reg:=xA (wB (e 6)) fun a=>xA (wC 3 (e 2)) fun b=>xA (wA none b) fun c=>xA (.append 34 9 72 (.slice none 0 0) c) fun d=>xA (wJ a) fun f=>xA (wC 4 f) fun g=>xA (wC 3 g) fun i=>xA (wF 1 i d) fun _=>xC e
def d4P(e:a7):Reg:=xA (wB (e 6)) fun a=>xA (wB (e 1)) fun b=>xA (wD 32 [a,b]) fun c=>xC e
def d3V(e:a7):Reg:=xA (wB (e 6)) fun a=>xA (wB a) fun b=>xA (wB (.int .i64 0)) fun c=>xC ((e.upd 4 b).upd 5 c)
def R14:=an (ro d0Z.eq_1)<|an (ro c9p.eq_1)<|an (ro c7H.eq_1)<|an (ro d1U.eq_1)<|an (ro c7G.eq_1)<|an (ro d4P.eq_1)<|ro d3V.eq_1
def c14:CFn:=⟨(.seq (.region d0Z) (.seq (.seq (.region c9p) (.cond (fun e=>e 9) (.seq (.region c7H) .ret) .skip)) (.seq (.region d1U) (.seq (.region c7G) (.seq (.region d4P) (.seq (.region d3V) .ret)))))),[.t 4,.t 5]⟩
def p14:Pers:=⟨7,[9],24,[]⟩
def d1B(e:a7):Reg:=xA (wN 35 (e 0)) fun a=>xA (wN 45 (e 1)) fun b=>xA (wH 42 [(.int .i64 0),(.int .i64 0),(.slice none 0 0),(.slice none 0 0)]) fun c=>xC (((e.upd 2 a).upd 3 b).upd 4 c)
def d6b(e:a7):Reg:=xA (wA none (e 2)) fun a=>xA (.eqK .ptr false a (.pointer none)) fun b=>xC (e.upd 9 b)
def c7B(e:a7):Reg:=xA (wM [(.int .i64 0),(.int .i64 0),(.slice none 0 0),(.slice none 0 0)] [(0,1,(.int .i64 1))]) fun a=>xA (wF 4 (e 4) a) fun _=>xC e
def c8Q(e:a7):Reg:=xA (wC 0 (e 3)) fun a=>xA (wA none a) fun b=>xA (wE .eql b (.int .i64 4)) fun c=>xC (e.upd 13 c)
def c8o(e:a7):Reg:=xA (wA none (e 2)) fun a=>xA (wJ a) fun b=>xA (wC 0 b) fun c=>xA (wD 33 [c]) fun d=>xC e
def d3O(e:a7):Reg:=xA (wA none (e 2)) fun a=>xA (wJ a) fun b=>xA (wC 0 b) fun c=>xA (wC 1 (e 3)) fun d=>xA (wA none d) fun f=>xD fun h5=>xA (wD 34 [c,f]) fun g=>xC e
def d1k(e:a7):Reg:=xA (wA none (e 2)) fun a=>xA (wC 5 (e 3)) fun b=>xA (wA none b) fun c=>xA (wD 32 [a,c]) fun d=>xC e
def d1Y(e:a7):Reg:=xA (wM [(.int .i64 0),(.int .i64 0),(.slice none 0 0),(.slice none 0 0)] []) fun a=>xA (wF 4 (e 4) a) fun _=>xC e
def c9k(e:a7):Reg:=xA (wA none (e 2)) fun a=>xA (wJ a) fun b=>xA (wC 0 b) fun c=>xA (wC 1 (e 3)) fun d=>xA (wA none d) fun f=>xD fun h5=>xA (wD 34 [c,f]) fun g=>xC e
def a9K(e:a7)(a b:Value):Reg:=xB a false (wA none (e 2)) fun c=>xB a false (wJ c) fun d=>xB a false (wC 8 d) fun f=>xB a false (wA none f) fun g=>xB a false (wL g) fun i=>xB a false (wE .geq b i) fun j=>xA (wK a (.bool true) j) fun k=>xC (e.upd 57 k)
def a8M(e:a7)(a:Value):Reg:=xA (wB a) fun b=>xB b false (wC 2 (e 3)) fun c=>xB b false (wA none c) fun d=>xB b false (wE .lss d (.int .i64 0)) fun f=>xA (wK b (.bool true) f) fun g=>xA (wB g) fun i=>xB i false (wC 2 (e 3)) fun j=>xB i false (wA none j) fun k=>a9K e i k
def d5F(e:a7):Reg:=xA (wC 0 (e 3)) fun a=>xA (wA none a) fun b=>xA (wE .lss b (.int .i64 0)) fun c=>xA (wB c) fun d=>xB d false (wC 0 (e 3)) fun f=>xB d false (wA none f) fun g=>xB d false (wE .gtr g (.int .i64 4)) fun i=>xA (wK d (.bool true) i) fun j=>a8M e j
def c2V(e:a7):Reg:=xA (wM [(.int .i64 0),(.int .i64 0),(.slice none 0 0),(.slice none 0 0)] [(0,1,(.int .i64 1))]) fun a=>xA (wF 4 (e 4) a) fun _=>xC e
def a6A(e:a7)(a:Value):Reg:=xA (wM [(.int .i64 0),(.int .i64 0),(.slice none 0 0),(.slice none 0 0)] []) fun b=>xA (wH 42 [(.int .i64 0),(.int .i64 0),(.slice none 0 0),(.slice none 0 0)]) fun c=>xA (wB a) fun d=>xD fun h11=>xA (wF 4 c b) fun _=>xC ((e.upd 6 c).upd 5 d)
def b8p(e:a7):Reg:=xA (wA none (e 2)) fun a=>xA (wJ a) fun b=>xA (wC 8 b) fun c=>xA (wA none c) fun d=>xA (wC 2 (e 3)) fun f=>xA (wA none f) fun g=>xA (wI 1 d g) fun i=>xA (wA none i) fun j=>a6A e j
def b6J(e:a7):Reg:=xA (wB (.bool true)) fun a=>xC (e.upd 7 a)
def b7J(e:a7):Reg:=xA (wC 0 (e 3)) fun a=>xA (wA none a) fun b=>xC (e.upd 70 b)
def b8g(e:a7):Reg:=xA (wE .eql (e 70) (.int .i64 0)) fun a=>xA (wB a) fun b=>xC (e.upd 79 b)
def c1a(e:a7):Reg:=xA (wB (e 5)) fun a=>xA (wD 36 [a]) fun b=>xA (wB b) fun c=>xC (e.upd 7 c)
def c1x(e:a7):Reg:=xA (wE .eql (e 70) (.int .i64 1)) fun a=>xA (wB a) fun b=>xC (e.upd 83 b)
def c0E(e:a7):Reg:=xA (wB (e 5)) fun a=>xA (wD 37 [a]) fun b=>xA (wB b) fun c=>xC (e.upd 7 c)
def c3Q(e:a7):Reg:=xA (wE .eql (e 70) (.int .i64 2)) fun a=>xA (wB a) fun b=>xC (e.upd 87 b)
def b7W(e:a7):Reg:=xA (wB (e 5)) fun a=>xA (wD 38 [a]) fun b=>xA (wB b) fun c=>xC (e.upd 7 c)
def c1d(e:a7):Reg:=xA (wB (e 7)) fun a=>xC (e.upd 91 a)
def b7P(e:a7):Reg:=xA (wB (e 5)) fun a=>xA (wC 3 (e 3)) fun b=>xA (wA none b) fun c=>xA (wA none (e 2)) fun d=>xA (wB (.iface 35 d)) fun f=>xA (wD 39 [a,c,f]) fun g=>xA (wC 1 (e 6)) fun i=>xA (wF 1 i g) fun _=>xC e
def b8C(e:a7):Reg:=xA (wB (e 5)) fun a=>xA (wD 38 [a]) fun b=>xA (wB b) fun c=>xC (e.upd 7 c)
def c3N(e:a7):Reg:=xA (wB (e 7)) fun a=>xC (e.upd 73 a)
def c3O(e:a7):Reg:=xA (wB (e 5)) fun a=>xA (wC 4 (e 3)) fun b=>xA (wA none b) fun c=>xA (wD 40 [a,c]) fun d=>xA (wC 2 (e 6)) fun f=>xA (wF 1 f d) fun _=>xC e
def b8b(e:a7):Reg:=xA (wB (e 7)) fun a=>xA (wP .not a) fun b=>xC (e.upd 100 b)
def b6P(e:a7):Reg:=xA (wM [(.int .i64 0),(.int .i64 0),(.slice none 0 0),(.slice none 0 0)] [(0,1,(.int .i64 11))]) fun a=>xA (wF 4 (e 4) a) fun _=>xC e
def b9Y(e:a7):Reg:=xA (wA none (e 2)) fun a=>xA (wJ a) fun b=>xA (wC 10 b) fun c=>xA (wA none c) fun d=>xA (wC 3 (e 6)) fun f=>xA (wF 1 f d) fun _=>xC e
def c0y(e:a7):Reg:=xA (wA (some 4) (e 6)) fun a=>xA (wF 4 (e 4) a) fun _=>xC e
def R15:=an (ro d1B.eq_1)<|an (ro d6b.eq_1)<|an (ro c7B.eq_1)<|an (ro c8Q.eq_1)<|an (ro c8o.eq_1)<|an (ro d3O.eq_1)<|an (ro d1k.eq_1)<|an (ro d1Y.eq_1)<|an (ro c9k.eq_1)<|an (N8 a9K.eq_1)<|an (ro1 a8M.eq_1)<|an (ro d5F.eq_1)<|an (ro c2V.eq_1)<|an (ro1 a6A.eq_1)<|an (ro b8p.eq_1)<|an (ro b6J.eq_1)<|an (ro b7J.eq_1)<|an (ro b8g.eq_1)<|an (ro c1a.eq_1)<|an (ro c1x.eq_1)<|an (ro c0E.eq_1)<|an (ro c3Q.eq_1)<|an (ro b7W.eq_1)<|an (ro c1d.eq_1)<|an (ro b7P.eq_1)<|an (ro b8C.eq_1)<|an (ro c3N.eq_1)<|an (ro c3O.eq_1)<|an (ro b8b.eq_1)<|an (ro b6P.eq_1)<|an (ro b9Y.eq_1)<|ro c0y.eq_1
def c15:CFn:=⟨(.dfr (.seq (.region d1B) (.seq (.seq (.region d6b) (.cond (fun e=>e 9) (.seq (.region c7B) .ret) .skip)) (.seq (.seq (.region c8Q) (.cond (fun e=>e 13) (.seq (.region c8o) (.seq (.region d3O) (.seq (.region d1k) (.seq (.region d1Y) .ret)))) .skip)) (.seq (.region c9k) (.seq (.seq (.region d5F) (.cond (fun e=>e 57) (.seq (.region c2V) .ret) .skip)) .skip))))) 35 (fun e=>[(e 2)]) (.seq (.region b8p) (.seq (.region b6J) (.seq (.seq (.region b7J) (.block 0 (.seq (.region b8g) (.cond (fun e=>e 79) (.region c1a) (.seq (.region c1x) (.cond (fun e=>e 83) (.region c0E) (.seq (.region c3Q) (.cond (fun e=>e 87) (.seq (.region b7W) (.seq (.region c1d) (.cond (fun e=>e 91) (.region b7P) .skip))) (.seq (.region b8C) (.seq (.region c3N) (.cond (fun e=>e 73) (.region c3O) .skip))))))))))) (.seq (.seq (.region b8b) (.cond (fun e=>e 100) (.seq (.region b6P) .ret) .skip)) (.seq (.region b9Y) (.seq (.region c0y) .ret))))))),[.c 4 (some 4)]⟩
def p15:Pers:=⟨8,[9,13,57,70,73,79,83,87,91,100],108,[]⟩
def d4M(e:a7):Reg:=xA (wB (.int .i64 0)) fun a=>xC (e.upd 2 a)
def d2S(e:a7):Reg:=xA (wB (e 0)) fun a=>xA (wE .and a (.int .i64 1)) fun b=>xA (wE .eql b (.int .i64 1)) fun c=>xC (e.upd 5 c)
def d0M(e:a7):Reg:=xA (wB (e 0)) fun a=>xA (wE .shr a (.int .u64 1)) fun b=>xA (wE .and b (.int .i64 1023)) fun c=>xA (wB c) fun d=>xC (e.upd 2 d)
def d6p(e:a7):Reg:=xA (wB (e 0)) fun a=>xA (wE .shr a (.int .u64 1)) fun b=>xA (wE .and b (.int .i64 15)) fun c=>xA (wB c) fun d=>xC (e.upd 2 d)
def R16:=an (ro d4M.eq_1)<|an (ro d2S.eq_1)<|an (ro d0M.eq_1)<|ro d6p.eq_1
def c16:CFn:=⟨(.seq (.region d4M) (.seq (.seq (.region d2S) (.cond (fun e=>e 5) (.seq (.region d0M) .ret) .skip)) (.seq (.region d6p) .ret))),[.t 2]⟩
def p16:Pers:=⟨3,[5],12,[]⟩
def c9D(e:a7):Reg:=xA (wN 61 (e 0)) fun a=>xA (wB (.slice none 0 0)) fun b=>xC ((e.upd 1 a).upd 2 b)
def d4g(e:a7):Reg:=xA (wC 0 (e 1)) fun a=>xA (wA none a) fun b=>xA (wO .u8 b) fun c=>xA (wC 1 (e 1)) fun d=>xA (wA none d) fun f=>xA (wO .u8 f) fun g=>xA (.buildSlice 5 2 [(.int .u8 0)] [(0,1,c),(1,1,g)]) fun i=>xA (wB i) fun j=>xC (e.upd 3 j)
def c9E(e:a7):Reg:=xA (wC 0 (e 1)) fun a=>xA (wA none a) fun b=>xC (e.upd 12 b)
def d5D(e:a7):Reg:=xA (wE .eql (e 12) (.int .i64 1)) fun a=>xA (wB a) fun b=>xC (e.upd 13 b)
def d5j(e:a7):Reg:=xA (wE .eql (e 12) (.int .i64 2)) fun a=>xA (wB a) fun b=>xC (e.upd 15 b)
def c8h(e:a7):Reg:=xA (wE .eql (e 12) (.int .i64 4)) fun a=>xA (wB a) fun b=>xC (e.upd 17 b)
def a9h(e:a7)(h4:Heap)(a b c:Value):Reg:=xE none (some h4) (wA none b) c<|xA (.lenStr c) fun d=>xA (wO .u8 d) fun f=>xA (.buildSlice 5 1 [(.int .u8 0)] [(0,1,f)]) fun g=>xD fun h10=>xA (.append 5 1 1 a g) fun i=>xA (wB i) fun j=>xC (e.upd 3 j)
def c8w(e:a7):Reg:=xA (wB (e 3)) fun a=>xA (wC 2 (e 1)) fun b=>xA (wA none b) fun c=>xA (wO .u64 c) fun d=>xD fun h4=>xA (wD 44 [a,(.int .i64 4),d]) fun f=>xA (wC 3 (e 1)) fun g=>xA (wA none g) fun i=>a9h e h4 f g i
def c9W(e:a7):Reg:=xA (wB (e 3)) fun a=>xA (wC 3 (e 1)) fun b=>xA (wA none b) fun c=>xA (.append 5 1 1 a c) fun d=>xA (wB d) fun f=>xC (e.upd 3 f)
def d6l(e:a7):Reg:=xA (wB (e 3)) fun a=>xA (wC 4 (e 1)) fun b=>xA (wA none b) fun c=>xA (wO .u8 c) fun d=>xA (.buildSlice 5 1 [(.int .u8 0)] [(0,1,d)]) fun f=>xA (.append 5 1 1 a f) fun g=>xA (wB g) fun i=>xC (e.upd 3 i)
def d2n(e:a7):Reg:=xA (wB (e 3)) fun a=>xA (wD 45 [(.int .u8 167),a]) fun b=>xA (wB b) fun c=>xC (e.upd 2 c)
def R20:=an (ro c9D.eq_1)<|an (ro d4g.eq_1)<|an (ro c9E.eq_1)<|an (ro d5D.eq_1)<|an (ro d5j.eq_1)<|an (ro c8h.eq_1)<|an (ro4 a9h.eq_1)<|an (ro c8w.eq_1)<|an (ro c9W.eq_1)<|an (ro d6l.eq_1)<|ro d2n.eq_1
def c20:CFn:=⟨(.seq (.region c9D) (.seq (.region d4g) (.seq (.seq (.region c9E) (.block 0 (.seq (.block 3 (.seq (.block 2 (.block 1 (.seq (.seq (.seq (.region d5D) (.cond (fun e=>e 13) (.exit 1) .skip)) (.seq (.seq (.region d5j) (.cond (fun e=>e 15) (.exit 2) .skip)) (.seq (.region c8h) (.cond (fun e=>e 17) (.exit 3) .skip)))) (.exit 0)))) (.seq (.seq (.region c8w) (.region c9W)) (.exit 0)))) (.seq (.region d6l) (.exit 0))))) (.seq (.region d2n) .ret)))),[.t 2]⟩
def p20:Pers:=⟨4,[12,13,15,17],42,[]⟩
def e0B(e:a7):Reg:=xA (wH 66 [(.int .i64 0),(.int .i64 0),(.int .i64 0),(.int .i64 0),(.int .i64 0),(.int .i64 0),(.int .i64 0),(.int .i64 0),(.int .i64 0),(.int .i64 0),(.slice none 0 0),(.int .i64 0)]) fun a=>xA (wB (.int .i64 0)) fun b=>xA (wB (.bool false)) fun c=>xC (((e.upd 2 a).upd 3 b).upd 4 c)
def c5i(e:a7)(a b:Value):Reg:=xA (wK a (.bool true) b) fun c=>xA (wB c) fun d=>xB d false (wB (e 0)) fun f=>xB d false (wI 1 f (.int .i64 1)) fun g=>xB d false (wA none g) fun i=>xB d false (wE .neq i (.int .u8 1)) fun j=>xA (wK d (.bool true) j) fun k=>xC (e.upd 21 k)
def e0S(e:a7):Reg:=xA (wB (e 0)) fun a=>xA (wL a) fun b=>xA (wE .lss b (.int .i64 6)) fun c=>xA (wB c) fun d=>xB d false (wB (e 0)) fun f=>xB d false (wI 1 f (.int .i64 0)) fun g=>xB d false (wA none g) fun i=>xB d false (wE .neq i (.int .u8 168)) fun j=>c5i e d j
def e0L(e:a7):Reg:=xA (wM [(.int .i64 0),(.int .i64 0),(.int .i64 0),(.int .i64 0),(.int .i64 0),(.int .i64 0),(.int .i64 0),(.int .i64 0),(.int .i64 0),(.int .i64 0),(.slice none 0 0),(.int .i64 0)] []) fun a=>xA (wF 12 (e 2) a) fun _=>xA (wB (.int .i64 0)) fun b=>xA (wB (.bool false)) fun c=>xC ((e.upd 3 b).upd 4 c)
def e1o(e:a7):Reg:=xA (wB (e 0)) fun a=>xA (.slice 5 1 a (some (.int .i64 2)) (some (.int .i64 4))) fun b=>xA (wD 46 [b]) fun c=>xA (wO .i64 c) fun d=>xA (wE .add (.int .i64 4) d) fun f=>xA (wB f) fun g=>xC (e.upd 5 g)
def c6h(e:a7)(a:Value):Reg:=xA (wB a) fun b=>xB b false (wB (e 0)) fun c=>xB b false (wI 1 c (.int .i64 4)) fun d=>xB b false (wA none d) fun f=>xB b false (wE .lss f (.int .u8 128)) fun g=>xA (wK b (.bool true) g) fun i=>xC (e.upd 41 i)
def e0b(e:a7):Reg:=xA (wB (e 5)) fun a=>xA (wE .lss a (.int .i64 6)) fun b=>xA (wB b) fun c=>xB c false (wB (e 0)) fun d=>xB c false (wL d) fun f=>xB c false (wB (e 5)) fun g=>xB c false (wE .lss f g) fun i=>xA (wK c (.bool true) i) fun j=>c6h e j
def d9J(e:a7):Reg:=xA (wM [(.int .i64 0),(.int .i64 0),(.int .i64 0),(.int .i64 0),(.int .i64 0),(.int .i64 0),(.int .i64 0),(.int .i64 0),(.int .i64 0),(.int .i64 0),(.slice none 0 0),(.int .i64 0)] []) fun a=>xA (wF 12 (e 2) a) fun _=>xA (wB (.int .i64 0)) fun b=>xA (wB (.bool false)) fun c=>xC ((e.upd 3 b).upd 4 c)
def e0s(e:a7):Reg:=xA (wB (e 0)) fun a=>xA (wI 1 a (.int .i64 4)) fun b=>xA (wA none b) fun c=>xA (wE .and c (.int .u8 127)) fun d=>xA (wO .i64 d) fun f=>xA (wM [(.int .i64 0),(.int .i64 0),(.int .i64 0),(.int .i64 0),(.int .i64 0),(.int .i64 0),(.int .i64 0),(.int .i64 0),(.int .i64 0),(.int .i64 0),(.slice none 0 0),(.int .i64 0)] [(0,1,f)]) fun g=>xA (wH 66 [(.int .i64 0),(.int .i64 0),(.int .i64 0),(.int .i64 0),(.int .i64 0),(.int .i64 0),(.int .i64 0),(.int .i64 0),(.int .i64 0),(.int .i64 0),(.slice none 0 0),(.int .i64 0)]) fun i=>xA (wF 12 i g) fun _=>xC (e.upd 6 i)
def e1l(e:a7):Reg:=xA (wB (e 0)) fun a=>xA (wB (e 5)) fun b=>xA (.slice 5 1 a (some (.int .i64 5)) (some b)) fun c=>xA (wD 47 [(e 6),c]) fun d=>xA (wP .not d) fun f=>xC (e.upd 53 f)
def d9X(e:a7):Reg:=xA (wM [(.int .i64 0),(.int .i64 0),(.int .i64 0),(.int .i64 0),(.int .i64 0),(.int .i64 0),(.int .i64 0),(.int .i64 0),(.int .i64 0),(.int .i64 0),(.slice none 0 0),(.int .i64 0)] []) fun a=>xA (wF 12 (e 2) a) fun _=>xA (wB (.int .i64 0)) fun b=>xA (wB (.bool false)) fun c=>xC ((e.upd 3 b).upd 4 c)
def e0O(e:a7):Reg:=xA (wA (some 12) (e 6)) fun a=>xA (wB (e 5)) fun b=>xA (wF 12 (e 2) a) fun _=>xA (wB b) fun c=>xA (wB (.bool true)) fun d=>xC ((e.upd 3 c).upd 4 d)
def c21:CFn:=⟨(.seq (.region e0B) (.seq (.seq (.region e0S) (.cond (fun e=>e 21) (.seq (.region e0L) .ret) .skip)) (.seq (.region e1o) (.seq (.seq (.region e0b) (.cond (fun e=>e 41) (.seq (.region d9J) .ret) .skip)) (.seq (.region e0s) (.seq (.seq (.region e1l) (.cond (fun e=>e 53) (.seq (.region d9X) .ret) .skip)) (.seq (.region e0O) .ret))))))),[.c 2 (some 12),.t 3,.t 4]⟩
def p21:Pers:=⟨7,[21,41,53],57,[]⟩
def c7y(e:a7):Reg:=xA (wN 42 (e 0)) fun a=>xA (wN 42 (e 1)) fun b=>xA (wB (.bool false)) fun c=>xC (((e.upd 2 a).upd 3 b).upd 4 c)
def a8S(e:a7)(a b:Value):Reg:=xB a false (wL b) fun c=>xB a false (wC 3 (e 3)) fun d=>xB a false (wA none d) fun f=>xB a false (wL f) fun g=>xB a false (wE .neq c g) fun i=>xA (wK a (.bool true) i) fun j=>xC (e.upd 35 j)
def a9c(e:a7)(a b:Value):Reg:=xB a false (wC 2 (e 3)) fun c=>xB a false (wA none c) fun d=>xB a false (.toStr d) fun f=>xB a false (wE .neq b f) fun g=>xA (wK a (.bool true) g) fun i=>xA (wB i) fun j=>xB j false (wC 3 (e 2)) fun k=>xB j false (wA none k) fun m=>a8S e j m
def a7z(e:a7)(a b:Value):Reg:=xB a false (wC 1 (e 3)) fun c=>xB a false (wA none c) fun d=>xB a false (wE .neq b d) fun f=>xA (wK a (.bool true) f) fun g=>xA (wB g) fun i=>xB i false (wC 2 (e 2)) fun j=>xB i false (wA none j) fun k=>xB i false (.toStr k) fun m=>a9c e i m
def d6Y(e:a7):Reg:=xA (wC 0 (e 2)) fun a=>xA (wA none a) fun b=>xA (wC 0 (e 3)) fun c=>xA (wA none c) fun d=>xA (wE .neq b d) fun f=>xA (wB f) fun g=>xB g false (wC 1 (e 2)) fun i=>xB g false (wA none i) fun j=>a7z e g j
def d4D(e:a7):Reg:=xA (wB (.bool false)) fun a=>xC (e.upd 4 a)
def d2t(e:a7):Reg:=xA (wC 3 (e 2)) fun a=>xA (wA none a) fun b=>xA (wL b) fun c=>xA (wB (.int .i64 0)) fun d=>xC ((e.upd 38 c).upd 39 d)
def c9b(e:a7):Reg:=xA (wE .lss (e 39) (e 38)) fun a=>xC (e.upd 40 a)
def d6V(e:a7):Reg:=xA (wB (e 39)) fun a=>xA (wB a) fun b=>xC (e.upd 5 b)
def a9s(e:a7)(a b c:Value):Reg:=xA (wI 4 b c) fun d=>xA (wA (some 4) d) fun f=>xA (.eqAgg true [.int,.str,.bool,.int] a f) fun g=>xC (e.upd 52 g)
def d0i(e:a7):Reg:=xA (wC 3 (e 2)) fun a=>xA (wA none a) fun b=>xA (wB (e 5)) fun c=>xA (wI 4 b c) fun d=>xA (wA (some 4) d) fun f=>xA (wC 3 (e 3)) fun g=>xA (wA none g) fun i=>xA (wB (e 5)) fun j=>a9s e f i j
def c7t(e:a7):Reg:=xA (wB (.bool false)) fun a=>xC (e.upd 4 a)
def c9R(e:a7):Reg:=xA (wE .add (e 39) (.int .i64 1)) fun a=>xA (wB a) fun b=>xC (e.upd 39 b)
def a9R:CC:=(.seq (.region c9b) (.seq (.cond (fun e=>e 40) .skip (.exit 0)) (.seq (.block 1 (.seq (.region d6V) (.seq (.region d0i) (.cond (fun e=>e 52) (.seq (.region c7t) .ret) .skip)))) (.region c9R))))
def c7N(e:a7):Reg:=xA (wB (.bool true)) fun a=>xC (e.upd 4 a)
def R25:=an (ro c7y.eq_1)<|an (N8 a8S.eq_1)<|an (N8 a9c.eq_1)<|an (N8 a7z.eq_1)<|an (ro d6Y.eq_1)<|an (ro d4D.eq_1)<|an (ro d2t.eq_1)<|an (ro c9b.eq_1)<|an (ro d6V.eq_1)<|an (S9 a9s.eq_1)<|an (ro d0i.eq_1)<|an (ro c7t.eq_1)<|an (ro c9R.eq_1)<|ro c7N.eq_1
def c25:CFn:=⟨(.seq (.region c7y) (.seq (.seq (.region d6Y) (.cond (fun e=>e 35) (.seq (.region d4D) .ret) .skip)) (.seq (.seq (.region d2t) (.block 0 (.loop a9R))) (.seq (.region c7N) .ret)))),[.t 4]⟩
def p25:Pers:=⟨6,[35,38,39,40,52],54,[]⟩
def d7l(e:a7):Reg:=xA (wB (.int .i64 0)) fun a=>xC (e.upd 2 a)
def c7W(e:a7):Reg:=xA (wB (e 0)) fun a=>xA (wJ a) fun b=>xA (wC 0 b) fun c=>xA (wA none c) fun d=>xA (wB d) fun f=>xC (e.upd 2 f)
def R26:=an (ro d7l.eq_1)<|ro c7W.eq_1
def c26:CFn:=⟨(.seq (.region d7l) (.seq (.region c7W) .ret)),[.t 2]⟩
def p26:Pers:=⟨3,[],7,[]⟩
def d3Z(e:a7):Reg:=xA (wB (.pointer none)) fun a=>xC (e.upd 4 a)
def a9F(e:a7)(a b:Value):Reg:=xB a false (wB (e 0)) fun c=>xB a false (wJ c) fun d=>xB a false (wC 9 d) fun f=>xB a false (wA none f) fun g=>xB a false (wL g) fun i=>xB a false (wE .geq b i) fun j=>xA (wK a (.bool true) j) fun k=>xC (e.upd 19 k)
def d2i(e:a7):Reg:=xA (wB (e 0)) fun a=>xA (.eqK .ptr false a (.pointer none)) fun b=>xA (wB b) fun c=>xB c false (wB (e 1)) fun d=>xB c false (wE .lss d (.int .i64 0)) fun f=>xA (wK c (.bool true) f) fun g=>xA (wB g) fun i=>xB i false (wB (e 1)) fun j=>a9F e i j
def c9h(e:a7):Reg:=xA (wB (.pointer none)) fun a=>xC (e.upd 4 a)
def d0f(e:a7):Reg:=xA (wB (e 0)) fun a=>xA (wJ a) fun b=>xA (wC 9 b) fun c=>xA (wA none c) fun d=>xA (wB (e 1)) fun f=>xA (wI 1 d f) fun g=>xA (wA none g) fun i=>xA (wB i) fun j=>xC (e.upd 4 j)
def R27:=an (ro d3Z.eq_1)<|an (N8 a9F.eq_1)<|an (ro d2i.eq_1)<|an (ro c9h.eq_1)<|ro d0f.eq_1
def c27:CFn:=⟨(.seq (.region d3Z) (.seq (.seq (.region d2i) (.cond (fun e=>e 19) (.seq (.region c9h) .ret) .skip)) (.seq (.region d0f) .ret))),[.t 4]⟩
def p27:Pers:=⟨5,[19],27,[]⟩
def c8L(e:a7):Reg:=xA (wH 63 [(.int .i64 0),(.int .i64 0),(.int .i64 0),(.int .i64 0),(.int .i64 0)]) fun a=>xC (e.upd 2 a)
def d2s(e:a7):Reg:=xA (wB (e 0)) fun a=>xA (wJ a) fun b=>xA (wC 16 b) fun c=>xA (wA (some 5) c) fun d=>xA (wH 63 [(.int .i64 0),(.int .i64 0),(.int .i64 0),(.int .i64 0),(.int .i64 0)]) fun f=>xA (wF 5 f d) fun _=>xC (e.upd 3 f)
def a9m(e:a7)(a:Value):Reg:=xA (wC 4 (e 3)) fun b=>xD fun h13=>xA (wF 1 b a) fun _=>xC e
def a8A(e:a7)(h4:Heap)(a b:Value):Reg:=xA (wC 15 b) fun c=>xA (wA none c) fun d=>xE none (some h4) (wA none c) d<|xD fun h9=>xA (wD 50 [d]) fun f=>xA (wC 3 (e 3)) fun g=>xD fun h11=>xA (wF 1 g a) fun _=>a9m e f
def d5Z(e:a7):Reg:=xA (wB (e 0)) fun a=>xA (wJ a) fun b=>xA (wC 13 b) fun c=>xA (wA none c) fun d=>xD fun h4=>xA (wD 49 [d]) fun f=>xA (wB (e 0)) fun g=>xA (wJ g) fun i=>a8A e h4 f i
def c9f(e:a7):Reg:=xA (wA (some 5) (e 3)) fun a=>xA (wF 5 (e 2) a) fun _=>xC e
def R28:=an (ro c8L.eq_1)<|an (ro d2s.eq_1)<|an (ro1 a9m.eq_1)<|an (S9 a8A.eq_1)<|an (ro d5Z.eq_1)<|ro c9f.eq_1
def c28:CFn:=⟨(.seq (.region c8L) (.seq (.region d2s) (.seq (.region d5Z) (.seq (.region c9f) .ret)))),[.c 2 (some 5)]⟩
def p28:Pers:=⟨4,[],21,[]⟩
def d7m(e:a7):Reg:=xA (wN 23 (e 0)) fun a=>xA (wH 34 [(.int .i64 0),(.int .i64 0),(.int .i64 0),(.int .i64 0),(.int .i64 0),(.int .i64 0),(.int .i64 0),(.int .i64 0),(.bool false)]) fun b=>xC ((e.upd 1 a).upd 2 b)
def d1a(e:a7):Reg:=xA (wC 0 (e 1)) fun a=>xA (wA none a) fun b=>xA (wE .and b (.int .i64 31)) fun c=>xA (wE .add c (.int .i64 1)) fun d=>xA (wB d) fun f=>xC (e.upd 3 f)
def d3P(e:a7):Reg:=xA (wC 3 (e 1)) fun a=>xA (wA none a) fun b=>xA (wE .and b (.int .i64 7)) fun c=>xA (wE .add c (.int .i64 1)) fun d=>xA (wB d) fun f=>xC (e.upd 4 f)
def a9z(e:a7)(a b c d f g i:Value):Reg:=xA (wE .and i (.int .i64 15)) fun j=>xA (wE .add j (.int .i64 1)) fun k=>xA (wC 7 (e 1)) fun m=>xA (wA none m) fun n=>xA (wE .and n (.int .i64 7)) fun o=>xA (wE .add o (.int .i64 1)) fun p=>xA (wM [(.int .i64 0),(.int .i64 0),(.int .i64 0),(.int .i64 0),(.int .i64 0),(.int .i64 0),(.int .i64 0),(.int .i64 0),(.bool false)] [(0,1,a),(1,1,b),(2,1,c),(3,1,d),(4,1,f),(5,1,g),(6,1,k),(7,1,p)]) fun q=>xA (wH 34 [(.int .i64 0),(.int .i64 0),(.int .i64 0),(.int .i64 0),(.int .i64 0),(.int .i64 0),(.int .i64 0),(.int .i64 0),(.bool false)]) fun r=>xD fun h32=>xA (wF 9 r q) fun _=>xC (e.upd 5 r)
def a8Z(e:a7)(a b c d f:Value):Reg:=xA (wE .and f (.int .i64 7)) fun g=>xA (wE .add g (.int .i64 1)) fun i=>xA (wC 5 (e 1)) fun j=>xA (wA none j) fun k=>xA (wE .and k (.int .i64 3)) fun m=>xA (wE .add m (.int .i64 1)) fun n=>xA (wC 6 (e 1)) fun o=>xA (wA none o) fun p=>a9z e a b c d i n p
def a7H(e:a7)(a b c:Value):Reg:=xA (wA none c) fun d=>xA (wE .and d (.int .i64 31)) fun f=>xA (wB (e 3)) fun g=>xA (wE .rem f g) fun i=>xA (wE .add i (.int .i64 1)) fun j=>xA (wB (e 4)) fun k=>xA (wC 4 (e 1)) fun m=>xA (wA none m) fun n=>a8Z e a b j k n
def d4l(e:a7):Reg:=xA (wB (e 3)) fun a=>xA (wC 1 (e 1)) fun b=>xA (wA none b) fun c=>xA (wE .and c (.int .i64 31)) fun d=>xA (wE .add d (.int .i64 1)) fun f=>xA (wB (e 4)) fun g=>xA (wE .mul f g) fun i=>xA (wC 2 (e 1)) fun j=>a7H e a i j
def d7C(e:a7):Reg:=xA (wC 8 (e 1)) fun a=>xA (wA none a) fun b=>xA (wB b) fun c=>xB c true (wB (e 4)) fun d=>xB c true (wE .gtr d (.int .i64 1)) fun f=>xA (wK c f (.bool false)) fun g=>xA (wC 8 (e 5)) fun i=>xA (wF 1 i g) fun _=>xC e
def d5d(e:a7):Reg:=xA (wA (some 9) (e 5)) fun a=>xA (wF 9 (e 2) a) fun _=>xC e
def R30:=an (ro d7m.eq_1)<|an (ro d1a.eq_1)<|an (ro d3P.eq_1)<|an (ro7 a9z.eq_1)<|an (ro5 a8Z.eq_1)<|an (S9 a7H.eq_1)<|an (ro d4l.eq_1)<|an (ro d7C.eq_1)<|ro d5d.eq_1
def c30:CFn:=⟨(.seq (.region d7m) (.seq (.region d1a) (.seq (.region d3P) (.seq (.region d4l) (.seq (.region d7C) (.seq (.region d5d) .ret)))))),[.c 2 (some 9)]⟩
def p30:Pers:=⟨6,[],53,[]⟩
def c7A(e:a7):Reg:=xA (wN 30 (e 0)) fun a=>xA (wB (.bool false)) fun b=>xC ((e.upd 1 a).upd 2 b)
def a9y(e:a7)(a b:Value):Reg:=xA (wK a (.bool true) b) fun c=>xA (wB c) fun d=>xB d false (wC 2 (e 1)) fun f=>xB d false (wA none f) fun g=>xB d false (wE .gtr g (.int .i64 65536)) fun i=>xA (wK d (.bool true) i) fun j=>xC (e.upd 26 j)
def a8i(e:a7)(a b:Value):Reg:=xB a false (wD 54 [b,(.int .i64 8)]) fun c=>xB a false (wP .not c) fun d=>xA (wK a (.bool true) d) fun f=>xA (wB f) fun g=>xB g false (wC 0 (e 1)) fun i=>xB g false (wA none i) fun j=>xB g false (wD 54 [j,(.int .i64 4294967296)]) fun k=>xB g false (wP .not k) fun m=>a9y e g m
def d0K(e:a7):Reg:=xA (wC 1 (e 1)) fun a=>xA (wA none a) fun b=>xA (wD 54 [b,(.int .i64 16)]) fun c=>xA (wP .not c) fun d=>xA (wB d) fun f=>xB f false (wC 3 (e 1)) fun g=>xB f false (wA none g) fun i=>xB f false (wL i) fun j=>a8i e f j
def d3m(e:a7):Reg:=xA (wB (.bool false)) fun a=>xC (e.upd 2 a)
def d3D(e:a7):Reg:=xA (wC 3 (e 1)) fun a=>xA (wA none a) fun b=>xA (wL b) fun c=>xA (wB (.int .i64 0)) fun d=>xC (((e.upd 28 b).upd 29 c).upd 30 d)
def d5q(e:a7):Reg:=xA (wE .lss (e 30) (e 29)) fun a=>xC (e.upd 31 a)
def d0w(e:a7):Reg:=xA (wI 9 (e 28) (e 30)) fun a=>xA (wA (some 9) a) fun b=>xA (wH 34 [(.int .i64 0),(.int .i64 0),(.int .i64 0),(.int .i64 0),(.int .i64 0),(.int .i64 0),(.int .i64 0),(.int .i64 0),(.bool false)]) fun c=>xA (wF 9 c b) fun _=>xC (e.upd 4 c)
def d1u(e:a7):Reg:=xA (wA (some 9) (e 4)) fun a=>xA (wD 55 [a]) fun b=>xA (wP .not b) fun c=>xC (e.upd 36 c)
def d5a(e:a7):Reg:=xA (wB (.bool false)) fun a=>xC (e.upd 2 a)
def d0R(e:a7):Reg:=xA (wE .add (e 30) (.int .i64 1)) fun a=>xA (wB a) fun b=>xC (e.upd 30 b)
def a6Q:CC:=(.seq (.region d5q) (.seq (.cond (fun e=>e 31) .skip (.exit 0)) (.seq (.block 1 (.seq (.region d0w) (.seq (.region d1u) (.cond (fun e=>e 36) (.seq (.region d5a) .ret) .skip)))) (.region d0R))))
def a8a(e:a7)(a:Value):Reg:=xB a true (wA (some 4) (e 1)) fun b=>xD fun h7=>xB a true (wD 57 [b]) fun c=>xB a true (wC 0 (e 1)) fun d=>xB a true (wA none d) fun f=>xE (some (a,true)) (some h7) (.load none d) f<|xB a true (wE .leq c f) fun g=>xA (wK a g (.bool false)) fun i=>xA (wB i) fun j=>xC (e.upd 2 j)
def d1q(e:a7):Reg:=xA (wC 2 (e 1)) fun a=>xA (wA none a) fun b=>xA (wA (some 4) (e 1)) fun c=>xD fun h3=>xA (wD 56 [c]) fun d=>xE none none (wA none a) b<|xA (wE .geq b d) fun f=>xA (wB f) fun g=>a8a e g
def R31:=an (ro c7A.eq_1)<|an (N8 a9y.eq_1)<|an (N8 a8i.eq_1)<|an (ro d0K.eq_1)<|an (ro d3m.eq_1)<|an (ro d3D.eq_1)<|an (ro d5q.eq_1)<|an (ro d0w.eq_1)<|an (ro d1u.eq_1)<|an (ro d5a.eq_1)<|an (ro d0R.eq_1)<|an (ro1 a8a.eq_1)<|ro d1q.eq_1
def c31:CFn:=⟨(.seq (.region c7A) (.seq (.seq (.region d0K) (.cond (fun e=>e 26) (.seq (.region d3m) .ret) .skip)) (.seq (.seq (.region d3D) (.block 0 (.loop a6Q))) (.seq (.region d1q) .ret)))),[.t 2]⟩
def p31:Pers:=⟨5,[26,28,29,30,31,36],50,[]⟩
def d3g(e:a7):Reg:=xA (wB (e 0)) fun a=>xA (wB (e 0)) fun b=>xA (wJ a) fun c=>xA (wC 8 c) fun d=>xA (wF 1 d (.slice none 0 0)) fun _=>xA (wJ b) fun f=>xA (wC 9 f) fun g=>xA (wF 1 g (.slice none 0 0)) fun _=>xC e
def d0c(e:a7):Reg:=xA (wB (e 0)) fun a=>xA (wJ a) fun b=>xA (wC 4 b) fun c=>xA (wC 1 c) fun d=>xA (wA none d) fun f=>xA (wB (.int .i64 0)) fun g=>xC ((e.upd 17 f).upd 18 g)
def d3R(e:a7):Reg:=xA (wE .lss (e 18) (e 17)) fun a=>xC (e.upd 19 a)
def a7Y(e:a7)(a b c d f:Value):Reg:=xD fun h16=>xA (wD 58 [d,f]) fun g=>xE none none (wA none b) c<|xA (.buildSlice 110 1 [(.pointer none)] [(0,1,g)]) fun i=>xD fun h18=>xA (.append 110 1 8 c i) fun j=>xA (wJ a) fun k=>xA (wC 8 k) fun m=>xD fun h21=>xA (wF 1 m j) fun _=>xC e
def a8d(e:a7)(a b c d:Value):Reg:=xA (wC 3 d) fun f=>xA (wA none f) fun g=>xA (wL g) fun i=>xA (wB (e 0)) fun j=>xA (wJ j) fun k=>xA (wC 4 k) fun m=>xA (wC 2 m) fun n=>xA (wA none n) fun o=>a7Y e a b c i o
def d1g(e:a7):Reg:=xA (wB (e 0)) fun a=>xA (wB (e 0)) fun b=>xA (wJ b) fun c=>xA (wC 8 c) fun d=>xA (wA none d) fun f=>xA (wB (e 0)) fun g=>xA (wJ g) fun i=>xA (wC 4 i) fun j=>a8d e a d f j
def d5P(e:a7):Reg:=xA (wE .add (e 18) (.int .i64 1)) fun a=>xA (wB a) fun b=>xC (e.upd 18 b)
def a9X:CC:=(.seq (.region d3R) (.seq (.cond (fun e=>e 19) .skip (.exit 0)) (.seq (.block 1 (.region d1g)) (.region d5P))))
def d7F(e:a7):Reg:=xA (wB (e 0)) fun a=>xA (wJ a) fun b=>xA (wC 4 b) fun c=>xA (wC 3 c) fun d=>xA (wA none d) fun f=>xA (wL f) fun g=>xA (wB (.int .i64 0)) fun i=>xC (((e.upd 46 f).upd 47 g).upd 48 i)
def d4z(e:a7):Reg:=xA (wE .lss (e 48) (e 47)) fun a=>xC (e.upd 49 a)
def d4r(e:a7):Reg:=xA (wB (e 48)) fun a=>xA (wI 9 (e 46) (e 48)) fun b=>xA (wA (some 9) b) fun c=>xA (wH 34 [(.int .i64 0),(.int .i64 0),(.int .i64 0),(.int .i64 0),(.int .i64 0),(.int .i64 0),(.int .i64 0),(.int .i64 0),(.bool false)]) fun d=>xA (wB a) fun f=>xA (wF 9 d c) fun _=>xC ((e.upd 5 d).upd 4 f)
def d0m(e:a7):Reg:=xA (wC 5 (e 5)) fun a=>xA (wA none a) fun b=>xA (wE .add b (.int .i64 1)) fun c=>xA (wE .mul (.int .i64 3) c) fun d=>xA (wB d) fun f=>xC (e.upd 6 f)
def a8m(e:a7)(a b c:Value):Reg:=xA (.buildSlice 94 1 [(.pointer none)] [(0,1,c)]) fun d=>xD fun h12=>xA (.append 94 1 8 b d) fun f=>xA (wJ a) fun g=>xA (wC 9 g) fun i=>xD fun h15=>xA (wF 1 i f) fun _=>xC e
def a7Q(e:a7)(a b c d f g:Value):Reg:=xA (wB (e 6)) fun i=>xD fun h9=>xA (wD 60 [f,g,i]) fun j=>xE none none (wA (some 9) (e 5)) d<|xE none none (wA none b) c<|xD fun h10=>xA (wD 59 [d,j]) fun k=>xE none none (wA none b) c<|a8m e a c k
def d7w(e:a7):Reg:=xA (wB (e 0)) fun a=>xA (wB (e 0)) fun b=>xA (wJ b) fun c=>xA (wC 9 c) fun d=>xA (wA none d) fun f=>xA (wA (some 9) (e 5)) fun g=>xA (wB (e 1)) fun i=>xA (wB (e 4)) fun j=>a7Q e a d f g i j
def c3k(e:a7):Reg:=xA (wE .add (e 48) (.int .i64 1)) fun a=>xA (wB a) fun b=>xC (e.upd 48 b)
def b0h:CC:=(.seq (.region d4z) (.seq (.cond (fun e=>e 49) .skip (.exit 2)) (.seq (.block 3 (.seq (.region d4r) (.seq (.region d0m) (.region d7w)))) (.region c3k))))
def R32:=an (ro d3g.eq_1)<|an (ro d0c.eq_1)<|an (ro d3R.eq_1)<|an (ro5 a7Y.eq_1)<|an (ro4 a8d.eq_1)<|an (ro d1g.eq_1)<|an (ro d5P.eq_1)<|an (ro d7F.eq_1)<|an (ro d4z.eq_1)<|an (ro d4r.eq_1)<|an (ro d0m.eq_1)<|an (S9 a8m.eq_1)<|an (ro6 a7Q.eq_1)<|an (ro d7w.eq_1)<|ro c3k.eq_1
def c32:CFn:=⟨(.seq (.region d3g) (.seq (.seq (.region d0c) (.block 0 (.loop a9X))) (.seq (.region d7F) (.block 2 (.loop b0h))))),[]⟩
def p32:Pers:=⟨7,[17,18,19,46,47,48,49],73,[]⟩
def d7n(e:a7):Reg:=xA (wB (.int .i64 0)) fun a=>xC (e.upd 4 a)
def d3N(e:a7):Reg:=xA (wB (e 0)) fun a=>xA (wB (e 0)) fun b=>xA (wJ b) fun c=>xA (wC 0 c) fun d=>xA (wA none d) fun f=>xA (wB (e 1)) fun g=>xA (.minmax true [f,g,(.int .i64 0)]) fun i=>xA (wJ a) fun j=>xA (wC 0 j) fun k=>xA (wF 1 k i) fun _=>xC e
def c9a(e:a7):Reg:=xA (wB (e 0)) fun a=>xA (wJ a) fun b=>xA (wC 3 b) fun c=>xA (wA none c) fun d=>xA (wP .not d) fun f=>xC (e.upd 18 f)
def a8r(e:a7)(a b c:Value):Reg:=xA (wF 1 c b) fun _=>xA (wJ a) fun d=>xA (wC 3 d) fun f=>xA (wF 1 f (.bool true)) fun _=>xC e
def d3y(e:a7):Reg:=xA (wB (e 0)) fun a=>xA (wB (e 0)) fun b=>xA (wB (e 0)) fun c=>xA (wJ c) fun d=>xA (wC 0 d) fun f=>xA (wA none f) fun g=>xA (wJ a) fun i=>xA (wC 1 i) fun j=>a8r e b g j
def d6H(e:a7):Reg:=xA (wB (e 0)) fun a=>xA (wJ a) fun b=>xA (wC 0 b) fun c=>xA (wA none c) fun d=>xA (wB d) fun f=>xC (e.upd 4 f)
def R34:=an (ro d7n.eq_1)<|an (ro d3N.eq_1)<|an (ro c9a.eq_1)<|an (S9 a8r.eq_1)<|an (ro d3y.eq_1)<|ro d6H.eq_1
def c34:CFn:=⟨(.seq (.region d7n) (.seq (.region d3N) (.seq (.seq (.region c9a) (.cond (fun e=>e 18) (.region d3y) .skip)) (.seq (.region d6H) .ret)))),[.t 4]⟩
def p34:Pers:=⟨5,[18],33,[]⟩
def c7C(e:a7):Reg:=xA (wA none (e 0)) fun a=>xA (wJ a) fun b=>xA (wC 10 b) fun c=>xA (wF 1 c (.slice none 0 0)) fun _=>xC e
def R35:=ro c7C.eq_1
def c35:CFn:=⟨(.region c7C),[]⟩
def p35:Pers:=⟨0,[0],4,[]⟩
def d0W(e:a7):Reg:=xA (wB (.bool false)) fun a=>xC (e.upd 2 a)
def d6J(e:a7):Reg:=xA (wB (e 0)) fun a=>xA (.eqK .ptr false a (.pointer none)) fun b=>xA (wB b) fun c=>xB c false (wB (e 0)) fun d=>xB c false (wJ d) fun f=>xB c false (wC 80 f) fun g=>xB c false (wA none g) fun i=>xA (wK c (.bool true) i) fun j=>xC (e.upd 10 j)
def d3f(e:a7):Reg:=xA (wB (.bool false)) fun a=>xC (e.upd 2 a)
def a9f(e:a7)(a b c:Value):Reg:=xA (wC 0 c) fun d=>xA (wF 78 d b) fun _=>xA (wJ a) fun f=>xA (wC 80 f) fun g=>xA (wF 1 g (.bool true)) fun _=>xC e
def d6q(e:a7):Reg:=xA (wB (e 0)) fun a=>xA (wB (e 0)) fun b=>xA (wB (e 0)) fun c=>xA (wJ c) fun d=>xA (wC 79 d) fun f=>xA (wA none f) fun g=>xA (wD 51 [g]) fun i=>xA (wJ a) fun j=>a9f e b i j
def c9F(e:a7):Reg:=xA (wB (e 0)) fun a=>xA (wJ a) fun b=>xA (wC 78 b) fun c=>xA (wA none c) fun d=>xA (wD 61 [d]) fun f=>xC e
def d4j(e:a7):Reg:=xA (wB (.bool true)) fun a=>xC (e.upd 2 a)
def R36:=an (ro d0W.eq_1)<|an (ro d6J.eq_1)<|an (ro d3f.eq_1)<|an (S9 a9f.eq_1)<|an (ro d6q.eq_1)<|an (ro c9F.eq_1)<|ro d4j.eq_1
def c36:CFn:=⟨(.seq (.region d0W) (.seq (.seq (.region d6J) (.cond (fun e=>e 10) (.seq (.region d3f) .ret) .skip)) (.seq (.region d6q) (.seq (.region c9F) (.seq (.region d4j) .ret))))),[.t 2]⟩
def p36:Pers:=⟨3,[10],27,[]⟩
def d0p(e:a7):Reg:=xA (wB (.bool false)) fun a=>xC (e.upd 2 a)
def d2l(e:a7):Reg:=xA (wB (e 0)) fun a=>xA (.eqK .ptr true a (.pointer none)) fun b=>xA (wB b) fun c=>xB c true (wB (e 0)) fun d=>xB c true (wJ d) fun f=>xB c true (wC 80 f) fun g=>xB c true (wA none g) fun i=>xA (wK c i (.bool false)) fun j=>xA (wB j) fun k=>xC (e.upd 2 k)
def R38:=an (ro d0p.eq_1)<|ro d2l.eq_1
def c38:CFn:=⟨(.seq (.region d0p) (.seq (.region d2l) .ret)),[.t 2]⟩
def p38:Pers:=⟨3,[],11,[]⟩
def d1M(e:a7):Reg:=xA (wB (.int .i64 0)) fun a=>xC (e.upd 6 a)
def c9O(e:a7):Reg:=xA (wB (e 0)) fun a=>xA (wD 38 [a]) fun b=>xA (wP .not b) fun c=>xC (e.upd 16 c)
def c9G(e:a7):Reg:=xA (wB (.int .i64 0)) fun a=>xC (e.upd 6 a)
def d0b(e:a7):Reg:=xA (wB (e 1)) fun a=>xA (wL a) fun b=>xA (wB (.int .i64 0)) fun c=>xC (((e.upd 17 a).upd 18 b).upd 19 c)
def d1A(e:a7):Reg:=xA (wE .lss (e 19) (e 18)) fun a=>xC (e.upd 20 a)
def d6d(e:a7):Reg:=xA (wB (e 19)) fun a=>xA (wI 1 (e 17) (e 19)) fun b=>xA (wA none b) fun c=>xA (wB a) fun d=>xA (wB c) fun f=>xC ((e.upd 7 d).upd 8 f)
def d3w(e:a7):Reg:=xA (wB (e 0)) fun a=>xA (wJ a) fun b=>xA (wC 0 b) fun c=>xA (wD 62 [c]) fun d=>xA (wE .neq d (.int .i64 0)) fun f=>xC (e.upd 28 f)
def c8x(e:a7):Reg:=xA (wB (e 7)) fun a=>xA (wB a) fun b=>xC (e.upd 6 b)
def a9v(e:a7)(a b c:Value):Reg:=xA (wG a 2) fun d=>xA (wH 61 [(.int .i64 0),(.int .i64 0),(.int .u32 0),(.string ⟨#[]⟩),(.int .i64 0)]) fun f=>xA (wF 5 f b) fun _=>xA (wB c) fun g=>xA (wB d) fun i=>xC (((e.upd 9 f).upd 10 g).upd 11 i)
def d1r(e:a7):Reg:=xA (wB (e 0)) fun a=>xA (wJ a) fun b=>xA (wC 0 b) fun c=>xA (wB (e 8)) fun d=>xA (wD 52 [c,d]) fun f=>xA (wB f) fun g=>xA (wG g 0) fun i=>xA (wG g 1) fun j=>a9v e g i j
def d1h(e:a7):Reg:=xA (wB (e 11)) fun a=>xA (wE .neq a (.int .i64 0)) fun b=>xA (wB b) fun c=>xC (e.upd 39 c)
def b9o(e:a7):Reg:=xA (wB (e 0)) fun a=>xA (wJ a) fun b=>xA (wC 78 b) fun c=>xA (wA none c) fun d=>xA (wD 63 [d]) fun f=>xA (wE .lss f (.int .i64 6)) fun g=>xC (e.upd 47 g)
def c2e(e:a7):Reg:=xA (wB (e 7)) fun a=>xA (wB a) fun b=>xC (e.upd 6 b)
def c2D(e:a7):Reg:=xA (wB (e 0)) fun a=>xA (wJ a) fun b=>xA (wC 78 b) fun c=>xA (wA none c) fun d=>xA (wB (e 11)) fun f=>xD fun h5=>xA (wD 65 [f]) fun g=>xE none none (wA none c) d<|xD fun h6=>xA (wD 64 [d,g]) fun i=>xC e
def c0h(e:a7):Reg:=xA (wB (e 10)) fun a=>xA (wB a) fun b=>xC (e.upd 56 b)
def a4N(e:a7)(h4:Heap)(a b c:Value):Reg:=xE none (some h4) (wA (some 5) (e 9)) c<|xD fun h7=>xA (.callv (a2a [(35,118)] b) [c]) fun d=>xA (wE .lss a d) fun f=>xC (e.upd 66 f)
def b9G(e:a7):Reg:=xA (wB (e 0)) fun a=>xA (wJ a) fun b=>xA (wC 78 b) fun c=>xA (wA none c) fun d=>xD fun h4=>xA (wD 63 [d]) fun f=>xA (wB (e 2)) fun g=>xA (wA (some 5) (e 9)) fun i=>a4N e h4 f g i
def c3B(e:a7):Reg:=xA (wB (e 7)) fun a=>xA (wB a) fun b=>xC (e.upd 6 b)
def a4W(e:a7)(a b c:Value):Reg:=xE none none (wA none a) b<|xD fun h7=>xA (wD 64 [b,c]) fun d=>xC e
def c2i(e:a7):Reg:=xA (wB (e 0)) fun a=>xA (wJ a) fun b=>xA (wC 78 b) fun c=>xA (wA none c) fun d=>xA (wB (e 2)) fun f=>xA (wA (some 5) (e 9)) fun g=>xD fun h6=>xA (.callv (a2a [(35,117)] f) [g]) fun i=>a4W e c d i
def b8a(e:a7):Reg:=xA (wB (e 2)) fun a=>xA (.assertI 291 [] .nilIface a) fun b=>xA (wB b) fun c=>xA (wG c 0) fun d=>xA (wG c 1) fun f=>xA (wB d) fun g=>xA (wB f) fun i=>xC ((e.upd 12 g).upd 13 i)
def b9c(e:a7):Reg:=xA (wB (e 13)) fun a=>xC (e.upd 81 a)
def c2s(e:a7):Reg:=xA (wB (e 12)) fun a=>xA (wA (some 5) (e 9)) fun b=>xA (.callv (a2a [] a) [b]) fun c=>xC e
def c0l(e:a7):Reg:=xA (wB (e 0)) fun a=>xA (wJ a) fun b=>xA (wC 0 b) fun c=>xA (wB (e 8)) fun d=>xA (wD 53 [c,d]) fun f=>xC e
def c1O(e:a7):Reg:=xA (wE .add (e 19) (.int .i64 1)) fun a=>xA (wB a) fun b=>xC (e.upd 19 b)
def a7h:CC:=(.seq (.region d1A) (.seq (.cond (fun e=>e 20) .skip (.exit 0)) (.seq (.block 1 (.seq (.region d6d) (.seq (.seq (.region d3w) (.cond (fun e=>e 28) (.seq (.region c8x) .ret) .skip)) (.seq (.region d1r) (.seq (.block 2 (.seq (.region d1h) (.cond (fun e=>e 39) (.seq (.seq (.region b9o) (.cond (fun e=>e 47) (.seq (.region c2e) .ret) .skip)) (.region c2D)) (.seq (.region c0h) (.cond (fun e=>e 56) (.seq (.seq (.region b9G) (.cond (fun e=>e 66) (.seq (.region c3B) .ret) .skip)) (.seq (.region c2i) (.seq (.region b8a) (.seq (.region b9c) (.cond (fun e=>e 81) (.region c2s) .skip))))) .skip))))) (.region c0l)))))) (.region c1O))))
def b9Z(e:a7):Reg:=xA (wB (e 1)) fun a=>xA (wL a) fun b=>xA (wB b) fun c=>xC (e.upd 6 c)
def R39:=an (ro d1M.eq_1)<|an (ro c9O.eq_1)<|an (ro c9G.eq_1)<|an (ro d0b.eq_1)<|an (ro d1A.eq_1)<|an (ro d6d.eq_1)<|an (ro d3w.eq_1)<|an (ro c8x.eq_1)<|an (S9 a9v.eq_1)<|an (ro d1r.eq_1)<|an (ro d1h.eq_1)<|an (ro b9o.eq_1)<|an (ro c2e.eq_1)<|an (ro c2D.eq_1)<|an (ro c0h.eq_1)<|an (ro4 a4N.eq_1)<|an (ro b9G.eq_1)<|an (ro c3B.eq_1)<|an (S9 a4W.eq_1)<|an (ro c2i.eq_1)<|an (ro b8a.eq_1)<|an (ro b9c.eq_1)<|an (ro c2s.eq_1)<|an (ro c0l.eq_1)<|an (ro c1O.eq_1)<|ro b9Z.eq_1
def c39:CFn:=⟨(.seq (.region d1M) (.seq (.seq (.region c9O) (.cond (fun e=>e 16) (.seq (.region c9G) .ret) .skip)) (.seq (.seq (.region d0b) (.block 0 (.loop a7h))) (.seq (.region b9Z) .ret)))),[.t 6]⟩
def p39:Pers:=⟨14,[16,17,18,19,20,28,39,47,56,66,81],93,[]⟩
def d4E(e:a7):Reg:=xA (wB (.slice none 0 0)) fun a=>xC (e.upd 4 a)
def d7c(e:a7):Reg:=xA (wB (e 0)) fun a=>xA (wD 38 [a]) fun b=>xA (wP .not b) fun c=>xC (e.upd 7 c)
def d2L(e:a7):Reg:=xA (wB (.slice none 0 0)) fun a=>xC (e.upd 4 a)
def d3p(e:a7):Reg:=xA (wB (e 0)) fun a=>xA (wJ a) fun b=>xA (wC 78 b) fun c=>xA (wA none c) fun d=>xA (wB (e 1)) fun f=>xA (wD 66 [d,f]) fun g=>xA (wB g) fun i=>xC (e.upd 4 i)
def R40:=an (ro d4E.eq_1)<|an (ro d7c.eq_1)<|an (ro d2L.eq_1)<|ro d3p.eq_1
def c40:CFn:=⟨(.seq (.region d4E) (.seq (.seq (.region d7c) (.cond (fun e=>e 7) (.seq (.region d2L) .ret) .skip)) (.seq (.region d3p) .ret))),[.t 4]⟩
def p40:Pers:=⟨5,[7],14,[]⟩
def d2N(e:a7):Reg:=xA (wB (.slice none 0 0)) fun a=>xC (e.upd 6 a)
def d1W(e:a7):Reg:=xA (wB (e 1)) fun a=>xA (wE .sub a (.int .i64 1)) fun b=>xA (wB b) fun c=>xC (e.upd 7 c)
def d4i(e:a7):Reg:=xA (wB (e 7)) fun a=>xA (wE .geq a (.int .i64 0)) fun b=>xC (e.upd 11 b)
def d2f(e:a7):Reg:=xA (wB (e 0)) fun a=>xA (wB (e 2)) fun b=>xA (wB (e 7)) fun c=>xA (wE .mul (.int .i64 8) c) fun d=>xA (wE .shr b d) fun f=>xA (wO .u8 f) fun g=>xA (.buildSlice 5 1 [(.int .u8 0)] [(0,1,g)]) fun i=>xA (.append 5 1 1 a i) fun j=>xA (wB j) fun k=>xC (e.upd 0 k)
def d2Z(e:a7):Reg:=xA (wB (e 7)) fun a=>xA (wE .sub a (.int .i64 1)) fun b=>xA (wB b) fun c=>xC (e.upd 7 c)
def b1d:CC:=(.seq (.seq (.region d4i) (.cond (fun e=>e 11) .skip (.exit 0))) (.seq (.block 1 (.region d2f)) (.region d2Z)))
def d2d(e:a7):Reg:=xA (wB (e 0)) fun a=>xA (wB a) fun b=>xC (e.upd 6 b)
def R44:=an (ro d2N.eq_1)<|an (ro d1W.eq_1)<|an (ro d4i.eq_1)<|an (ro d2f.eq_1)<|an (ro d2Z.eq_1)<|ro d2d.eq_1
def c44:CFn:=⟨(.seq (.region d2N) (.seq (.seq (.region d1W) (.block 0 (.loop b1d))) (.seq (.region d2d) .ret))),[.t 6]⟩
def p44:Pers:=⟨8,[11],23,[]⟩
def d7D(e:a7):Reg:=xA (wB (.slice none 0 0)) fun a=>xC (e.upd 4 a)
def a7L(e:a7)(a b c:Value):Reg:=xA (.buildSlice 5 4 [(.int .u8 0)] [(0,1,a),(1,1,(.int .u8 1)),(2,1,b),(3,1,c)]) fun d=>xA (wB (e 1)) fun f=>xA (.append 5 1 1 d f) fun g=>xA (wB g) fun i=>xC (e.upd 4 i)
def d7p(e:a7):Reg:=xA (wB (e 0)) fun a=>xA (wB (e 1)) fun b=>xA (wL b) fun c=>xA (wE .shr c (.int .u64 8)) fun d=>xA (wO .u8 d) fun f=>xA (wB (e 1)) fun g=>xA (wL g) fun i=>xA (wO .u8 i) fun j=>a7L e a f j
def R45:=an (ro d7D.eq_1)<|an (S9 a7L.eq_1)<|ro d7p.eq_1
def c45:CFn:=⟨(.seq (.region d7D) (.seq (.region d7p) .ret)),[.t 4]⟩
def p45:Pers:=⟨5,[],16,[]⟩
def d6m(e:a7):Reg:=xA (wB (.int .u64 0)) fun a=>xC (e.upd 2 a)
def d5h(e:a7):Reg:=xA (wB (.int .u64 0)) fun a=>xC (e.upd 3 a)
def d5N(e:a7):Reg:=xA (wB (e 0)) fun a=>xA (wL a) fun b=>xA (wB (.int .i64 0)) fun c=>xC (((e.upd 6 a).upd 7 b).upd 8 c)
def c9P(e:a7):Reg:=xA (wE .lss (e 8) (e 7)) fun a=>xC (e.upd 9 a)
def c8K(e:a7):Reg:=xA (wI 1 (e 6) (e 8)) fun a=>xA (wA none a) fun b=>xA (wB b) fun c=>xC (e.upd 5 c)
def d2x(e:a7):Reg:=xA (wB (e 3)) fun a=>xA (wE .shl a (.int .u64 8)) fun b=>xA (wB (e 5)) fun c=>xA (wO .u64 c) fun d=>xA (wE .or b d) fun f=>xA (wB f) fun g=>xC (e.upd 3 g)
def d1D(e:a7):Reg:=xA (wE .add (e 8) (.int .i64 1)) fun a=>xA (wB a) fun b=>xC (e.upd 8 b)
def b0G:CC:=(.seq (.region c9P) (.seq (.cond (fun e=>e 9) .skip (.exit 0)) (.seq (.block 1 (.seq (.region c8K) (.region d2x))) (.region d1D))))
def d5l(e:a7):Reg:=xA (wB (e 3)) fun a=>xA (wB a) fun b=>xC (e.upd 2 b)
def R46:=an (ro d6m.eq_1)<|an (ro d5h.eq_1)<|an (ro d5N.eq_1)<|an (ro c9P.eq_1)<|an (ro c8K.eq_1)<|an (ro d2x.eq_1)<|an (ro d1D.eq_1)<|ro d5l.eq_1
def c46:CFn:=⟨(.seq (.region d6m) (.seq (.region d5h) (.seq (.seq (.region d5N) (.block 0 (.loop b0G))) (.seq (.region d5l) .ret)))),[.t 2]⟩
def p46:Pers:=⟨6,[6,7,8,9],19,[]⟩
def d9Q(e:a7):Reg:=xA (wN 39 (e 1)) fun a=>xA (wB (.bool false)) fun b=>xC ((e.upd 3 a).upd 4 b)
def c6L(e:a7)(a:Value):Reg:=xB a true (wA none (e 3)) fun b=>xB a true (wI 1 b (.int .i64 0)) fun c=>xB a true (wA none c) fun d=>xB a true (wE .leq d (.int .u8 3)) fun f=>xA (wK a f (.bool false)) fun g=>xA (wB g) fun i=>xC (e.upd 6 i)
def c6D(e:a7)(a b:Value):Reg:=xA (wK a b (.bool false)) fun c=>xA (wB c) fun d=>xB d true (wA none (e 3)) fun f=>xB d true (wI 1 f (.int .i64 0)) fun g=>xB d true (wA none g) fun i=>xB d true (wE .geq i (.int .u8 1)) fun j=>xA (wK d j (.bool false)) fun k=>xA (wB k) fun m=>c6L e m
def c5N(e:a7)(a b:Value):Reg:=xB a false (wC 0 b) fun c=>xB a false (wA none c) fun d=>xB a false (wE .eql d (.int .i64 2)) fun f=>xA (wK a (.bool true) f) fun g=>xA (wB g) fun i=>xB i true (wA none (e 3)) fun j=>xB i true (wL j) fun k=>xB i true (wE .eql k (.int .i64 17)) fun m=>c6D e i m
def e1t(e:a7):Reg:=xA (wB (e 0)) fun a=>xA (wJ a) fun b=>xA (wC 0 b) fun c=>xA (wA none c) fun d=>xA (wE .eql d (.int .i64 1)) fun f=>xA (wB f) fun g=>xB g false (wB (e 0)) fun i=>xB g false (wJ i) fun j=>c5N e g j
def c5G(e:a7)(a b c d f g i:Value):Reg:=xD fun h11=>xA (wD 46 [i]) fun j=>xE none none (wA none c) d<|xE none none (wA none (e 3)) b<|xA (wO .i64 j) fun k=>xA (wM [(.int .i64 0),(.int .i64 0),(.int .i64 0)] [(0,1,f),(1,1,g),(2,1,k)]) fun m=>xA (wJ a) fun n=>xA (wC 2 n) fun o=>xD fun h16=>xA (wF 3 o m) fun _=>xC e
def c5O(e:a7)(a b c d f g:Value)(h7:Heap):Reg:=xA (wD 46 [g]) fun i=>xE none none (wA none c) d<|xE none none (wA none (e 3)) b<|xA (wO .i64 i) fun j=>xA (wA none (e 3)) fun k=>xE none (some h7) (wA none (e 3)) k<|xA (.slice 5 1 k (some (.int .i64 9)) none) fun m=>xE none (some h7) (.slice 5 1 k (some (.int .i64 9)) none) m<|c5G e a b c d f j m
def d9Y(e:a7):Reg:=xA (wB (e 0)) fun a=>xA (wA none (e 3)) fun b=>xA (wI 1 b (.int .i64 0)) fun c=>xA (wA none c) fun d=>xA (wO .i64 d) fun f=>xA (wA none (e 3)) fun g=>xA (.slice 5 1 g (some (.int .i64 1)) (some (.int .i64 9))) fun i=>xD fun h7=>c5O e a b c d f i h7
def c6C(e:a7)(a b:Value):Reg:=xB a true (wE .eql b (.int .i64 41)) fun c=>xA (wK a c (.bool false)) fun d=>xA (wB d) fun f=>xC (e.upd 52 f)
def e0v(e:a7):Reg:=xA (wB (e 0)) fun a=>xA (wJ a) fun b=>xA (wC 0 b) fun c=>xA (wA none c) fun d=>xA (wE .eql d (.int .i64 3)) fun f=>xA (wB f) fun g=>xB g true (wA none (e 3)) fun i=>xB g true (wL i) fun j=>c6C e g j
def e0y(e:a7):Reg:=xA (wB (e 0)) fun a=>xA (wA none (e 3)) fun b=>xA (wI 1 b (.int .i64 0)) fun c=>xA (wA none c) fun d=>xA (wO .i64 d) fun f=>xA (wJ a) fun g=>xA (wC 1 g) fun i=>xA (wF 1 i f) fun _=>xC e
def e0r(e:a7):Reg:=xA (.makeFunc 67 [] [(e 3)]) fun a=>xA (wB a) fun b=>xC (e.upd 5 b)
def c6r(e:a7)(a b c d f:Value):Reg:=xA (.callv f [(.int .i64 3)]) fun g=>xA (wB (e 5)) fun i=>xA (.callv i [(.int .i64 4)]) fun j=>xA (wM [(.int .i64 0),(.int .i64 0),(.int .i64 0),(.int .i64 0),(.int .i64 0)] [(0,1,b),(1,1,c),(2,1,d),(3,1,g),(4,1,j)]) fun k=>xA (wJ a) fun m=>xA (wC 5 m) fun n=>xA (wF 5 n k) fun _=>xC e
def e1j(e:a7):Reg:=xA (wB (e 0)) fun a=>xA (wB (e 5)) fun b=>xA (.callv b [(.int .i64 0)]) fun c=>xA (wB (e 5)) fun d=>xA (.callv d [(.int .i64 1)]) fun f=>xA (wB (e 5)) fun g=>xA (.callv g [(.int .i64 2)]) fun i=>xA (wB (e 5)) fun j=>c6r e a c f i j
def c6B(e:a7)(a b:Value):Reg:=xB a true (wE .geq b (.int .i64 2)) fun c=>xA (wK a c (.bool false)) fun d=>xA (wB d) fun f=>xC (e.upd 85 f)
def e0W(e:a7):Reg:=xA (wB (e 0)) fun a=>xA (wJ a) fun b=>xA (wC 0 b) fun c=>xA (wA none c) fun d=>xA (wE .eql d (.int .i64 4)) fun f=>xA (wB f) fun g=>xB g true (wA none (e 3)) fun i=>xB g true (wL i) fun j=>c6B e g j
def e0D(e:a7):Reg:=xA (wB (e 0)) fun a=>xA (wA none (e 3)) fun b=>xA (wI 1 b (.int .i64 0)) fun c=>xA (wA none c) fun d=>xA (wO .i64 d) fun f=>xA (wJ a) fun g=>xA (wC 1 g) fun i=>xA (wF 1 i f) fun _=>xC e
def d8F(e:a7):Reg:=xA (wB (e 0)) fun a=>xA (wA none (e 3)) fun b=>xA (.slice 5 1 b (some (.int .i64 2)) none) fun c=>xA (wA none (e 3)) fun d=>xA (wI 1 d (.int .i64 1)) fun f=>xA (wA none f) fun g=>xA (wO .i64 g) fun i=>xD fun h7=>xA (wD 68 [a,c,i]) fun j=>xA (wB j) fun k=>xC (e.upd 4 k)
def b4V(e:a7)(a b:Value):Reg:=xB a true (wE .eql b (.int .i64 1)) fun c=>xA (wK a c (.bool false)) fun d=>xA (wB d) fun f=>xB f true (wA none (e 3)) fun g=>xB f true (wI 1 g (.int .i64 0)) fun i=>xB f true (wA none i) fun j=>xB f true (wE .gtr j (.int .u8 0)) fun k=>xA (wK f k (.bool false)) fun m=>xA (wB m) fun n=>xC (e.upd 111 n)
def d8a(e:a7):Reg:=xA (wB (e 0)) fun a=>xA (wJ a) fun b=>xA (wC 0 b) fun c=>xA (wA none c) fun d=>xA (wE .eql d (.int .i64 127)) fun f=>xA (wB f) fun g=>xB g true (wA none (e 3)) fun i=>xB g true (wL i) fun j=>b4V e g j
def d9q(e:a7):Reg:=xA (wB (e 0)) fun a=>xA (wA none (e 3)) fun b=>xA (wI 1 b (.int .i64 0)) fun c=>xA (wA none c) fun d=>xA (wO .i64 d) fun f=>xA (wJ a) fun g=>xA (wC 11 g) fun i=>xA (wF 1 i f) fun _=>xC e
def e0n(e:a7):Reg:=xA (wB (.bool false)) fun a=>xC (e.upd 4 a)
def d8u(e:a7):Reg:=xA (wB (.bool true)) fun a=>xC (e.upd 4 a)
def c47:CFn:=⟨(.seq (.region d9Q) (.seq (.block 0 (.seq (.region e1t) (.cond (fun e=>e 6) (.region d9Y) (.seq (.region e0v) (.cond (fun e=>e 52) (.seq (.region e0y) (.seq (.region e0r) (.region e1j))) (.seq (.region e0W) (.cond (fun e=>e 85) (.seq (.region e0D) (.seq (.region d8F) .ret)) (.seq (.region d8a) (.cond (fun e=>e 111) (.region d9q) (.seq (.region e0n) .ret)))))))))) (.seq (.region d8u) .ret))),[.t 4]⟩
def p47:Pers:=⟨6,[6,52,85,111],135,[]⟩
def d1j(e:a7):Reg:=xA (wB (.int .i64 0)) fun a=>xC (e.upd 2 a)
def d6U(e:a7):Reg:=xA (wB (e 0)) fun a=>xA (.eqK .ptr false a (.pointer none)) fun b=>xC (e.upd 4 b)
def d6A(e:a7):Reg:=xA (wB (.int .i64 0)) fun a=>xC (e.upd 2 a)
def d4Z(e:a7):Reg:=xA (wB (e 0)) fun a=>xA (wJ a) fun b=>xA (wC 0 b) fun c=>xA (wA none c) fun d=>xA (wD 70 [d]) fun f=>xA (wB f) fun g=>xC (e.upd 2 g)
def R49:=an (ro d1j.eq_1)<|an (ro d6U.eq_1)<|an (ro d6A.eq_1)<|ro d4Z.eq_1
def c49:CFn:=⟨(.seq (.region d1j) (.seq (.seq (.region d6U) (.cond (fun e=>e 4) (.seq (.region d6A) .ret) .skip)) (.seq (.region d4Z) .ret))),[.t 2]⟩
def p49:Pers:=⟨3,[4],10,[]⟩
def c8X(e:a7):Reg:=xA (wB (.int .i64 0)) fun a=>xC (e.upd 2 a)
def d5X(e:a7):Reg:=xA (wB (e 0)) fun a=>xA (.eqK .ptr false a (.pointer none)) fun b=>xC (e.upd 4 b)
def d4f(e:a7):Reg:=xA (wB (.int .i64 0)) fun a=>xC (e.upd 2 a)
def d2j(e:a7):Reg:=xA (wB (e 0)) fun a=>xA (wJ a) fun b=>xA (wC 6 b) fun c=>xA (wA none c) fun d=>xA (wB d) fun f=>xC (e.upd 2 f)
def R50:=an (ro c8X.eq_1)<|an (ro d5X.eq_1)<|an (ro d4f.eq_1)<|ro d2j.eq_1
def c50:CFn:=⟨(.seq (.region c8X) (.seq (.seq (.region d5X) (.cond (fun e=>e 4) (.seq (.region d4f) .ret) .skip)) (.seq (.region d2j) .ret))),[.t 2]⟩
def p50:Pers:=⟨3,[4],9,[]⟩
def c7q(e:a7):Reg:=xA (wH 135 [(.int .u8 0),(.int .u8 0),(.int .u8 0),(.int .u8 0),(.int .u8 0),(.int .u8 0),(.int .u8 0),(.int .u8 0),(.int .u8 0),(.int .u8 0),(.int .u8 0),(.int .u8 0),(.int .u8 0),(.int .u8 0),(.int .u8 0),(.int .u8 0),(.int .u8 0),(.int .u8 0),(.int .u8 0),(.int .u8 0),(.int .u8 0),(.int .u8 0),(.int .u8 0),(.int .u8 0),(.int .u8 0),(.int .u8 0),(.int .u8 0),(.int .u8 0),(.int .u8 0),(.int .u8 0),(.int .u8 0),(.int .u8 0),(.int .u8 0),(.int .u8 0),(.int .u8 0),(.int .u8 0),(.int .u8 0),(.int .u8 0),(.int .u8 0),(.int .u8 0),(.int .u8 0),(.int .u8 0),(.int .u8 0),(.int .u8 0),(.int .u8 0),(.int .u8 0),(.int .u8 0),(.int .u8 0),(.int .u8 0),(.int .u8 0),(.int .u8 0),(.int .u8 0),(.int .u8 0),(.int .u8 0),(.int .u8 0),(.int .u8 0),(.int .u8 0),(.int .u8 0),(.int .u8 0),(.int .u8 0),(.int .u8 0),(.int .u8 0),(.int .u8 0),(.int .u8 0),(.int .u8 0),(.int .u8 0),(.int .u8 0),(.int .u8 0),(.int .u8 0),(.int .u8 0),(.int .u8 0),(.int .u8 0),(.int .u8 0),(.int .u8 0),(.int .u8 0),(.int .i64 0),(.int .i64 0),(.int .i64 0)]) fun a=>xC (e.upd 2 a)
def c8n(e:a7):Reg:=xA (wB (e 0)) fun a=>xA (wM [(.int .u8 0),(.int .u8 0),(.int .u8 0),(.int .u8 0),(.int .u8 0),(.int .u8 0),(.int .u8 0),(.int .u8 0),(.int .u8 0),(.int .u8 0),(.int .u8 0),(.int .u8 0),(.int .u8 0),(.int .u8 0),(.int .u8 0),(.int .u8 0),(.int .u8 0),(.int .u8 0),(.int .u8 0),(.int .u8 0),(.int .u8 0),(.int .u8 0),(.int .u8 0),(.int .u8 0),(.int .u8 0),(.int .u8 0),(.int .u8 0),(.int .u8 0),(.int .u8 0),(.int .u8 0),(.int .u8 0),(.int .u8 0),(.int .u8 0),(.int .u8 0),(.int .u8 0),(.int .u8 0),(.int .u8 0),(.int .u8 0),(.int .u8 0),(.int .u8 0),(.int .u8 0),(.int .u8 0),(.int .u8 0),(.int .u8 0),(.int .u8 0),(.int .u8 0),(.int .u8 0),(.int .u8 0),(.int .u8 0),(.int .u8 0),(.int .u8 0),(.int .u8 0),(.int .u8 0),(.int .u8 0),(.int .u8 0),(.int .u8 0),(.int .u8 0),(.int .u8 0),(.int .u8 0),(.int .u8 0),(.int .u8 0),(.int .u8 0),(.int .u8 0),(.int .u8 0),(.int .u8 0),(.int .u8 0),(.int .u8 0),(.int .u8 0),(.int .u8 0),(.int .u8 0),(.int .u8 0),(.int .u8 0),(.int .u8 0),(.int .u8 0),(.int .u8 0),(.int .i64 0),(.int .i64 0),(.int .i64 0)] [(76,1,a)]) fun b=>xA (wF 78 (e 2) b) fun _=>xC e
def R51:=an (ro c7q.eq_1)<|ro c8n.eq_1
def c51:CFn:=⟨(.seq (.region c7q) (.seq (.region c8n) .ret)),[.c 2 (some 78)]⟩
def p51:Pers:=⟨3,[],5,[]⟩
def d6S(e:a7):Reg:=xA (wH 61 [(.int .i64 0),(.int .i64 0),(.int .u32 0),(.string ⟨#[]⟩),(.int .i64 0)]) fun a=>xA (wB (.bool false)) fun b=>xA (wB (.int .i64 0)) fun c=>xC (((e.upd 4 a).upd 5 b).upd 6 c)
def d4B(e:a7):Reg:=xA (wB (e 0)) fun a=>xA (wJ a) fun b=>xA (wC 77 b) fun c=>xA (wA none c) fun d=>xA (wE .neq d (.int .i64 0)) fun f=>xC (e.upd 15 f)
def d4S(e:a7):Reg:=xA (wM [(.int .i64 0),(.int .i64 0),(.int .u32 0),(.string ⟨#[]⟩),(.int .i64 0)] []) fun a=>xA (wB (e 0)) fun b=>xA (wJ b) fun c=>xA (wC 77 c) fun d=>xA (wA none d) fun f=>xD fun h5=>xA (wF 5 (e 4) a) fun _=>xE none none (wA none d) f<|xA (wB (.bool false)) fun g=>xA (wB f) fun i=>xC ((e.upd 5 g).upd 6 i)
def d1R(e:a7):Reg:=xA (wB (e 0)) fun a=>xA (wB (e 0)) fun b=>xA (wJ b) fun c=>xA (wC 75 c) fun d=>xA (wA none d) fun f=>xA (wJ a) fun g=>xA (wC 0 g) fun i=>xA (.indexArr 75 1 i f) fun j=>xA (wA none j) fun k=>xA (wB k) fun m=>xC (e.upd 7 m)
def a7B(e:a7)(a b c:Value):Reg:=xA (.indexArr 75 1 c a) fun d=>xD fun h9=>xA (wF 1 d b) fun _=>xC e
def d6C(e:a7):Reg:=xA (wB (e 0)) fun a=>xA (wB (e 0)) fun b=>xA (wJ b) fun c=>xA (wC 75 c) fun d=>xA (wA none d) fun f=>xA (wB (e 1)) fun g=>xA (wJ a) fun i=>xA (wC 0 i) fun j=>a7B e f g j
def a9n(e:a7)(a b c:Value):Reg:=xA (wH 61 [(.int .i64 0),(.int .i64 0),(.int .u32 0),(.string ⟨#[]⟩),(.int .i64 0)]) fun d=>xD fun h24=>xA (wF 5 d a) fun _=>xA (wB b) fun f=>xA (wB c) fun g=>xC (((e.upd 8 d).upd 9 f).upd 10 g)
def a8n(e:a7)(a b:Value):Reg:=xA (wC 76 b) fun c=>xA (wA none c) fun d=>xD fun h18=>xA (wD 71 [a,d]) fun f=>xA (wB f) fun g=>xA (wG g 0) fun i=>xA (wG g 1) fun j=>xA (wG g 2) fun k=>a9n e i j k
def a8u(e:a7)(a b:Value):Reg:=xA (wB (e 0)) fun c=>xA (wJ c) fun d=>xA (wC 75 d) fun f=>xA (wA none f) fun g=>xA (wE .add g (.int .i64 1)) fun i=>xA (.sliceArr3 75 1 a none (some b) i) fun j=>xA (wB (e 0)) fun k=>xA (wJ k) fun m=>a8n e j m
def d4X(e:a7):Reg:=xA (wB (e 0)) fun a=>xA (wJ a) fun b=>xA (wC 0 b) fun c=>xA (wB (e 0)) fun d=>xA (wJ d) fun f=>xA (wC 75 f) fun g=>xA (wA none g) fun i=>xA (wE .add i (.int .i64 1)) fun j=>a8u e c j
def a9L(e:a7)(a b c:Value):Reg:=xA (.indexArr 75 1 c a) fun d=>xD fun h9=>xA (wF 1 d b) fun _=>xC e
def d2P(e:a7):Reg:=xA (wB (e 0)) fun a=>xA (wB (e 0)) fun b=>xA (wJ b) fun c=>xA (wC 75 c) fun d=>xA (wA none d) fun f=>xA (wB (e 7)) fun g=>xA (wJ a) fun i=>xA (wC 0 i) fun j=>a9L e f g j
def c8r(e:a7):Reg:=xA (wA (some 5) (e 8)) fun a=>xA (wB (e 9)) fun b=>xA (wE .gtr b (.int .i64 0)) fun c=>xA (wB (e 10)) fun d=>xA (wF 5 (e 4) a) fun _=>xA (wB c) fun f=>xA (wB d) fun g=>xC ((e.upd 5 f).upd 6 g)
def R52:=an (ro d6S.eq_1)<|an (ro d4B.eq_1)<|an (ro d4S.eq_1)<|an (ro d1R.eq_1)<|an (S9 a7B.eq_1)<|an (ro d6C.eq_1)<|an (S9 a9n.eq_1)<|an (N8 a8n.eq_1)<|an (N8 a8u.eq_1)<|an (ro d4X.eq_1)<|an (S9 a9L.eq_1)<|an (ro d2P.eq_1)<|ro c8r.eq_1
def c52:CFn:=⟨(.seq (.region d6S) (.seq (.seq (.region d4B) (.cond (fun e=>e 15) (.seq (.region d4S) .ret) .skip)) (.seq (.region d1R) (.seq (.region d6C) (.seq (.region d4X) (.seq (.region d2P) (.seq (.region c8r) .ret))))))),[.c 4 (some 5),.t 5,.t 6]⟩
def p52:Pers:=⟨11,[15],75,[]⟩
def d5L(e:a7):Reg:=xA (wH 61 [(.int .i64 0),(.int .i64 0),(.int .u32 0),(.string ⟨#[]⟩),(.int .i64 0)]) fun a=>xA (wB (.bool false)) fun b=>xA (wB (.int .i64 0)) fun c=>xC (((e.upd 4 a).upd 5 b).upd 6 c)
def a8z(e:a7)(a b c d:Value):Reg:=xA (wF 5 d a) fun _=>xA (wB b) fun f=>xA (wB c) fun g=>xC (((e.upd 7 d).upd 8 f).upd 9 g)
def d3M(e:a7):Reg:=xA (wB (e 0)) fun a=>xA (wB (e 1)) fun b=>xA (wD 52 [a,b]) fun c=>xA (wB c) fun d=>xA (wG d 0) fun f=>xA (wG d 1) fun g=>xA (wG d 2) fun i=>xA (wH 61 [(.int .i64 0),(.int .i64 0),(.int .u32 0),(.string ⟨#[]⟩),(.int .i64 0)]) fun j=>a8z e f g i j
def d2k(e:a7):Reg:=xA (wB (e 9)) fun a=>xA (wE .neq a (.int .i64 0)) fun b=>xA (wB b) fun c=>xC (e.upd 33 c)
def d5k(e:a7):Reg:=xA (wB (e 0)) fun a=>xA (wB (e 0)) fun b=>xA (wB (e 9)) fun c=>xA (wJ a) fun d=>xA (wC 77 d) fun f=>xA (wF 1 f c) fun _=>xA (wJ b) fun g=>xA (wC 75 g) fun i=>xA (wF 1 i (.int .i64 0)) fun _=>xC e
def d0I(e:a7):Reg:=xA (wB (e 8)) fun a=>xA (wB a) fun b=>xC (e.upd 43 b)
def d4p(e:a7):Reg:=xA (wB (e 0)) fun a=>xA (wJ a) fun b=>xA (wC 75 b) fun c=>xA (wF 1 c (.int .i64 0)) fun _=>xC e
def a8Q(e:a7)(a b c:Value):Reg:=xA (.indexArr 75 1 c a) fun d=>xD fun h9=>xA (wF 1 d b) fun _=>xC e
def d5U(e:a7):Reg:=xA (wB (e 0)) fun a=>xA (wB (e 0)) fun b=>xA (wJ b) fun c=>xA (wC 75 c) fun d=>xA (wA none d) fun f=>xA (wB (e 1)) fun g=>xA (wJ a) fun i=>xA (wC 0 i) fun j=>a8Q e f g j
def d3H(e:a7):Reg:=xA (wB (e 0)) fun a=>xA (wJ a) fun b=>xA (wC 75 b) fun c=>xA (wA none c) fun d=>xA (wE .add d (.int .i64 1)) fun f=>xA (wJ a) fun g=>xA (wC 75 g) fun i=>xA (wF 1 i f) fun _=>xC e
def d4N(e:a7):Reg:=xA (wA (some 5) (e 7)) fun a=>xA (wB (e 8)) fun b=>xA (wB (e 9)) fun c=>xA (wF 5 (e 4) a) fun _=>xA (wB b) fun d=>xA (wB c) fun f=>xC ((e.upd 5 d).upd 6 f)
def R53:=an (ro d5L.eq_1)<|an (ro4 a8z.eq_1)<|an (ro d3M.eq_1)<|an (ro d2k.eq_1)<|an (ro d5k.eq_1)<|an (ro d0I.eq_1)<|an (ro d4p.eq_1)<|an (S9 a8Q.eq_1)<|an (ro d5U.eq_1)<|an (ro d3H.eq_1)<|ro d4N.eq_1
def c53:CFn:=⟨(.seq (.region d5L) (.seq (.region d3M) (.seq (.block 0 (.seq (.region d2k) (.cond (fun e=>e 33) (.region d5k) (.seq (.region d0I) (.cond (fun e=>e 43) (.region d4p) (.seq (.region d5U) (.region d3H))))))) (.seq (.region d4N) .ret)))),[.c 4 (some 5),.t 5,.t 6]⟩
def p53:Pers:=⟨10,[33,43],51,[]⟩
def d1T(e:a7):Reg:=xA (wB (.bool false)) fun a=>xC (e.upd 4 a)
def c9u(e:a7):Reg:=xA (wB (e 0)) fun a=>xA (wE .geq a (.int .i64 1)) fun b=>xA (wB b) fun c=>xB c true (wB (e 0)) fun d=>xB c true (wB (e 1)) fun f=>xB c true (wE .leq d f) fun g=>xA (wK c g (.bool false)) fun i=>xA (wB i) fun j=>xC (e.upd 4 j)
def R54:=an (ro d1T.eq_1)<|ro c9u.eq_1
def c54:CFn:=⟨(.seq (.region d1T) (.seq (.region c9u) .ret)),[.t 4]⟩
def p54:Pers:=⟨5,[],12,[]⟩
def c7Z(e:a7):Reg:=xA (wN 34 (e 0)) fun a=>xA (wB (.bool false)) fun b=>xC ((e.upd 1 a).upd 2 b)
def d3t(e:a7):Reg:=xA (wA (some 9) (e 1)) fun a=>xA (wM [(.int .i64 0),(.int .i64 0),(.int .i64 0),(.int .i64 0),(.int .i64 0),(.int .i64 0),(.int .i64 0),(.int .i64 0),(.bool false)] []) fun b=>xA (.eqAgg false [.int,.int,.int,.int,.int,.int,.int,.int,.bool] a b) fun c=>xC (e.upd 7 c)
def d6D(e:a7):Reg:=xA (wB (.bool false)) fun a=>xC (e.upd 2 a)
def a8j(e:a7)(a:Value):Reg:=xA (wB a) fun b=>xB b false (wC 1 (e 1)) fun c=>xB b false (wA none c) fun d=>xB b false (wC 3 (e 1)) fun f=>xB b false (wA none f) fun g=>xB b false (wE .rem d g) fun i=>xB b false (wE .neq i (.int .i64 0)) fun j=>xA (wK b (.bool true) j) fun k=>xC (e.upd 39 k)
def a8H(e:a7)(a b:Value):Reg:=xB a false (wP .not b) fun c=>xA (wK a (.bool true) c) fun d=>xA (wB d) fun f=>xB f false (wC 3 (e 1)) fun g=>xB f false (wA none g) fun i=>xB f false (wD 54 [i,(.int .i64 64)]) fun j=>xB f false (wP .not j) fun k=>xA (wK f (.bool true) k) fun m=>a8j e m
def a8q(e:a7)(a b:Value):Reg:=xB a false (wP .not b) fun c=>xA (wK a (.bool true) c) fun d=>xA (wB d) fun f=>xB f false (wC 2 (e 1)) fun g=>xB f false (wA none g) fun i=>xB f false (wC 0 (e 1)) fun j=>xB f false (wA none j) fun k=>xB f false (wD 54 [i,k]) fun m=>a8H e f m
def c9x(e:a7):Reg:=xA (wC 0 (e 1)) fun a=>xA (wA none a) fun b=>xA (wD 54 [b,(.int .i64 2147483648)]) fun c=>xA (wP .not c) fun d=>xA (wB d) fun f=>xB f false (wC 1 (e 1)) fun g=>xB f false (wA none g) fun i=>xB f false (wD 54 [i,(.int .i64 1099511627776)]) fun j=>a8q e f j
def d4c(e:a7):Reg:=xA (wB (.bool false)) fun a=>xC (e.upd 2 a)
def a9E(e:a7)(a b:Value):Reg:=xB a false (wA none b) fun c=>xB a false (wB c) fun d=>xB d true (wC 3 (e 1)) fun f=>xB d true (wA none f) fun g=>xB d true (wE .lss g (.int .i64 2)) fun i=>xB a false (wK d i (.bool false)) fun j=>xA (wK a (.bool true) j) fun k=>xC (e.upd 70 k)
def a9q(e:a7)(a:Value):Reg:=xA (wB a) fun b=>xB b false (wC 7 (e 1)) fun c=>xB b false (wA none c) fun d=>xB b false (wD 54 [d,(.int .i64 64)]) fun f=>xB b false (wP .not f) fun g=>xA (wK b (.bool true) g) fun i=>xA (wB i) fun j=>xB j false (wC 8 (e 1)) fun k=>a9E e j k
def a8k(e:a7)(a b:Value):Reg:=xB a false (wP .not b) fun c=>xA (wK a (.bool true) c) fun d=>xA (wB d) fun f=>xB f false (wC 6 (e 1)) fun g=>xB f false (wA none g) fun i=>xB f false (wD 54 [i,(.int .i64 4096)]) fun j=>xB f false (wP .not j) fun k=>xA (wK f (.bool true) k) fun m=>a9q e m
def d3l(e:a7):Reg:=xA (wC 4 (e 1)) fun a=>xA (wA none a) fun b=>xA (wD 54 [b,(.int .i64 1024)]) fun c=>xA (wP .not c) fun d=>xA (wB d) fun f=>xB f false (wC 5 (e 1)) fun g=>xB f false (wA none g) fun i=>xB f false (wD 54 [i,(.int .i64 8)]) fun j=>a8k e f j
def c9l(e:a7):Reg:=xA (wB (.bool false)) fun a=>xC (e.upd 2 a)
def a7I(e:a7)(a:Value):Reg:=xA (wG a 0) fun b=>xA (wG a 1) fun c=>xA (wB b) fun d=>xA (wB c) fun f=>xC ((e.upd 3 d).upd 4 f)
def a8X(e:a7)(a b c d f:Value):Reg:=xA (wA none f) fun g=>xA (wE .sub d g) fun i=>xD fun h10=>xA (wD 73 [c,i]) fun j=>xE none none (wA none a) b<|xD fun h11=>xA (wD 72 [b,j]) fun k=>xA (wB k) fun m=>a7I e m
def c8j(e:a7):Reg:=xA (wC 2 (e 1)) fun a=>xA (wA none a) fun b=>xA (wC 1 (e 1)) fun c=>xA (wA none c) fun d=>xA (wC 0 (e 1)) fun f=>xA (wA none f) fun g=>xA (wE .add g (.int .i64 1)) fun i=>xA (wC 2 (e 1)) fun j=>a8X e a b d i j
def d7q(e:a7):Reg:=xA (wB (e 4)) fun a=>xA (wB a) fun b=>xB b true (wB (e 3)) fun c=>xB b true (wE .leq c (.int .i64 1152921504606846976)) fun d=>xA (wK b d (.bool false)) fun f=>xA (wB f) fun g=>xC (e.upd 2 g)
def R55:=an (ro c7Z.eq_1)<|an (ro d3t.eq_1)<|an (ro d6D.eq_1)<|an (ro1 a8j.eq_1)<|an (N8 a8H.eq_1)<|an (N8 a8q.eq_1)<|an (ro c9x.eq_1)<|an (ro d4c.eq_1)<|an (N8 a9E.eq_1)<|an (ro1 a9q.eq_1)<|an (N8 a8k.eq_1)<|an (ro d3l.eq_1)<|an (ro c9l.eq_1)<|an (ro1 a7I.eq_1)<|an (ro5 a8X.eq_1)<|an (ro c8j.eq_1)<|ro d7q.eq_1
def c55:CFn:=⟨(.seq (.region c7Z) (.seq (.seq (.region d3t) (.cond (fun e=>e 7) (.seq (.region d6D) .ret) .skip)) (.seq (.seq (.region c9x) (.cond (fun e=>e 39) (.seq (.region d4c) .ret) .skip)) (.seq (.seq (.region d3l) (.cond (fun e=>e 70) (.seq (.region c9l) .ret) .skip)) (.seq (.region c8j) (.seq (.region d7q) .ret)))))),[.t 2]⟩
def p55:Pers:=⟨5,[7,39,70],91,[]⟩
def d3C(e:a7):Reg:=xA (wN 30 (e 0)) fun a=>xA (wB (.int .i64 0)) fun b=>xC ((e.upd 1 a).upd 2 b)
def d1p(e:a7):Reg:=xA (wB (.int .i64 6)) fun a=>xC (e.upd 3 a)
def c8a(e:a7):Reg:=xA (wC 3 (e 1)) fun a=>xA (wA none a) fun b=>xA (wL b) fun c=>xA (wB (.int .i64 0)) fun d=>xC (((e.upd 9 b).upd 10 c).upd 11 d)
def d4T(e:a7):Reg:=xA (wE .lss (e 11) (e 10)) fun a=>xC (e.upd 12 a)
def d4t(e:a7):Reg:=xA (wI 9 (e 9) (e 11)) fun a=>xA (wA (some 9) a) fun b=>xA (wH 34 [(.int .i64 0),(.int .i64 0),(.int .i64 0),(.int .i64 0),(.int .i64 0),(.int .i64 0),(.int .i64 0),(.int .i64 0),(.bool false)]) fun c=>xA (wF 9 c b) fun _=>xC (e.upd 5 c)
def d4L(e:a7):Reg:=xA (wM [(.int .i64 0),(.int .i64 0),(.int .i64 0)] [(0,1,(.int .i64 1)),(1,1,(.int .i64 3)),(2,1,(.int .i64 4))]) fun a=>xA (wB (.int .i64 0)) fun b=>xC ((e.upd 15 a).upd 16 b)
def c8H(e:a7):Reg:=xA (wE .lss (e 16) (.int .i64 3)) fun a=>xC (e.upd 17 a)
def d1P(e:a7):Reg:=xA (.indexAgg 3 1 none (e 15) (e 16)) fun a=>xA (wB a) fun b=>xC (e.upd 7 b)
def d7A(e:a7):Reg:=xA (wB (e 3)) fun a=>xA (wB (e 7)) fun b=>xA (wC 7 (e 5)) fun c=>xA (wA none c) fun d=>xA (wM [(.int .i64 0),(.int .i64 0),(.int .u32 0),(.string ⟨#[]⟩),(.int .i64 0)] [(0,1,b),(4,1,d)]) fun f=>xA (wC 7 (e 5)) fun g=>xA (wA none g) fun i=>xA (wD 74 [f,i]) fun j=>xA (.minmax true [a,j]) fun k=>xA (wB k) fun m=>xC (e.upd 3 m)
def d3b(e:a7):Reg:=xA (wE .add (e 16) (.int .i64 1)) fun a=>xA (wB a) fun b=>xC (e.upd 16 b)
def d4A:CC:=(.seq (.region c8H) (.seq (.cond (fun e=>e 17) .skip (.exit 2)) (.seq (.block 3 (.seq (.region d1P) (.region d7A))) (.region d3b))))
def c0R(e:a7):Reg:=xA (wE .add (e 11) (.int .i64 1)) fun a=>xA (wB a) fun b=>xC (e.upd 11 b)
def b1b:CC:=(.seq (.region d4T) (.seq (.cond (fun e=>e 12) .skip (.exit 0)) (.seq (.block 1 (.seq (.region d4t) (.seq (.region d4L) (.block 2 (.loop d4A))))) (.region c0R))))
def b7I(e:a7):Reg:=xA (wB (e 3)) fun a=>xA (wB a) fun b=>xC (e.upd 2 b)
def R56:=an (ro d3C.eq_1)<|an (ro d1p.eq_1)<|an (ro c8a.eq_1)<|an (ro d4T.eq_1)<|an (ro d4t.eq_1)<|an (ro d4L.eq_1)<|an (ro c8H.eq_1)<|an (ro d1P.eq_1)<|an (ro d7A.eq_1)<|an (ro d3b.eq_1)<|an (ro c0R.eq_1)<|ro b7I.eq_1
def c56:CFn:=⟨(.seq (.region d3C) (.seq (.region d1p) (.seq (.seq (.region c8a) (.block 0 (.loop b1b))) (.seq (.region b7I) .ret)))),[.t 2]⟩
def p56:Pers:=⟨8,[9,10,11,12,15,16,17],31,[]⟩
def c8D(e:a7):Reg:=xA (wN 30 (e 0)) fun a=>xA (wB (.int .i64 0)) fun b=>xC ((e.upd 1 a).upd 2 b)
def d3c(e:a7):Reg:=xA (wC 1 (e 1)) fun a=>xA (wA none a) fun b=>xA (wC 2 (e 1)) fun c=>xA (wA none c) fun d=>xD fun h4=>xA (wD 75 [d]) fun f=>xE none none (wA none a) b<|xA (wE .mul b f) fun g=>xA (wB g) fun i=>xC (e.upd 3 i)
def c7n(e:a7):Reg:=xA (wC 3 (e 1)) fun a=>xA (wA none a) fun b=>xA (wL b) fun c=>xA (wB (.int .i64 0)) fun d=>xC (((e.upd 13 b).upd 14 c).upd 15 d)
def d6M(e:a7):Reg:=xA (wE .lss (e 15) (e 14)) fun a=>xC (e.upd 16 a)
def c7O(e:a7):Reg:=xA (wI 9 (e 13) (e 15)) fun a=>xA (wA (some 9) a) fun b=>xA (wH 34 [(.int .i64 0),(.int .i64 0),(.int .i64 0),(.int .i64 0),(.int .i64 0),(.int .i64 0),(.int .i64 0),(.int .i64 0),(.bool false)]) fun c=>xA (wF 9 c b) fun _=>xC (e.upd 5 c)
def d6i(e:a7):Reg:=xA (wB (e 3)) fun a=>xA (wA (some 9) (e 5)) fun b=>xA (wD 76 [b]) fun c=>xA (wE .add a c) fun d=>xA (wB d) fun f=>xC (e.upd 3 f)
def c8v(e:a7):Reg:=xA (wE .add (e 15) (.int .i64 1)) fun a=>xA (wB a) fun b=>xC (e.upd 15 b)
def b1a:CC:=(.seq (.region d6M) (.seq (.cond (fun e=>e 16) .skip (.exit 0)) (.seq (.block 1 (.seq (.region c7O) (.region d6i))) (.region c8v))))
def d5Y(e:a7):Reg:=xA (wB (e 3)) fun a=>xA (wB a) fun b=>xC (e.upd 2 b)
def R57:=an (ro c8D.eq_1)<|an (ro d3c.eq_1)<|an (ro c7n.eq_1)<|an (ro d6M.eq_1)<|an (ro c7O.eq_1)<|an (ro d6i.eq_1)<|an (ro c8v.eq_1)<|ro d5Y.eq_1
def c57:CFn:=⟨(.seq (.region c8D) (.seq (.region d3c) (.seq (.seq (.region c7n) (.block 0 (.loop b1a))) (.seq (.region d5Y) .ret)))),[.t 2]⟩
def p57:Pers:=⟨6,[13,14,15,16],25,[]⟩
def d0z(e:a7):Reg:=xA (wB (.pointer none)) fun a=>xC (e.upd 4 a)
def d4R(e:a7):Reg:=xA (wB (e 1)) fun a=>xA (wD 77 [a]) fun b=>xA (wB b) fun c=>xC (e.upd 5 c)
def c9K(e:a7):Reg:=xA (wB (e 5)) fun a=>xA (.eqK .ptr false a (.pointer none)) fun b=>xC (e.upd 9 b)
def c7l(e:a7):Reg:=xA (wB (.pointer none)) fun a=>xC (e.upd 4 a)
def d5O(e:a7):Reg:=xA (wB (e 5)) fun a=>xA (wB (e 0)) fun b=>xA (wM [(.int .u8 0),(.int .u8 0),(.int .u8 0),(.int .u8 0),(.int .u8 0),(.int .u8 0),(.int .u8 0),(.int .u8 0),(.int .u8 0),(.int .u8 0),(.int .u8 0),(.int .u8 0),(.int .u8 0),(.int .u8 0),(.int .u8 0),(.int .u8 0),(.int .u8 0),(.int .u8 0),(.int .u8 0),(.int .u8 0),(.int .u8 0),(.int .u8 0),(.int .u8 0),(.int .u8 0),(.int .u8 0),(.int .u8 0),(.int .u8 0),(.int .u8 0),(.int .u8 0),(.int .u8 0),(.int .u8 0),(.int .u8 0),(.int .u8 0),(.int .u8 0),(.int .u8 0),(.int .u8 0),(.int .u8 0),(.int .u8 0),(.int .u8 0),(.int .u8 0),(.int .u8 0),(.int .u8 0),(.int .u8 0),(.int .u8 0),(.int .u8 0),(.int .u8 0),(.int .u8 0),(.int .u8 0),(.int .u8 0),(.int .u8 0),(.int .u8 0),(.int .u8 0),(.int .u8 0),(.int .u8 0),(.int .u8 0),(.int .u8 0),(.int .u8 0),(.int .u8 0),(.int .u8 0),(.int .u8 0),(.int .u8 0),(.int .u8 0),(.int .u8 0),(.int .u8 0),(.int .u8 0),(.int .u8 0),(.int .u8 0),(.int .u8 0),(.int .u8 0),(.int .u8 0),(.int .u8 0),(.int .u8 0),(.int .u8 0),(.int .u8 0),(.int .u8 0),(.int .i64 0),(.int .i64 0),(.int .i64 0),(.pointer none),(.int .i64 0),(.bool false)] [(78,1,a),(79,1,b)]) fun c=>xA (wN 149 c) fun d=>xA (wB d) fun f=>xC (e.upd 4 f)
def R58:=an (ro d0z.eq_1)<|an (ro d4R.eq_1)<|an (ro c9K.eq_1)<|an (ro c7l.eq_1)<|ro d5O.eq_1
def c58:CFn:=⟨(.seq (.region d0z) (.seq (.region d4R) (.seq (.seq (.region c9K) (.cond (fun e=>e 9) (.seq (.region c7l) .ret) .skip)) (.seq (.region d5O) .ret)))),[.t 4]⟩
def p58:Pers:=⟨6,[9],14,[]⟩
def d4s(e:a7):Reg:=xA (wN 34 (e 0)) fun a=>xA (wB (.pointer none)) fun b=>xC ((e.upd 2 a).upd 4 b)
def d6a(e:a7):Reg:=xA (wB (e 1)) fun a=>xA (wC 5 (e 2)) fun b=>xA (wA none b) fun c=>xA (wE .add c (.int .i64 1)) fun d=>xA (wD 78 [a,d]) fun f=>xA (wB f) fun g=>xC (e.upd 5 g)
def d5u(e:a7):Reg:=xA (wB (e 5)) fun a=>xA (wB (e 5)) fun b=>xA (wL b) fun c=>xA (wE .sub c (.int .i64 1)) fun d=>xA (wI 3 a d) fun f=>xA (wA (some 3) f) fun g=>xA (wH 182 [(.int .u64 0),(.int .u64 0),(.int .u64 0)]) fun i=>xA (wF 3 i g) fun _=>xC (e.upd 6 i)
def a9u(e:a7)(a:Value)(h2:Heap)(b:Value)(h6:Heap)(c:Value)(h12:Heap)(d f:Value):Reg:=xA (wA (some 3) (e 6)) fun g=>xE none (some h12) (wA (some 3) (e 6)) g<|xE none (some h6) (wA (some 3) (e 6)) g<|xE none (some h2) (wA (some 3) (e 6)) g<|xD fun h16=>xA (wD 82 [f,g]) fun i=>xE none none (wA (some 9) (e 2)) a<|xA (wM [(.int .i64 0),(.int .i64 0),(.int .i64 0),(.int .i64 0),(.int .i64 0),(.int .i64 0),(.int .i64 0),(.int .i64 0),(.bool false),(.int .i64 0),(.int .i64 0),(.int .i64 0),(.int .i64 0),(.pointer none),(.pointer none),(.pointer none),(.int .i64 0),(.int .i64 0),(.int .i64 0),(.int .i64 0),(.int .i64 0)] [(0,9,a),(9,4,b),(13,1,c),(14,1,d),(15,1,i)]) fun j=>xA (wN 131 j) fun k=>xA (wB k) fun m=>xC (e.upd 4 m)
def a8v(e:a7)(a:Value)(h2:Heap)(b:Value)(h6:Heap)(c d f:Value):Reg:=xD fun h12=>xA (wD 81 [d,f]) fun g=>xE none none (wA (some 9) (e 2)) a<|xA (wC 7 (e 2)) fun i=>xA (wA none i) fun j=>xE none (some h12) (wA none i) j<|xE none (some h6) (wA none i) j<|xE none (some h2) (wA none i) j<|a9u e a h2 b h6 c h12 g j
def a7M(e:a7)(a:Value)(h2:Heap)(b:Value)(h6:Heap)(c d:Value):Reg:=xA (wB (e 5)) fun f=>xA (wC 5 (e 2)) fun g=>xA (wA none g) fun i=>xE none (some h6) (wA none g) i<|xE none (some h2) (wA none g) i<|xA (.slice 182 3 f none (some i)) fun j=>xE none (some h6) (.slice 182 3 f none (some i)) j<|xE none (some h2) (.slice 182 3 f none (some i)) j<|a8v e a h2 b h6 c d j
def a9x(e:a7)(a:Value)(h2:Heap)(b c:Value):Reg:=xA (wA (some 3) (e 6)) fun d=>xE none (some h2) (wA (some 3) (e 6)) d<|xD fun h6=>xA (wD 80 [c,d]) fun f=>xE none none (wA (some 9) (e 2)) a<|xA (wA (some 9) (e 2)) fun g=>xE none (some h6) (wA (some 9) (e 2)) g<|xE none (some h2) (wA (some 9) (e 2)) g<|a7M e a h2 b h6 f g
def d5n(e:a7):Reg:=xA (wA (some 9) (e 2)) fun a=>xA (wA (some 9) (e 2)) fun b=>xD fun h2=>xA (wD 79 [b]) fun c=>xE none none (wA (some 9) (e 2)) a<|xA (wC 4 (e 2)) fun d=>xA (wA none d) fun f=>xE none (some h2) (wA none d) f<|a9x e a h2 c f
def R59:=an (ro d4s.eq_1)<|an (ro d6a.eq_1)<|an (ro d5u.eq_1)<|an (ro8 a9u.eq_1)<|an (ro7 a8v.eq_1)<|an (ro6 a7M.eq_1)<|an (ro4 a9x.eq_1)<|ro d5n.eq_1
def c59:CFn:=⟨(.seq (.region d4s) (.seq (.region d6a) (.seq (.region d5u) (.seq (.region d5n) .ret)))),[.t 4]⟩
def p59:Pers:=⟨7,[],37,[]⟩
def d4k(e:a7):Reg:=xA (wB (.slice none 0 0)) fun a=>xC (e.upd 6 a)
def d0g(e:a7):Reg:=xA (wB (e 2)) fun a=>xA (.makeSlice 78 1 8 [(.int .u64 0)] a a) fun b=>xA (wB b) fun c=>xC (e.upd 7 c)
def d6o(e:a7):Reg:=xA (wB (e 7)) fun a=>xA (wL a) fun b=>xA (wB (.int .i64 0)) fun c=>xC ((e.upd 12 b).upd 13 c)
def d2b(e:a7):Reg:=xA (wE .lss (e 13) (e 12)) fun a=>xC (e.upd 14 a)
def d0t(e:a7):Reg:=xA (wB (e 13)) fun a=>xA (wB a) fun b=>xC (e.upd 8 b)
def d2G(e:a7):Reg:=xA (wB (e 0)) fun a=>xA (wL a) fun b=>xA (wE .gtr b (.int .i64 0)) fun c=>xC (e.upd 18 c)
def a8o(e:a7)(a b c d:Value):Reg:=xA (wO .u64 d) fun f=>xA (wE .mul f (.int .u64 11400714819323198485)) fun g=>xA (wE .xor c g) fun i=>xA (wI 1 a b) fun j=>xA (wF 1 j i) fun _=>xC e
def a9t(e:a7)(a b c d f:Value):Reg:=xA (wE .rem d f) fun g=>xA (wI 1 c g) fun i=>xA (wA none i) fun j=>xA (wB (e 1)) fun k=>xA (wO .u64 k) fun m=>xA (wE .shl m (.int .u64 56)) fun n=>xA (wE .xor j n) fun o=>xA (wB (e 8)) fun p=>a8o e a b o p
def c8M(e:a7):Reg:=xA (wB (e 7)) fun a=>xA (wB (e 8)) fun b=>xA (wB (e 0)) fun c=>xA (wB (e 1)) fun d=>xA (wB (e 8)) fun f=>xA (wE .add d f) fun g=>xA (wB (e 0)) fun i=>xA (wL i) fun j=>a9t e a b c g j
def d1I(e:a7):Reg:=xA (wE .add (e 13) (.int .i64 1)) fun a=>xA (wB a) fun b=>xC (e.upd 13 b)
def a4D:CC:=(.seq (.region d2b) (.seq (.cond (fun e=>e 14) .skip (.exit 0)) (.seq (.block 1 (.seq (.region d0t) (.seq (.region d2G) (.cond (fun e=>e 18) (.region c8M) .skip)))) (.region d1I))))
def c8u(e:a7):Reg:=xA (wB (e 7)) fun a=>xA (wB a) fun b=>xC (e.upd 6 b)
def R60:=an (ro d4k.eq_1)<|an (ro d0g.eq_1)<|an (ro d6o.eq_1)<|an (ro d2b.eq_1)<|an (ro d0t.eq_1)<|an (ro d2G.eq_1)<|an (ro4 a8o.eq_1)<|an (ro5 a9t.eq_1)<|an (ro c8M.eq_1)<|an (ro d1I.eq_1)<|ro c8u.eq_1
def c60:CFn:=⟨(.seq (.region d4k) (.seq (.region d0g) (.seq (.seq (.region d6o) (.block 0 (.loop a4D))) (.seq (.region c8u) .ret)))),[.t 6]⟩
def p60:Pers:=⟨9,[12,13,14,18],41,[]⟩
def d6I(e:a7):Reg:=xA (wB (e 0)) fun a=>xA (.eqK .ptr true a (.pointer none)) fun b=>xC (e.upd 3 b)
def d4U(e:a7):Reg:=xA (wB (e 0)) fun a=>xA (wB (e 0)) fun b=>xA (wJ a) fun c=>xA (wC 1 c) fun d=>xA (wF 1 d (.int .i64 0)) fun _=>xA (wJ b) fun f=>xA (wC 2 f) fun g=>xA (wF 1 g (.int .i64 0)) fun _=>xC e
def R61:=an (ro d6I.eq_1)<|ro d4U.eq_1
def c61:CFn:=⟨(.seq (.region d6I) (.cond (fun e=>e 3) (.region d4U) .skip)),[]⟩
def p61:Pers:=⟨2,[3],10,[]⟩
def d7H(e:a7):Reg:=xA (wB (.int .i64 0)) fun a=>xC (e.upd 2 a)
def d2D(e:a7):Reg:=xA (wB (e 0)) fun a=>xA (wJ a) fun b=>xA (wC 77 b) fun c=>xA (wA none c) fun d=>xA (wB d) fun f=>xC (e.upd 2 f)
def R62:=an (ro d7H.eq_1)<|ro d2D.eq_1
def c62:CFn:=⟨(.seq (.region d7H) (.seq (.region d2D) .ret)),[.t 2]⟩
def p62:Pers:=⟨3,[],7,[]⟩
def d0x(e:a7):Reg:=xA (wB (.int .i64 0)) fun a=>xC (e.upd 2 a)
def d0a(e:a7):Reg:=xA (wB (e 0)) fun a=>xA (.eqK .ptr false a (.pointer none)) fun b=>xC (e.upd 4 b)
def d5H(e:a7):Reg:=xA (wB (.int .i64 0)) fun a=>xC (e.upd 2 a)
def a8t(e:a7)(a b:Value):Reg:=xA (wA none b) fun c=>xA (wE .sub a c) fun d=>xA (wB d) fun f=>xC (e.upd 2 f)
def d0P(e:a7):Reg:=xA (wB (e 0)) fun a=>xA (wJ a) fun b=>xA (wC 0 b) fun c=>xA (wA none c) fun d=>xA (wL d) fun f=>xA (wB (e 0)) fun g=>xA (wJ g) fun i=>xA (wC 2 i) fun j=>a8t e f j
def R63:=an (ro d0x.eq_1)<|an (ro d0a.eq_1)<|an (ro d5H.eq_1)<|an (N8 a8t.eq_1)<|ro d0P.eq_1
def c63:CFn:=⟨(.seq (.region d0x) (.seq (.seq (.region d0a) (.cond (fun e=>e 4) (.seq (.region d5H) .ret) .skip)) (.seq (.region d0P) .ret))),[.t 2]⟩
def p63:Pers:=⟨3,[4],15,[]⟩
def d5m(e:a7):Reg:=xA (wB (.bool false)) fun a=>xC (e.upd 4 a)
def d2H(e:a7):Reg:=xA (wB (e 1)) fun a=>xA (wL a) fun b=>xA (wB (e 0)) fun c=>xA (wD 63 [c]) fun d=>xA (wE .gtr b d) fun f=>xC (e.upd 11 f)
def d6T(e:a7):Reg:=xA (wB (.bool false)) fun a=>xC (e.upd 4 a)
def c9M(e:a7):Reg:=xA (wB (e 1)) fun a=>xA (wL a) fun b=>xA (wB (.int .i64 0)) fun c=>xC (((e.upd 12 a).upd 13 b).upd 14 c)
def d3z(e:a7):Reg:=xA (wE .lss (e 14) (e 13)) fun a=>xC (e.upd 15 a)
def d1Q(e:a7):Reg:=xA (wI 1 (e 12) (e 14)) fun a=>xA (wA none a) fun b=>xA (wB b) fun c=>xC (e.upd 6 c)
def a8F(e:a7)(a b c:Value):Reg:=xA (wA none c) fun d=>xA (wL d) fun f=>xA (wE .rem b f) fun g=>xA (wB (e 6)) fun i=>xA (wI 1 a g) fun j=>xD fun h21=>xA (wF 1 j i) fun _=>xC e
def a9j(e:a7)(a b:Value):Reg:=xA (wB (e 0)) fun c=>xA (wJ c) fun d=>xA (wC 2 d) fun f=>xA (wA none f) fun g=>xA (wE .add b g) fun i=>xA (wB (e 0)) fun j=>xA (wJ j) fun k=>xA (wC 0 k) fun m=>a8F e a i m
def c8Y(e:a7):Reg:=xA (wB (e 0)) fun a=>xA (wJ a) fun b=>xA (wC 0 b) fun c=>xA (wA none c) fun d=>xA (wB (e 0)) fun f=>xA (wJ f) fun g=>xA (wC 1 g) fun i=>xA (wA none i) fun j=>a9j e d j
def c7X(e:a7):Reg:=xA (wB (e 0)) fun a=>xA (wJ a) fun b=>xA (wC 2 b) fun c=>xA (wA none c) fun d=>xA (wE .add d (.int .i64 1)) fun f=>xA (wJ a) fun g=>xA (wC 2 g) fun i=>xA (wF 1 i f) fun _=>xC e
def d1i(e:a7):Reg:=xA (wE .add (e 14) (.int .i64 1)) fun a=>xA (wB a) fun b=>xC (e.upd 14 b)
def b0g:CC:=(.seq (.region d3z) (.seq (.cond (fun e=>e 15) .skip (.exit 0)) (.seq (.block 1 (.seq (.region d1Q) (.seq (.region c8Y) (.region c7X)))) (.region d1i))))
def d2q(e:a7):Reg:=xA (wB (.bool true)) fun a=>xC (e.upd 4 a)
def R64:=an (ro d5m.eq_1)<|an (ro d2H.eq_1)<|an (ro d6T.eq_1)<|an (ro c9M.eq_1)<|an (ro d3z.eq_1)<|an (ro d1Q.eq_1)<|an (S9 a8F.eq_1)<|an (N8 a9j.eq_1)<|an (ro c8Y.eq_1)<|an (ro c7X.eq_1)<|an (ro d1i.eq_1)<|ro d2q.eq_1
def c64:CFn:=⟨(.seq (.region d5m) (.seq (.seq (.region d2H) (.cond (fun e=>e 11) (.seq (.region d6T) .ret) .skip)) (.seq (.seq (.region c9M) (.block 0 (.loop b0g))) (.seq (.region d2q) .ret)))),[.t 4]⟩
def p64:Pers:=⟨7,[11,12,13,14,15],47,[]⟩
def d3n(e:a7):Reg:=xA (wB (.slice none 0 0)) fun a=>xC (e.upd 2 a)
def d3U(e:a7):Reg:=xA (wB (e 0)) fun a=>xA (wO .u8 a) fun b=>xA (.buildSlice 5 2 [(.int .u8 0)] [(0,1,(.int .u8 255)),(1,1,b)]) fun c=>xA (wD 45 [(.int .u8 168),c]) fun d=>xA (wB d) fun f=>xC (e.upd 2 f)
def R65:=an (ro d3n.eq_1)<|ro d3U.eq_1
def c65:CFn:=⟨(.seq (.region d3n) (.seq (.region d3U) .ret)),[.t 2]⟩
def p65:Pers:=⟨3,[],7,[]⟩
def c8i(e:a7):Reg:=xA (wB (.slice none 0 0)) fun a=>xC (e.upd 4 a)
def d1e(e:a7):Reg:=xA (wB (.slice none 0 0)) fun a=>xC (e.upd 5 a)
def d6w(e:a7):Reg:=xA (wB (e 1)) fun a=>xA (.minmax true [a,(.int .i64 0)]) fun b=>xA (wB (e 0)) fun c=>xA (wD 83 [c]) fun d=>xA (.minmax false [b,d]) fun f=>xA (wB (.int .i64 0)) fun g=>xC ((e.upd 10 f).upd 11 g)
def d7z(e:a7):Reg:=xA (wE .lss (e 11) (e 10)) fun a=>xC (e.upd 12 a)
def a9e(e:a7)(a b c:Value):Reg:=xA (wA none c) fun d=>xA (wI 1 b d) fun f=>xA (wA none f) fun g=>xA (.buildSlice 5 1 [(.int .u8 0)] [(0,1,g)]) fun i=>xD fun h12=>xA (.append 5 1 1 a i) fun j=>xA (wB j) fun k=>xC (e.upd 5 k)
def c9z(e:a7):Reg:=xA (wB (e 5)) fun a=>xA (wB (e 0)) fun b=>xA (wJ b) fun c=>xA (wC 0 c) fun d=>xA (wA none d) fun f=>xA (wB (e 0)) fun g=>xA (wJ g) fun i=>xA (wC 1 i) fun j=>a9e e a f j
def a7N(e:a7)(a b c:Value):Reg:=xA (wC 0 c) fun d=>xA (wA none d) fun f=>xA (wL f) fun g=>xA (wE .rem b g) fun i=>xA (wJ a) fun j=>xA (wC 1 j) fun k=>xD fun h14=>xA (wF 1 k i) fun _=>xC e
def d4G(e:a7):Reg:=xA (wB (e 0)) fun a=>xA (wB (e 0)) fun b=>xA (wJ b) fun c=>xA (wC 1 c) fun d=>xA (wA none d) fun f=>xA (wE .add f (.int .i64 1)) fun g=>xA (wB (e 0)) fun i=>xA (wJ i) fun j=>a7N e a g j
def d4W(e:a7):Reg:=xA (wB (e 0)) fun a=>xA (wJ a) fun b=>xA (wC 2 b) fun c=>xA (wA none c) fun d=>xA (wE .sub d (.int .i64 1)) fun f=>xA (wJ a) fun g=>xA (wC 2 g) fun i=>xA (wF 1 i f) fun _=>xC e
def d2o(e:a7):Reg:=xA (wE .add (e 11) (.int .i64 1)) fun a=>xA (wB a) fun b=>xC (e.upd 11 b)
def b0F:CC:=(.seq (.region d7z) (.seq (.cond (fun e=>e 12) .skip (.exit 0)) (.seq (.block 1 (.seq (.region c9z) (.seq (.region d4G) (.region d4W)))) (.region d2o))))
def d1b(e:a7):Reg:=xA (wB (e 5)) fun a=>xA (wB a) fun b=>xC (e.upd 4 b)
def R66:=an (ro c8i.eq_1)<|an (ro d1e.eq_1)<|an (ro d6w.eq_1)<|an (ro d7z.eq_1)<|an (S9 a9e.eq_1)<|an (ro c9z.eq_1)<|an (S9 a7N.eq_1)<|an (ro d4G.eq_1)<|an (ro d4W.eq_1)<|an (ro d2o.eq_1)<|ro d1b.eq_1
def c66:CFn:=⟨(.seq (.region c8i) (.seq (.region d1e) (.seq (.seq (.region d6w) (.block 0 (.loop b0F))) (.seq (.region d1b) .ret)))),[.t 4]⟩
def p66:Pers:=⟨6,[10,11,12],49,[]⟩
def d0Y(e:a7):Reg:=xA (wB (.int .i64 0)) fun a=>xC (e.upd 2 a)
def c7f(e:a7):Reg:=xA (wB (e 0)) fun a=>xA (.eqK .ptr false a (.pointer none)) fun b=>xC (e.upd 4 b)
def d6e(e:a7):Reg:=xA (wB (.int .i64 0)) fun a=>xC (e.upd 2 a)
def c8d(e:a7):Reg:=xA (wB (e 0)) fun a=>xA (wJ a) fun b=>xA (wC 4 b) fun c=>xA (wA none c) fun d=>xA (wB d) fun f=>xC (e.upd 2 f)
def R70:=an (ro d0Y.eq_1)<|an (ro c7f.eq_1)<|an (ro d6e.eq_1)<|ro c8d.eq_1
def c70:CFn:=⟨(.seq (.region d0Y) (.seq (.seq (.region c7f) (.cond (fun e=>e 4) (.seq (.region d6e) .ret) .skip)) (.seq (.region c8d) .ret))),[.t 2]⟩
def p70:Pers:=⟨3,[4],9,[]⟩
def d7j(e:a7):Reg:=xA (wH 61 [(.int .i64 0),(.int .i64 0),(.int .u32 0),(.string ⟨#[]⟩),(.int .i64 0)]) fun a=>xA (wB (.int .i64 0)) fun b=>xA (wB (.int .i64 0)) fun c=>xC (((e.upd 4 a).upd 5 b).upd 6 c)
def d7h(e:a7):Reg:=xA (wB (e 0)) fun a=>xA (wB (e 1)) fun b=>xA (wD 84 [a,b]) fun c=>xA (wB c) fun d=>xC (e.upd 7 d)
def c8P(e:a7):Reg:=xA (wB (e 7)) fun a=>xA (wE .neq a (.int .i64 0)) fun b=>xC (e.upd 14 b)
def d4F(e:a7):Reg:=xA (wM [(.int .i64 0),(.int .i64 0),(.int .u32 0),(.string ⟨#[]⟩),(.int .i64 0)] []) fun a=>xA (wB (e 7)) fun b=>xA (wF 5 (e 4) a) fun _=>xA (wB (.int .i64 0)) fun c=>xA (wB b) fun d=>xC ((e.upd 5 c).upd 6 d)
def a7J(e:a7)(a b c:Value):Reg:=xB a false (wA none c) fun d=>xB a false (wO .i64 d) fun f=>xB a false (wE .add (.int .i64 4) f) fun g=>xB a false (wE .lss b g) fun i=>xA (wK a (.bool true) i) fun j=>xC (e.upd 29 j)
def d1d(e:a7):Reg:=xA (wB (e 0)) fun a=>xA (wL a) fun b=>xA (wE .lss b (.int .i64 4)) fun c=>xA (wB c) fun d=>xB d false (wB (e 0)) fun f=>xB d false (wL f) fun g=>xB d false (wB (e 0)) fun i=>xB d false (wI 1 i (.int .i64 3)) fun j=>a7J e d g j
def c9B(e:a7):Reg:=xA (wM [(.int .i64 0),(.int .i64 0),(.int .u32 0),(.string ⟨#[]⟩),(.int .i64 0)] []) fun a=>xA (wF 5 (e 4) a) fun _=>xA (wB (.int .i64 0)) fun b=>xA (wB (.int .i64 0)) fun c=>xC ((e.upd 5 b).upd 6 c)
def d4O(e:a7):Reg:=xA (wB (e 0)) fun a=>xA (wI 1 a (.int .i64 3)) fun b=>xA (wA none b) fun c=>xA (wO .i64 c) fun d=>xA (wE .add (.int .i64 4) d) fun f=>xA (wB f) fun g=>xC (e.upd 8 g)
def a7U(e:a7)(a b:Value):Reg:=xA (wM [(.int .i64 0),(.int .i64 0),(.int .u32 0),(.string ⟨#[]⟩),(.int .i64 0)] [(0,1,a),(1,1,b)]) fun c=>xA (wH 61 [(.int .i64 0),(.int .i64 0),(.int .u32 0),(.string ⟨#[]⟩),(.int .i64 0)]) fun d=>xD fun h10=>xA (wF 5 d c) fun _=>xC (e.upd 9 d)
def d2O(e:a7):Reg:=xA (wB (e 0)) fun a=>xA (wI 1 a (.int .i64 4)) fun b=>xA (wA none b) fun c=>xA (wO .i64 c) fun d=>xA (wB (e 0)) fun f=>xA (wI 1 f (.int .i64 5)) fun g=>xA (wA none g) fun i=>xA (wO .i64 i) fun j=>a7U e d j
def d1w(e:a7):Reg:=xA (wC 0 (e 9)) fun a=>xA (wA none a) fun b=>xC (e.upd 46 b)
def c7V(e:a7):Reg:=xA (wE .eql (e 46) (.int .i64 1)) fun a=>xA (wB a) fun b=>xC (e.upd 47 b)
def c2A(e:a7):Reg:=xA (wE .eql (e 46) (.int .i64 2)) fun a=>xA (wB a) fun b=>xC (e.upd 47 b)
def a6p(e:a7)(a:Value):Reg:=xA (wC 3 (e 9)) fun b=>xD fun h11=>xA (wF 1 b a) fun _=>xC e
def a5Q(e:a7)(h2:Heap)(a b c d:Value):Reg:=xE none (some h2) (.slice 5 1 b (some (.int .i64 11)) (some c)) d<|xA (.toStr d) fun f=>xE none (some h2) (.toStr d) f<|xA (wC 2 (e 9)) fun g=>xD fun h9=>xA (wF 1 g a) fun _=>xE none none (.toStr d) f<|xE none none (.slice 5 1 b (some (.int .i64 11)) (some c)) d<|a6p e f
def c2h(e:a7):Reg:=xA (wB (e 0)) fun a=>xA (.slice 5 1 a (some (.int .i64 6)) (some (.int .i64 10))) fun b=>xD fun h2=>xA (wD 46 [b]) fun c=>xA (wO .u32 c) fun d=>xA (wB (e 0)) fun f=>xA (wB (e 8)) fun g=>xA (.slice 5 1 f (some (.int .i64 11)) (some g)) fun i=>a5Q e h2 d f g i
def b7f(e:a7):Reg:=xA (wE .eql (e 46) (.int .i64 4)) fun a=>xA (wB a) fun b=>xC (e.upd 60 b)
def c3b(e:a7):Reg:=xA (wB (e 0)) fun a=>xA (wI 1 a (.int .i64 6)) fun b=>xA (wA none b) fun c=>xA (wO .i64 c) fun d=>xA (wC 4 (e 9)) fun f=>xA (wF 1 f d) fun _=>xC e
def c0s(e:a7):Reg:=xA (wA (some 5) (e 9)) fun a=>xA (wB (e 8)) fun b=>xA (wF 5 (e 4) a) fun _=>xA (wB b) fun c=>xA (wB (.int .i64 0)) fun d=>xC ((e.upd 5 c).upd 6 d)
def R71:=an (ro d7j.eq_1)<|an (ro d7h.eq_1)<|an (ro c8P.eq_1)<|an (ro d4F.eq_1)<|an (S9 a7J.eq_1)<|an (ro d1d.eq_1)<|an (ro c9B.eq_1)<|an (ro d4O.eq_1)<|an (N8 a7U.eq_1)<|an (ro d2O.eq_1)<|an (ro d1w.eq_1)<|an (ro c7V.eq_1)<|an (ro c2A.eq_1)<|an (ro1 a6p.eq_1)<|an (ro5 a5Q.eq_1)<|an (ro c2h.eq_1)<|an (ro b7f.eq_1)<|an (ro c3b.eq_1)<|ro c0s.eq_1
def c71:CFn:=⟨(.seq (.region d7j) (.seq (.seq (.region d7h) (.seq (.region c8P) (.cond (fun e=>e 14) (.seq (.region d4F) .ret) .skip))) (.seq (.seq (.region d1d) (.cond (fun e=>e 29) (.seq (.region c9B) .ret) .skip)) (.seq (.region d4O) (.seq (.region d2O) (.seq (.seq (.region d1w) (.block 0 (.seq (.seq (.region c7V) (.cond (fun e=>e 47) .skip (.region c2A))) (.cond (fun e=>e 47) (.region c2h) (.seq (.region b7f) (.cond (fun e=>e 60) (.region c3b) .skip)))))) (.seq (.region c0s) .ret))))))),[.c 4 (some 5),.t 5,.t 6]⟩
def p71:Pers:=⟨10,[14,29,46,47,60],69,[]⟩
def c8O(e:a7):Reg:=xA (wB (.int .i64 0)) fun a=>xA (wB (.bool false)) fun b=>xC ((e.upd 4 a).upd 5 b)
def c7j(e:a7):Reg:=xA (wB (e 0)) fun a=>xA (wO .u64 a) fun b=>xA (wB (e 1)) fun c=>xA (wO .u64 c) fun d=>xA (wD 85 [b,d]) fun f=>xA (wB f) fun g=>xA (wG g 0) fun i=>xA (wG g 1) fun j=>xA (wB i) fun k=>xA (wB j) fun m=>xC ((e.upd 6 k).upd 7 m)
def d7I(e:a7):Reg:=xA (wB (e 6)) fun a=>xA (wO .i64 a) fun b=>xA (wB b) fun c=>xC (e.upd 8 c)
def d7s(e:a7):Reg:=xA (wB (e 0)) fun a=>xA (wE .lss a (.int .i64 0)) fun b=>xC (e.upd 20 b)
def c9T(e:a7):Reg:=xA (wB (e 8)) fun a=>xA (wB (e 1)) fun b=>xA (wE .sub a b) fun c=>xA (wB c) fun d=>xC (e.upd 8 d)
def d6f(e:a7):Reg:=xA (wB (e 1)) fun a=>xA (wE .lss a (.int .i64 0)) fun b=>xC (e.upd 25 b)
def d0v(e:a7):Reg:=xA (wB (e 8)) fun a=>xA (wB (e 0)) fun b=>xA (wE .sub a b) fun c=>xA (wB c) fun d=>xC (e.upd 8 d)
def d6j(e:a7):Reg:=xA (wB (e 7)) fun a=>xA (wO .i64 a) fun b=>xA (wB (e 8)) fun c=>xA (wB (e 7)) fun d=>xA (wO .i64 d) fun f=>xA (wE .shr f (.int .u64 63)) fun g=>xA (wE .eql c g) fun i=>xA (wB b) fun j=>xA (wB i) fun k=>xC ((e.upd 4 j).upd 5 k)
def R72:=an (ro c8O.eq_1)<|an (ro c7j.eq_1)<|an (ro d7I.eq_1)<|an (ro d7s.eq_1)<|an (ro c9T.eq_1)<|an (ro d6f.eq_1)<|an (ro d0v.eq_1)<|ro d6j.eq_1
def c72:CFn:=⟨(.seq (.region c8O) (.seq (.region c7j) (.seq (.region d7I) (.seq (.seq (.region d7s) (.cond (fun e=>e 20) (.region c9T) .skip)) (.seq (.seq (.region d6f) (.cond (fun e=>e 25) (.region d0v) .skip)) (.seq (.region d6j) .ret)))))),[.t 4,.t 5]⟩
def p72:Pers:=⟨9,[20,25],36,[]⟩
def d2p(e:a7):Reg:=xA (wB (.int .i64 0)) fun a=>xC (e.upd 4 a)
def d1F(e:a7):Reg:=xA (wB (e 0)) fun a=>xA (wE .lss a (.int .i64 0)) fun b=>xA (wB b) fun c=>xB c false (wB (e 1)) fun d=>xB c false (wE .lss d (.int .i64 1)) fun f=>xA (wK c (.bool true) f) fun g=>xC (e.upd 11 g)
def c8J(e:a7):Reg:=xA (wB (.int .i64 0)) fun a=>xC (e.upd 4 a)
def d3K(e:a7):Reg:=xA (wB (e 0)) fun a=>xA (wB (e 1)) fun b=>xA (wE .quo a b) fun c=>xA (wB c) fun d=>xC (e.upd 5 d)
def d2C(e:a7):Reg:=xA (wB (e 0)) fun a=>xA (wB (e 1)) fun b=>xA (wE .rem a b) fun c=>xA (wE .gtr c (.int .i64 0)) fun d=>xC (e.upd 18 d)
def d6z(e:a7):Reg:=xA (wB (e 5)) fun a=>xA (wE .add a (.int .i64 1)) fun b=>xA (wB b) fun c=>xC (e.upd 5 c)
def d6L(e:a7):Reg:=xA (wB (e 5)) fun a=>xA (wB a) fun b=>xC (e.upd 4 b)
def R73:=an (ro d2p.eq_1)<|an (ro d1F.eq_1)<|an (ro c8J.eq_1)<|an (ro d3K.eq_1)<|an (ro d2C.eq_1)<|an (ro d6z.eq_1)<|ro d6L.eq_1
def c73:CFn:=⟨(.seq (.region d2p) (.seq (.seq (.region d1F) (.cond (fun e=>e 11) (.seq (.region c8J) .ret) .skip)) (.seq (.region d3K) (.seq (.seq (.region d2C) (.cond (fun e=>e 18) (.region d6z) .skip)) (.seq (.region d6L) .ret))))),[.t 4]⟩
def p73:Pers:=⟨6,[11,18],22,[]⟩
def d3W(e:a7):Reg:=xA (wN 61 (e 0)) fun a=>xA (wB (.int .i64 0)) fun b=>xC ((e.upd 2 a).upd 4 b)
def d6c(e:a7):Reg:=xA (wC 0 (e 2)) fun a=>xA (wA none a) fun b=>xC (e.upd 6 b)
def c7x(e:a7):Reg:=xA (wE .eql (e 6) (.int .i64 3)) fun a=>xA (wB a) fun b=>xC (e.upd 7 b)
def c7J(e:a7):Reg:=xA (wB (.int .i64 46)) fun a=>xC (e.upd 4 a)
def d4Y(e:a7):Reg:=xA (wE .eql (e 6) (.int .i64 4)) fun a=>xA (wB a) fun b=>xC (e.upd 9 b)
def d4x(e:a7):Reg:=xA (wC 4 (e 2)) fun a=>xA (wA none a) fun b=>xA (.minmax true [b,(.int .i64 1)]) fun c=>xA (wB (e 1)) fun d=>xA (.minmax false [c,d]) fun f=>xA (wE .mul f (.int .i64 81)) fun g=>xA (wE .add (.int .i64 7) g) fun i=>xA (wB i) fun j=>xC (e.upd 4 j)
def d5e(e:a7):Reg:=xA (wB (.int .i64 22)) fun a=>xC (e.upd 4 a)
def R74:=an (ro d3W.eq_1)<|an (ro d6c.eq_1)<|an (ro c7x.eq_1)<|an (ro c7J.eq_1)<|an (ro d4Y.eq_1)<|an (ro d4x.eq_1)<|ro d5e.eq_1
def c74:CFn:=⟨(.seq (.region d3W) (.seq (.seq (.region d6c) (.block 0 (.seq (.region c7x) (.cond (fun e=>e 7) (.seq (.region c7J) .ret) (.seq (.region d4Y) (.cond (fun e=>e 9) (.seq (.region d4x) .ret) .skip)))))) (.seq (.region d5e) .ret))),[.t 4]⟩
def p74:Pers:=⟨5,[6,7,9],18,[]⟩
def d6B(e:a7):Reg:=xA (wB (.int .i64 0)) fun a=>xC (e.upd 2 a)
def d7u(e:a7):Reg:=xA (wB (e 0)) fun a=>xA (wB a) fun b=>xC (e.upd 2 b)
def R75:=an (ro d6B.eq_1)<|ro d7u.eq_1
def c75:CFn:=⟨(.seq (.region d6B) (.seq (.region d7u) .ret)),[.t 2]⟩
def p75:Pers:=⟨3,[],4,[]⟩
def c8E(e:a7):Reg:=xA (wN 34 (e 0)) fun a=>xA (wB (.int .i64 0)) fun b=>xC ((e.upd 1 a).upd 2 b)
def a8G(e:a7)(h2 h4 h8:Heap)(a:Value):Reg:=xA (wC 5 (e 1)) fun b=>xA (wA none b) fun c=>xE none (some h8) (wA none b) c<|xE none (some h4) (wA none b) c<|xE none (some h2) (wA none b) c<|xA (wE .add c (.int .i64 1)) fun d=>xA (wE .mul (.int .i64 24) d) fun f=>xA (wE .add a f) fun g=>xA (wB g) fun i=>xC (e.upd 2 i)
def a8U(e:a7)(h2:Heap)(a:Value)(h4:Heap)(b:Value):Reg:=xA (wE .add a b) fun c=>xA (wC 7 (e 1)) fun d=>xA (wA none d) fun f=>xE none (some h4) (wA none d) f<|xE none (some h2) (wA none d) f<|xD fun h8=>xA (wD 88 [f]) fun g=>xA (wE .add c g) fun i=>a8G e h2 h4 h8 i
def c8l(e:a7):Reg:=xA (wC 4 (e 1)) fun a=>xA (wA none a) fun b=>xD fun h2=>xA (wD 86 [b]) fun c=>xA (wA (some 9) (e 1)) fun d=>xE none (some h2) (wA (some 9) (e 1)) d<|xD fun h4=>xA (wD 87 [d]) fun f=>a8U e h2 c h4 f
def R76:=an (ro c8E.eq_1)<|an (ro4 a8G.eq_1)<|an (ro4 a8U.eq_1)<|ro c8l.eq_1
def c76:CFn:=⟨(.seq (.region c8E) (.seq (.region c8l) .ret)),[.t 2]⟩
def p76:Pers:=⟨3,[],18,[]⟩
def d6R(e:a7):Reg:=xA (wB (.pointer none)) fun a=>xC (e.upd 2 a)
def c9t(e:a7):Reg:=xA (wB (e 0)) fun a=>xA (wE .lss a (.int .i64 1)) fun b=>xA (wB b) fun c=>xB c false (wB (e 0)) fun d=>xB c false (wE .gtr d (.int .i64 65536)) fun f=>xA (wK c (.bool true) f) fun g=>xC (e.upd 8 g)
def d2c(e:a7):Reg:=xA (wB (.pointer none)) fun a=>xC (e.upd 2 a)
def d4J(e:a7):Reg:=xA (wB (e 0)) fun a=>xA (.makeSlice 5 1 1 [(.int .u8 0)] a a) fun b=>xA (wM [(.slice none 0 0),(.int .i64 0),(.int .i64 0)] [(0,1,b)]) fun c=>xA (wN 188 c) fun d=>xA (wB d) fun f=>xC (e.upd 2 f)
def R77:=an (ro d6R.eq_1)<|an (ro c9t.eq_1)<|an (ro d2c.eq_1)<|ro d4J.eq_1
def c77:CFn:=⟨(.seq (.region d6R) (.seq (.seq (.region c9t) (.cond (fun e=>e 8) (.seq (.region d2c) .ret) .skip)) (.seq (.region d4J) .ret))),[.t 2]⟩
def p77:Pers:=⟨3,[8],13,[]⟩
def c9o(e:a7):Reg:=xA (wB (.slice none 0 0)) fun a=>xC (e.upd 4 a)
def d1O(e:a7):Reg:=xA (wB (.slice none 0 0)) fun a=>xC (e.upd 5 a)
def d0o(e:a7):Reg:=xA (wB (e 1)) fun a=>xA (.minmax true [a,(.int .i64 0)]) fun b=>xA (.minmax false [b,(.int .i64 9)]) fun c=>xA (wB (.int .i64 0)) fun d=>xC ((e.upd 9 c).upd 10 d)
def d5J(e:a7):Reg:=xA (wE .lss (e 10) (e 9)) fun a=>xC (e.upd 11 a)
def d7t(e:a7):Reg:=xA (wB (e 10)) fun a=>xA (wB a) fun b=>xC (e.upd 6 b)
def a7K(e:a7)(a b c d:Value):Reg:=xA (wM [(.int .u64 0),(.int .u64 0),(.int .u64 0)] [(0,1,b),(1,1,c),(2,1,d)]) fun f=>xA (.buildSlice 182 1 [(.int .u64 0),(.int .u64 0),(.int .u64 0)] [(0,3,f)]) fun g=>xA (.append 182 3 24 a g) fun i=>xA (wB i) fun j=>xC (e.upd 5 j)
def a8I(e:a7)(a b c d:Value):Reg:=xA (wE .add d (.int .i64 1)) fun f=>xA (wD 89 [c,f]) fun g=>xA (wB (e 0)) fun i=>xA (wB (e 6)) fun j=>xA (wE .mul (.int .i64 3) j) fun k=>xA (wE .add k (.int .i64 2)) fun m=>xA (wD 91 [i,m]) fun n=>xA (wD 90 [n]) fun o=>a7K e a b g o
def d4Q(e:a7):Reg:=xA (wB (e 5)) fun a=>xA (wB (e 0)) fun b=>xA (wB (e 6)) fun c=>xA (wE .mul (.int .i64 3) c) fun d=>xA (wD 89 [b,d]) fun f=>xA (wB (e 0)) fun g=>xA (wB (e 6)) fun i=>xA (wE .mul (.int .i64 3) i) fun j=>a8I e a f g j
def d3X(e:a7):Reg:=xA (wE .add (e 10) (.int .i64 1)) fun a=>xA (wB a) fun b=>xC (e.upd 10 b)
def b0L:CC:=(.seq (.region d5J) (.seq (.cond (fun e=>e 11) .skip (.exit 0)) (.seq (.block 1 (.seq (.region d7t) (.region d4Q))) (.region d3X))))
def c8c(e:a7):Reg:=xA (wB (e 5)) fun a=>xA (wB a) fun b=>xC (e.upd 4 b)
def R78:=an (ro c9o.eq_1)<|an (ro d1O.eq_1)<|an (ro d0o.eq_1)<|an (ro d5J.eq_1)<|an (ro d7t.eq_1)<|an (ro4 a7K.eq_1)<|an (ro4 a8I.eq_1)<|an (ro d4Q.eq_1)<|an (ro d3X.eq_1)<|ro c8c.eq_1
def c78:CFn:=⟨(.seq (.region c9o) (.seq (.region d1O) (.seq (.seq (.region d0o) (.block 0 (.loop b0L))) (.seq (.region c8c) .ret)))),[.t 4]⟩
def p78:Pers:=⟨7,[9,10,11],34,[]⟩
def c8Z(e:a7):Reg:=xA (wN 34 (e 0)) fun a=>xA (wH 126 [(.int .i64 0),(.int .i64 0),(.int .i64 0),(.int .i64 0)]) fun b=>xC ((e.upd 1 a).upd 2 b)
def a9G(e:a7)(h8:Heap)(a b c:Value):Reg:=xA (wC 0 (e 1)) fun d=>xA (wA none d) fun f=>xE none (some h8) (wA none d) f<|xA (wM [(.int .i64 0),(.int .i64 0),(.int .i64 0),(.int .i64 0)] [(0,1,a),(1,1,b),(2,1,c),(3,1,f)]) fun g=>xD fun h16=>xA (wF 4 (e 2) g) fun _=>xC e
def a8g(e:a7)(a b:Value):Reg:=xD fun h8=>xA (wD 73 [a,b]) fun c=>xA (wC 1 (e 1)) fun d=>xA (wA none d) fun f=>xE none (some h8) (wA none d) f<|xA (wC 2 (e 1)) fun g=>xA (wA none g) fun i=>xE none (some h8) (wA none g) i<|a9G e h8 c f i
def d0T(e:a7):Reg:=xA (wC 1 (e 1)) fun a=>xA (wA none a) fun b=>xA (wC 0 (e 1)) fun c=>xA (wA none c) fun d=>xA (wE .add d (.int .i64 1)) fun f=>xA (wC 2 (e 1)) fun g=>xA (wA none g) fun i=>xA (wE .sub f i) fun j=>a8g e b j
def R79:=an (ro c8Z.eq_1)<|an (ro4 a9G.eq_1)<|an (N8 a8g.eq_1)<|ro d0T.eq_1
def c79:CFn:=⟨(.seq (.region c8Z) (.seq (.region d0T) .ret)),[.c 2 (some 4)]⟩
def p79:Pers:=⟨3,[],19,[]⟩
def c7h(e:a7):Reg:=xA (wN 182 (e 1)) fun a=>xA (wB (.pointer none)) fun b=>xC ((e.upd 3 a).upd 4 b)
def d2X(e:a7):Reg:=xA (wB (e 0)) fun a=>xA (wE .lss a (.int .i64 1)) fun b=>xA (wB b) fun c=>xB c false (wB (e 0)) fun d=>xB c false (wE .gtr d (.int .i64 1024)) fun f=>xA (wK c (.bool true) f) fun g=>xC (e.upd 11 g)
def d3G(e:a7):Reg:=xA (wB (.pointer none)) fun a=>xC (e.upd 4 a)
def d3B(e:a7):Reg:=xA (wB (e 0)) fun a=>xD fun h1=>xA (wD 92 [a]) fun b=>xA (wB (e 0)) fun c=>xA (.makeSlice 250 4 32 [(.int .i64 0),(.int .i64 0),(.int .i64 0),(.int .i64 0)] c c) fun d=>xA (wM [(.pointer none),(.pointer none),(.slice none 0 0)] [(0,1,b),(2,1,d)]) fun f=>xA (wN 165 f) fun g=>xA (wB g) fun i=>xC (e.upd 5 i)
def a9I(e:a7)(a b:Value):Reg:=xA (wJ a) fun c=>xA (wC 1 c) fun d=>xD fun h9=>xA (wF 1 d b) fun _=>xC e
def c7Q(e:a7):Reg:=xA (wB (e 5)) fun a=>xA (wB (e 5)) fun b=>xA (wJ b) fun c=>xA (wC 0 c) fun d=>xA (wA none d) fun f=>xA (wA (some 3) (e 3)) fun g=>xD fun h6=>xA (wD 93 [f,g]) fun i=>a9I e a i
def d0d(e:a7):Reg:=xA (wB (e 5)) fun a=>xA (wB a) fun b=>xC (e.upd 4 b)
def R80:=an (ro c7h.eq_1)<|an (ro d2X.eq_1)<|an (ro d3G.eq_1)<|an (ro d3B.eq_1)<|an (N8 a9I.eq_1)<|an (ro c7Q.eq_1)<|ro d0d.eq_1
def c80:CFn:=⟨(.seq (.region c7h) (.seq (.seq (.region d2X) (.cond (fun e=>e 11) (.seq (.region d3G) .ret) .skip)) (.seq (.region d3B) (.seq (.region c7Q) (.seq (.region d0d) .ret))))),[.t 4]⟩
def p80:Pers:=⟨6,[11],28,[]⟩
def d7a(e:a7):Reg:=xA (wN 34 (e 0)) fun a=>xA (wB (.pointer none)) fun b=>xC ((e.upd 2 a).upd 4 b)
def a7O(e:a7)(a:Value):Reg:=xA (wB a) fun b=>xB b false (wB (e 1)) fun c=>xB b false (wL c) fun d=>xB b false (wE .eql d (.int .i64 0)) fun f=>xA (wK b (.bool true) f) fun g=>xA (wB g) fun i=>xB i false (wC 6 (e 2)) fun j=>xB i false (wA none j) fun k=>xB i false (wE .lss k (.int .i64 1)) fun m=>xA (wK i (.bool true) m) fun n=>xC (e.upd 32 n)
def a7T(e:a7)(a:Value):Reg:=xA (wB a) fun b=>xB b false (wC 1 (e 2)) fun c=>xB b false (wA none c) fun d=>xB b false (wC 3 (e 2)) fun f=>xB b false (wA none f) fun g=>xB b false (wE .quo d g) fun i=>xB b false (wE .lss i (.int .i64 1)) fun j=>xA (wK b (.bool true) j) fun k=>a7O e k
def d5K(e:a7):Reg:=xA (wC 3 (e 2)) fun a=>xA (wA none a) fun b=>xA (wE .lss b (.int .i64 1)) fun c=>xA (wB c) fun d=>xB d false (wC 3 (e 2)) fun f=>xB d false (wA none f) fun g=>xB d false (wE .gtr g (.int .i64 64)) fun i=>xA (wK d (.bool true) i) fun j=>a7T e j
def c9C(e:a7):Reg:=xA (wB (.pointer none)) fun a=>xC (e.upd 4 a)
def a8C(e:a7)(a b c d f:Value):Reg:=xA (wA none f) fun g=>xA (wC 8 (e 2)) fun i=>xA (wA none i) fun j=>xA (wM [(.slice none 0 0),(.slice none 0 0),(.int .i64 0),(.int .i64 0),(.int .i64 0),(.bool false),(.int .i64 0)] [(0,1,a),(1,1,b),(2,1,c),(3,1,d),(4,1,g),(5,1,j)]) fun k=>xA (wN 201 k) fun m=>xA (wB m) fun n=>xC (e.upd 5 n)
def a8L(e:a7)(a b:Value):Reg:=xA (wC 1 (e 2)) fun c=>xA (wA none c) fun d=>xA (wC 3 (e 2)) fun f=>xA (wA none f) fun g=>xA (wE .quo d g) fun i=>xA (wB (e 1)) fun j=>xA (wL j) fun k=>xA (wC 0 (e 2)) fun m=>a8C e a b i k m
def d6r(e:a7):Reg:=xA (wC 3 (e 2)) fun a=>xA (wA none a) fun b=>xA (wE .add b (.int .i64 1)) fun c=>xA (.makeSlice 202 1 8 [(.pointer none)] c c) fun d=>xA (wC 3 (e 2)) fun f=>xA (wA none f) fun g=>xA (wE .add g (.int .i64 1)) fun i=>xA (.makeSlice 2 1 8 [(.int .i64 0)] i i) fun j=>a8L e d j
def c9w(e:a7):Reg:=xA (wB (e 5)) fun a=>xA (wJ a) fun b=>xA (wC 0 b) fun c=>xA (wA none c) fun d=>xA (wL d) fun f=>xA (wB (.int .i64 0)) fun g=>xC ((e.upd 58 f).upd 59 g)
def d0X(e:a7):Reg:=xA (wE .lss (e 59) (e 58)) fun a=>xC (e.upd 60 a)
def c7T(e:a7):Reg:=xA (wB (e 59)) fun a=>xA (wB a) fun b=>xC (e.upd 6 b)
def a8T(e:a7)(a b c d f:Value):Reg:=xD fun h8=>xA (wD 94 [d,f]) fun g=>xE none none (wA none a) b<|xA (wI 1 b c) fun i=>xD fun h10=>xA (wF 1 i g) fun _=>xC e
def d3I(e:a7):Reg:=xA (wB (e 5)) fun a=>xA (wJ a) fun b=>xA (wC 0 b) fun c=>xA (wA none c) fun d=>xA (wB (e 6)) fun f=>xA (wB (e 1)) fun g=>xA (wC 6 (e 2)) fun i=>xA (wA none i) fun j=>a8T e c d f g j
def d2A(e:a7):Reg:=xA (wE .add (e 59) (.int .i64 1)) fun a=>xA (wB a) fun b=>xC (e.upd 59 b)
def a9N:CC:=(.seq (.region d0X) (.seq (.cond (fun e=>e 60) .skip (.exit 0)) (.seq (.block 1 (.seq (.region c7T) (.region d3I))) (.region d2A))))
def c7p(e:a7):Reg:=xA (wB (e 5)) fun a=>xA (wB a) fun b=>xC (e.upd 4 b)
def R81:=an (ro d7a.eq_1)<|an (ro1 a7O.eq_1)<|an (ro1 a7T.eq_1)<|an (ro d5K.eq_1)<|an (ro c9C.eq_1)<|an (ro5 a8C.eq_1)<|an (N8 a8L.eq_1)<|an (ro d6r.eq_1)<|an (ro c9w.eq_1)<|an (ro d0X.eq_1)<|an (ro c7T.eq_1)<|an (ro5 a8T.eq_1)<|an (ro d3I.eq_1)<|an (ro d2A.eq_1)<|ro c7p.eq_1
def c81:CFn:=⟨(.seq (.region d7a) (.seq (.seq (.region d5K) (.cond (fun e=>e 32) (.seq (.region c9C) .ret) .skip)) (.seq (.region d6r) (.seq (.seq (.region c9w) (.block 0 (.loop a9N))) (.seq (.region c7p) .ret))))),[.t 4]⟩
def p81:Pers:=⟨7,[32,58,59,60],74,[]⟩
def d0s(e:a7):Reg:=xA (wN 182 (e 1)) fun a=>xA (wB (.pointer none)) fun b=>xC ((e.upd 3 a).upd 4 b)
def d5r(e:a7):Reg:=xA (wB (e 0)) fun a=>xA (wE .lss a (.int .i64 1)) fun b=>xA (wB b) fun c=>xB c false (wB (e 0)) fun d=>xB c false (wE .gtr d (.int .i64 64)) fun f=>xA (wK c (.bool true) f) fun g=>xC (e.upd 11 g)
def d6x(e:a7):Reg:=xA (wB (.pointer none)) fun a=>xC (e.upd 4 a)
def a9D(e:a7)(a b c d:Value):Reg:=xA (.makeSlice 21 1 4 [(.int .i32 0)] d d) fun f=>xA (wB (e 0)) fun g=>xA (.makeSlice 21 1 4 [(.int .i32 0)] g g) fun i=>xA (wM [(.pointer none),(.pointer none),(.slice none 0 0),(.slice none 0 0),(.slice none 0 0),(.slice none 0 0),(.int .i64 0)] [(0,1,a),(2,1,b),(3,1,c),(4,1,f),(5,1,i)]) fun j=>xA (wN 169 j) fun k=>xA (wB k) fun m=>xC (e.upd 5 m)
def d2I(e:a7):Reg:=xA (wB (e 0)) fun a=>xD fun h1=>xA (wD 92 [a]) fun b=>xA (wB (e 0)) fun c=>xA (.makeSlice 2 1 8 [(.int .i64 0)] c c) fun d=>xA (wB (e 0)) fun f=>xA (.makeSlice 2 1 8 [(.int .i64 0)] f f) fun g=>xA (wB (e 0)) fun i=>a9D e b d g i
def a9A(e:a7)(a b:Value):Reg:=xA (wJ a) fun c=>xA (wC 1 c) fun d=>xD fun h9=>xA (wF 1 d b) fun _=>xC e
def d5s(e:a7):Reg:=xA (wB (e 5)) fun a=>xA (wB (e 5)) fun b=>xA (wJ b) fun c=>xA (wC 0 c) fun d=>xA (wA none d) fun f=>xA (wA (some 3) (e 3)) fun g=>xD fun h6=>xA (wD 93 [f,g]) fun i=>a9A e a i
def d2y(e:a7):Reg:=xA (wB (e 5)) fun a=>xA (wB a) fun b=>xC (e.upd 4 b)
def R82:=an (ro d0s.eq_1)<|an (ro d5r.eq_1)<|an (ro d6x.eq_1)<|an (ro4 a9D.eq_1)<|an (ro d2I.eq_1)<|an (N8 a9A.eq_1)<|an (ro d5s.eq_1)<|ro d2y.eq_1
def c82:CFn:=⟨(.seq (.region d0s) (.seq (.seq (.region d5r) (.cond (fun e=>e 11) (.seq (.region d6x) .ret) .skip)) (.seq (.region d2I) (.seq (.region d5s) (.seq (.region d2y) .ret))))),[.t 4]⟩
def p82:Pers:=⟨6,[11],34,[]⟩
def d5t(e:a7):Reg:=xA (wB (.int .i64 0)) fun a=>xC (e.upd 2 a)
def c8g(e:a7):Reg:=xA (wB (e 0)) fun a=>xA (.eqK .ptr false a (.pointer none)) fun b=>xC (e.upd 4 b)
def d6g(e:a7):Reg:=xA (wB (.int .i64 0)) fun a=>xC (e.upd 2 a)
def d0e(e:a7):Reg:=xA (wB (e 0)) fun a=>xA (wJ a) fun b=>xA (wC 2 b) fun c=>xA (wA none c) fun d=>xA (wB d) fun f=>xC (e.upd 2 f)
def R83:=an (ro d5t.eq_1)<|an (ro c8g.eq_1)<|an (ro d6g.eq_1)<|ro d0e.eq_1
def c83:CFn:=⟨(.seq (.region d5t) (.seq (.seq (.region c8g) (.cond (fun e=>e 4) (.seq (.region d6g) .ret) .skip)) (.seq (.region d0e) .ret))),[.t 2]⟩
def p83:Pers:=⟨3,[4],9,[]⟩
def d7k(e:a7):Reg:=xA (wB (.int .i64 0)) fun a=>xC (e.upd 4 a)
def d2W(e:a7):Reg:=xA (wB (e 0)) fun a=>xA (wL a) fun b=>xA (wB (.int .i64 0)) fun c=>xC (((e.upd 8 a).upd 9 b).upd 10 c)
def d6P(e:a7):Reg:=xA (wE .lss (e 10) (e 9)) fun a=>xC (e.upd 11 a)
def d1y(e:a7):Reg:=xA (wB (e 10)) fun a=>xA (wI 1 (e 8) (e 10)) fun b=>xA (wA none b) fun c=>xA (wB a) fun d=>xA (wB c) fun f=>xC ((e.upd 5 d).upd 6 f)
def a8e(e:a7)(a b c:Value):Reg:=xB a true (wE .add (.int .i64 4) c) fun d=>xB a true (wE .geq b d) fun f=>xA (wK a f (.bool false)) fun g=>xC (e.upd 25 g)
def d3L(e:a7):Reg:=xA (wB (e 5)) fun a=>xA (wE .geq a (.int .i64 4)) fun b=>xA (wB b) fun c=>xB c true (wB (e 5)) fun d=>xB c true (wB (e 0)) fun f=>xB c true (wI 1 f (.int .i64 3)) fun g=>xB c true (wA none g) fun i=>xB c true (wO .i64 i) fun j=>a8e e c d j
def d2K(e:a7):Reg:=xA (wB (e 0)) fun a=>xA (wB (e 5)) fun b=>xA (wB (e 6)) fun c=>xA (wB (e 1)) fun d=>xA (wD 95 [a,b,c,d]) fun f=>xA (wB f) fun g=>xC (e.upd 7 g)
def c9L(e:a7):Reg:=xA (wB (e 7)) fun a=>xA (wE .neq a (.int .i64 0)) fun b=>xC (e.upd 32 b)
def d2B(e:a7):Reg:=xA (wB (e 7)) fun a=>xA (wB a) fun b=>xC (e.upd 4 b)
def c9i(e:a7):Reg:=xA (wE .add (e 10) (.int .i64 1)) fun a=>xA (wB a) fun b=>xC (e.upd 10 b)
def a0E:CC:=(.seq (.region d6P) (.seq (.cond (fun e=>e 11) .skip (.exit 0)) (.seq (.block 1 (.seq (.region d1y) (.seq (.seq (.region d3L) (.cond (fun e=>e 25) (.exit 0) .skip)) (.seq (.region d2K) (.seq (.region c9L) (.cond (fun e=>e 32) (.seq (.region d2B) .ret) .skip)))))) (.region c9i))))
def d4a(e:a7):Reg:=xA (wB (.int .i64 0)) fun a=>xC (e.upd 4 a)
def R84:=an (ro d7k.eq_1)<|an (ro d2W.eq_1)<|an (ro d6P.eq_1)<|an (ro d1y.eq_1)<|an (S9 a8e.eq_1)<|an (ro d3L.eq_1)<|an (ro d2K.eq_1)<|an (ro c9L.eq_1)<|an (ro d2B.eq_1)<|an (ro c9i.eq_1)<|ro d4a.eq_1
def c84:CFn:=⟨(.seq (.region d7k) (.seq (.seq (.region d2W) (.block 0 (.loop a0E))) (.seq (.region d4a) .ret))),[.t 4]⟩
def p84:Pers:=⟨8,[8,9,10,11,25,32],35,[]⟩
def c7s(e:a7):Reg:=xA (wB (.int .u64 0)) fun a=>xA (wB (.int .u64 0)) fun b=>xC ((e.upd 4 a).upd 5 b)
def d2R(e:a7):Reg:=xA (wB (e 0)) fun a=>xA (wE .and a (.int .u64 4294967295)) fun b=>xA (wB b) fun c=>xC (e.upd 6 c)
def d4H(e:a7):Reg:=xA (wB (e 0)) fun a=>xA (wE .shr a (.int .u64 32)) fun b=>xA (wB b) fun c=>xC (e.upd 7 c)
def d0V(e:a7):Reg:=xA (wB (e 1)) fun a=>xA (wE .and a (.int .u64 4294967295)) fun b=>xA (wB b) fun c=>xC (e.upd 8 c)
def c7i(e:a7):Reg:=xA (wB (e 1)) fun a=>xA (wE .shr a (.int .u64 32)) fun b=>xA (wB b) fun c=>xC (e.upd 9 c)
def d6n(e:a7):Reg:=xA (wB (e 6)) fun a=>xA (wB (e 8)) fun b=>xA (wE .mul a b) fun c=>xA (wB c) fun d=>xC (e.upd 10 d)
def c8V(e:a7):Reg:=xA (wB (e 7)) fun a=>xA (wB (e 8)) fun b=>xA (wE .mul a b) fun c=>xA (wB (e 10)) fun d=>xA (wE .shr d (.int .u64 32)) fun f=>xA (wE .add c f) fun g=>xA (wB g) fun i=>xC (e.upd 11 i)
def c9d(e:a7):Reg:=xA (wB (e 11)) fun a=>xA (wE .and a (.int .u64 4294967295)) fun b=>xA (wB b) fun c=>xC (e.upd 12 c)
def d2m(e:a7):Reg:=xA (wB (e 11)) fun a=>xA (wE .shr a (.int .u64 32)) fun b=>xA (wB b) fun c=>xC (e.upd 13 c)
def c7E(e:a7):Reg:=xA (wB (e 12)) fun a=>xA (wB (e 6)) fun b=>xA (wB (e 9)) fun c=>xA (wE .mul b c) fun d=>xA (wE .add a d) fun f=>xA (wB f) fun g=>xC (e.upd 12 g)
def b8q(e:a7):Reg:=xA (wB (e 7)) fun a=>xA (wB (e 9)) fun b=>xA (wE .mul a b) fun c=>xA (wB (e 13)) fun d=>xA (wE .add c d) fun f=>xA (wB (e 12)) fun g=>xA (wE .shr g (.int .u64 32)) fun i=>xA (wE .add f i) fun j=>xA (wB j) fun k=>xC (e.upd 4 k)
def b5U(e:a7):Reg:=xA (wB (e 0)) fun a=>xA (wB (e 1)) fun b=>xA (wE .mul a b) fun c=>xA (wB c) fun d=>xC (e.upd 5 d)
def R85:=an (ro c7s.eq_1)<|an (ro d2R.eq_1)<|an (ro d4H.eq_1)<|an (ro d0V.eq_1)<|an (ro c7i.eq_1)<|an (ro d6n.eq_1)<|an (ro c8V.eq_1)<|an (ro c9d.eq_1)<|an (ro d2m.eq_1)<|an (ro c7E.eq_1)<|an (ro b8q.eq_1)<|ro b5U.eq_1
def c85:CFn:=⟨(.seq (.region c7s) (.seq (.region d2R) (.seq (.region d4H) (.seq (.region d0V) (.seq (.region c7i) (.seq (.region d6n) (.seq (.region c8V) (.seq (.region c9d) (.seq (.region d2m) (.seq (.region c7E) (.seq (.region b8q) (.seq (.region b5U) .ret)))))))))))),[.t 4,.t 5]⟩
def p85:Pers:=⟨14,[],51,[]⟩
def c7F(e:a7):Reg:=xA (wB (.int .i64 0)) fun a=>xC (e.upd 2 a)
def d2V(e:a7):Reg:=xA (wB (e 0)) fun a=>xA (wD 96 [a]) fun b=>xA (wB (e 0)) fun c=>xA (wD 97 [c]) fun d=>xA (wE .add b d) fun f=>xA (wB (e 0)) fun g=>xA (wE .mul (.int .i64 32) g) fun i=>xA (wE .add f i) fun j=>xA (wB j) fun k=>xC (e.upd 2 k)
def R86:=an (ro c7F.eq_1)<|ro d2V.eq_1
def c86:CFn:=⟨(.seq (.region c7F) (.seq (.region d2V) .ret)),[.t 2]⟩
def p86:Pers:=⟨3,[],11,[]⟩
def c9g(e:a7):Reg:=xA (wN 34 (e 0)) fun a=>xA (wB (.int .i64 0)) fun b=>xC ((e.upd 1 a).upd 2 b)
def d2a(e:a7):Reg:=xA (wC 3 (e 1)) fun a=>xA (wA none a) fun b=>xA (wE .add b (.int .i64 1)) fun c=>xA (wB c) fun d=>xC (e.upd 3 d)
def d2Q(e:a7):Reg:=xA (wB (e 3)) fun a=>xA (wC 5 (e 1)) fun b=>xA (wA none b) fun c=>xA (wC 6 (e 1)) fun d=>xA (wA none d) fun f=>xA (wD 98 [c,f]) fun g=>xA (wE .add (.int .i64 16) g) fun i=>xA (wE .mul a i) fun j=>xA (wB j) fun k=>xC (e.upd 2 k)
def R87:=an (ro c9g.eq_1)<|an (ro d2a.eq_1)<|ro d2Q.eq_1
def c87:CFn:=⟨(.seq (.region c9g) (.seq (.region d2a) (.seq (.region d2Q) .ret))),[.t 2]⟩
def p87:Pers:=⟨4,[],15,[]⟩
def d6Z(e:a7):Reg:=xA (wB (.int .i64 0)) fun a=>xC (e.upd 2 a)
def d3j(e:a7):Reg:=xA (wB (e 0)) fun a=>xA (wD 96 [a]) fun b=>xA (wB (e 0)) fun c=>xA (wD 97 [c]) fun d=>xA (wE .add b d) fun f=>xA (wB (e 0)) fun g=>xA (wE .mul g (.int .i64 24)) fun i=>xA (wE .add f i) fun j=>xA (wB j) fun k=>xC (e.upd 2 k)
def R88:=an (ro d6Z.eq_1)<|ro d3j.eq_1
def c88:CFn:=⟨(.seq (.region d6Z) (.seq (.region d3j) .ret)),[.t 2]⟩
def p88:Pers:=⟨3,[],11,[]⟩
def c7Y(e:a7):Reg:=xA (wB (.int .u64 0)) fun a=>xC (e.upd 4 a)
def d2F(e:a7):Reg:=xA (wB (e 0)) fun a=>xA (wB (e 1)) fun b=>xA (wD 91 [a,b]) fun c=>xA (wE .rem c (.int .u64 2305843009213693950)) fun d=>xA (wE .add d (.int .u64 1)) fun f=>xA (wB f) fun g=>xC (e.upd 4 g)
def R89:=an (ro c7Y.eq_1)<|ro d2F.eq_1
def c89:CFn:=⟨(.seq (.region c7Y) (.seq (.region d2F) .ret)),[.t 4]⟩
def p89:Pers:=⟨5,[],10,[]⟩
def d2u(e:a7):Reg:=xA (wB (.int .u64 0)) fun a=>xC (e.upd 2 a)
def d4C(e:a7):Reg:=xA (wB (e 0)) fun a=>xA (wE .shr a (.int .u64 61)) fun b=>xA (wB (e 0)) fun c=>xA (wE .and c (.int .u64 2305843009213693951)) fun d=>xA (wE .add b d) fun f=>xA (wB f) fun g=>xC (e.upd 0 g)
def d6s(e:a7):Reg:=xA (wB (e 0)) fun a=>xA (wE .geq a (.int .u64 2305843009213693951)) fun b=>xC (e.upd 9 b)
def d3a(e:a7):Reg:=xA (wB (e 0)) fun a=>xA (wE .sub a (.int .u64 2305843009213693951)) fun b=>xA (wB b) fun c=>xC (e.upd 0 c)
def d0j(e:a7):Reg:=xA (wB (e 0)) fun a=>xA (wB a) fun b=>xC (e.upd 2 b)
def R90:=an (ro d2u.eq_1)<|an (ro d4C.eq_1)<|an (ro d6s.eq_1)<|an (ro d3a.eq_1)<|ro d0j.eq_1
def c90:CFn:=⟨(.seq (.region d2u) (.seq (.region d4C) (.seq (.seq (.region d6s) (.cond (fun e=>e 9) (.region d3a) .skip)) (.seq (.region d0j) .ret)))),[.t 2]⟩
def p90:Pers:=⟨3,[9],13,[]⟩
def d1o(e:a7):Reg:=xA (wB (.int .u64 0)) fun a=>xC (e.upd 4 a)
def d7i(e:a7):Reg:=xA (wB (e 1)) fun a=>xA (wB (e 0)) fun b=>xA (wL b) fun c=>xA (wE .geq a c) fun d=>xC (e.upd 8 d)
def d0J(e:a7):Reg:=xA (wB (.int .u64 0)) fun a=>xC (e.upd 4 a)
def d7o(e:a7):Reg:=xA (wB (e 0)) fun a=>xA (wB (e 1)) fun b=>xA (wI 1 a b) fun c=>xA (wA none c) fun d=>xA (wB d) fun f=>xC (e.upd 4 f)
def R91:=an (ro d1o.eq_1)<|an (ro d7i.eq_1)<|an (ro d0J.eq_1)<|ro d7o.eq_1
def c91:CFn:=⟨(.seq (.region d1o) (.seq (.seq (.region d7i) (.cond (fun e=>e 8) (.seq (.region d0J) .ret) .skip)) (.seq (.region d7o) .ret))),[.t 4]⟩
def p91:Pers:=⟨5,[8],13,[]⟩
def d5E(e:a7):Reg:=xA (wB (.pointer none)) fun a=>xC (e.upd 2 a)
def c9m(e:a7):Reg:=xA (wB (e 0)) fun a=>xA (wE .lss a (.int .i64 0)) fun b=>xA (wB b) fun c=>xB c false (wB (e 0)) fun d=>xB c false (wE .gtr d (.int .i64 65536)) fun f=>xA (wK c (.bool true) f) fun g=>xC (e.upd 10 g)
def c8S(e:a7):Reg:=xA (wB (.pointer none)) fun a=>xC (e.upd 2 a)
def d3i(e:a7):Reg:=xA (wB (e 0)) fun a=>xA (wE .mul a (.int .i64 64)) fun b=>xA (.makeSlice 5 1 1 [(.int .u8 0)] b b) fun c=>xA (wB (e 0)) fun d=>xA (.makeSlice 206 1 1 [(.int .i8 0)] d d) fun f=>xA (wB (e 0)) fun g=>xA (.makeSlice 21 1 4 [(.int .i32 0)] g g) fun i=>xA (wM [(.slice none 0 0),(.slice none 0 0),(.slice none 0 0),(.int .i32 0),(.int .i64 0)] [(0,1,c),(1,1,f),(2,1,i),(3,1,(.int .i32 (-1)))]) fun j=>xA (wN 191 j) fun k=>xA (wB k) fun m=>xC (e.upd 3 m)
def d0B(e:a7):Reg:=xA (wB (e 0)) fun a=>xA (wE .sub a (.int .i64 1)) fun b=>xA (wB b) fun c=>xC (e.upd 4 c)
def c9r(e:a7):Reg:=xA (wB (e 4)) fun a=>xA (wE .geq a (.int .i64 0)) fun b=>xC (e.upd 23 b)
def a8y(e:a7)(a b c d:Value):Reg:=xA (wF 1 d (.int .i8 (-1))) fun _=>xA (wI 1 a b) fun f=>xD fun h17=>xA (wF 1 f c) fun _=>xC e
def a8K(e:a7)(a b c:Value):Reg:=xA (wA none c) fun d=>xA (wB (e 4)) fun f=>xA (wB (e 3)) fun g=>xA (wJ g) fun i=>xA (wC 3 i) fun j=>xA (wA none j) fun k=>xA (wI 1 a b) fun m=>xD fun h15=>a8y e d f k m
def c9V(e:a7):Reg:=xA (wB (e 3)) fun a=>xA (wJ a) fun b=>xA (wC 1 b) fun c=>xA (wA none c) fun d=>xA (wB (e 4)) fun f=>xA (wB (e 3)) fun g=>xA (wJ g) fun i=>xA (wC 2 i) fun j=>a8K e d f j
def d1t(e:a7):Reg:=xA (wB (e 3)) fun a=>xA (wB (e 4)) fun b=>xA (wO .i32 b) fun c=>xA (wJ a) fun d=>xA (wC 3 d) fun f=>xA (wF 1 f c) fun _=>xC e
def c9y(e:a7):Reg:=xA (wB (e 4)) fun a=>xA (wE .sub a (.int .i64 1)) fun b=>xA (wB b) fun c=>xC (e.upd 4 c)
def b0p:CC:=(.seq (.seq (.region c9r) (.cond (fun e=>e 23) .skip (.exit 0))) (.seq (.block 1 (.seq (.region c9V) (.region d1t))) (.region c9y)))
def c9H(e:a7):Reg:=xA (wB (e 3)) fun a=>xA (wB a) fun b=>xC (e.upd 2 b)
def R92:=an (ro d5E.eq_1)<|an (ro c9m.eq_1)<|an (ro c8S.eq_1)<|an (ro d3i.eq_1)<|an (ro d0B.eq_1)<|an (ro c9r.eq_1)<|an (ro4 a8y.eq_1)<|an (S9 a8K.eq_1)<|an (ro c9V.eq_1)<|an (ro d1t.eq_1)<|an (ro c9y.eq_1)<|ro c9H.eq_1
def c92:CFn:=⟨(.seq (.region d5E) (.seq (.seq (.region c9m) (.cond (fun e=>e 10) (.seq (.region c8S) .ret) .skip)) (.seq (.region d3i) (.seq (.seq (.region d0B) (.block 0 (.loop b0p))) (.seq (.region c9H) .ret))))),[.t 2]⟩
def p92:Pers:=⟨5,[10,23],48,[]⟩
def d1H(e:a7):Reg:=xA (wN 182 (e 1)) fun a=>xA (wB (.pointer none)) fun b=>xC ((e.upd 3 a).upd 4 b)
def d3k(e:a7):Reg:=xA (wB (e 0)) fun a=>xA (.eqK .ptr false a (.pointer none)) fun b=>xC (e.upd 6 b)
def d0Q(e:a7):Reg:=xA (wB (.pointer none)) fun a=>xC (e.upd 4 a)
def a7W(e:a7)(a b c:Value):Reg:=xE none none (wA (some 3) (e 3)) b<|xA (.makeSlice 21 1 4 [(.int .i32 0)] c c) fun d=>xA (wM [(.pointer none),(.int .u64 0),(.int .u64 0),(.int .u64 0),(.slice none 0 0)] [(0,1,a),(1,3,b),(4,1,d)]) fun f=>xA (wN 209 f) fun g=>xA (wB g) fun i=>xC (e.upd 4 i)
def d7g(e:a7):Reg:=xA (wB (e 0)) fun a=>xA (wA (some 3) (e 3)) fun b=>xA (wB (e 0)) fun c=>xD fun h3=>xA (wD 100 [c]) fun d=>xE none none (wA (some 3) (e 3)) b<|xD fun h4=>xA (wD 99 [d]) fun f=>a7W e a b f
def R93:=an (ro d1H.eq_1)<|an (ro d3k.eq_1)<|an (ro d0Q.eq_1)<|an (S9 a7W.eq_1)<|ro d7g.eq_1
def c93:CFn:=⟨(.seq (.region d1H) (.seq (.seq (.region d3k) (.cond (fun e=>e 6) (.seq (.region d0Q) .ret) .skip)) (.seq (.region d7g) .ret))),[.t 4]⟩
def p93:Pers:=⟨5,[6],15,[]⟩
def d6k(e:a7):Reg:=xA (wB (.pointer none)) fun a=>xC (e.upd 4 a)
def c7z(e:a7):Reg:=xA (wB (e 0)) fun a=>xA (wL a) fun b=>xA (wE .eql b (.int .i64 0)) fun c=>xA (wB c) fun d=>xB d false (wB (e 1)) fun f=>xB d false (wE .lss f (.int .i64 1)) fun g=>xA (wK d (.bool true) g) fun i=>xC (e.upd 11 i)
def d7G(e:a7):Reg:=xA (wB (.pointer none)) fun a=>xC (e.upd 4 a)
def d3x(e:a7):Reg:=xA (wB (e 0)) fun a=>xA (wB (e 1)) fun b=>xA (wB (e 0)) fun c=>xA (wL c) fun d=>xA (wB (e 1)) fun f=>xA (wE .mul d f) fun g=>xA (.makeSlice 2 1 8 [(.int .i64 0)] g g) fun i=>xA (wM [(.slice none 0 0),(.int .i64 0),(.slice none 0 0)] [(0,1,a),(1,1,b),(2,1,i)]) fun j=>xA (wN 211 j) fun k=>xA (wB k) fun m=>xC (e.upd 4 m)
def R94:=an (ro d6k.eq_1)<|an (ro c7z.eq_1)<|an (ro d7G.eq_1)<|ro d3x.eq_1
def c94:CFn:=⟨(.seq (.region d6k) (.seq (.seq (.region c7z) (.cond (fun e=>e 11) (.seq (.region d7G) .ret) .skip)) (.seq (.region d3x) .ret))),[.t 4]⟩
def p94:Pers:=⟨5,[11],21,[]⟩
def d3d(e:a7):Reg:=xA (wB (.int .i64 0)) fun a=>xC (e.upd 8 a)
def d1c(e:a7):Reg:=xA (wB (e 1)) fun a=>xA (wE .eql a (.int .i64 0)) fun b=>xA (wB b) fun c=>xB c true (wB (e 2)) fun d=>xB c true (wE .neq d (.int .u8 167)) fun f=>xA (wK c f (.bool false)) fun g=>xA (wB g) fun i=>xC (e.upd 9 i)
def c7m(e:a7):Reg:=xA (wB (.int .i64 5)) fun a=>xC (e.upd 8 a)
def c9j(e:a7):Reg:=xA (wB (e 1)) fun a=>xA (wE .eql a (.int .i64 1)) fun b=>xA (wB b) fun c=>xB c true (wB (e 2)) fun d=>xB c true (wE .neq d (.int .u8 1)) fun f=>xA (wK c f (.bool false)) fun g=>xA (wB g) fun i=>xC (e.upd 16 i)
def d4d(e:a7):Reg:=xA (wB (.int .i64 6)) fun a=>xC (e.upd 8 a)
def c8A(e:a7):Reg:=xA (wB (e 1)) fun a=>xA (wE .eql a (.int .i64 2)) fun b=>xA (wB b) fun c=>xB c true (wB (e 2)) fun d=>xB c true (wE .neq d (.int .u8 0)) fun f=>xA (wK c f (.bool false)) fun g=>xA (wB g) fun i=>xC (e.upd 23 i)
def d4u(e:a7):Reg:=xA (wB (.int .i64 7)) fun a=>xC (e.upd 8 a)
def a9B(e:a7)(a b c:Value):Reg:=xB a true (wK b (.bool true) c) fun d=>xA (wK a d (.bool false)) fun f=>xA (wB f) fun g=>xC (e.upd 30 g)
def a8p(e:a7)(a b:Value):Reg:=xB a true (wE .neq b (.int .u8 3)) fun c=>xA (wK a c (.bool false)) fun d=>xA (wB d) fun f=>xB f true (wB (e 2)) fun g=>xB f true (wE .lss g (.int .u8 7)) fun i=>xB f true (wB i) fun j=>xB j false (wB (e 2)) fun k=>xB j false (wE .gtr k (.int .u8 71)) fun m=>a9B e f j m
def d7x(e:a7):Reg:=xA (wB (e 1)) fun a=>xA (wE .eql a (.int .i64 3)) fun b=>xA (wB b) fun c=>xB c true (wB (e 2)) fun d=>xB c true (wE .neq d (.int .u8 2)) fun f=>xA (wK c f (.bool false)) fun g=>xA (wB g) fun i=>xB i true (wB (e 2)) fun j=>a8p e i j
def d5Q(e:a7):Reg:=xA (wB (.int .i64 7)) fun a=>xC (e.upd 8 a)
def a8h(e:a7)(a b:Value):Reg:=xB a true (wP .not b) fun c=>xA (wK a c (.bool false)) fun d=>xA (wB d) fun f=>xC (e.upd 49 f)
def d6O(e:a7):Reg:=xA (wB (e 1)) fun a=>xA (wE .eql a (.int .i64 4)) fun b=>xA (wB b) fun c=>xB c true (wB (e 2)) fun d=>xB c true (wB (e 0)) fun f=>xB c true (wI 1 f (.int .i64 3)) fun g=>xB c true (wA none g) fun i=>xB c true (wD 101 [d,i]) fun j=>a8h e c j
def c0M(e:a7):Reg:=xA (wB (.int .i64 8)) fun a=>xC (e.upd 8 a)
def c4K(e:a7):Reg:=xA (wB (e 1)) fun a=>xA (wE .eql a (.int .i64 5)) fun b=>xA (wB b) fun c=>xB c true (wB (e 2)) fun d=>xB c true (wO .i64 d) fun f=>xB c true (wB (e 3)) fun g=>xB c true (wE .geq f g) fun i=>xA (wK c i (.bool false)) fun j=>xA (wB j) fun k=>xC (e.upd 60 k)
def b5H(e:a7):Reg:=xA (wB (.int .i64 9)) fun a=>xC (e.upd 8 a)
def a5P(e:a7)(a b c:Value):Reg:=xB a true (wO .i64 c) fun d=>xB a true (wE .sub d (.int .i64 7)) fun f=>xB a true (wE .neq b f) fun g=>xA (wK a g (.bool false)) fun i=>xA (wB i) fun j=>xC (e.upd 69 j)
def c1s(e:a7):Reg:=xA (wB (e 1)) fun a=>xA (wE .eql a (.int .i64 10)) fun b=>xA (wB b) fun c=>xB c true (wB (e 2)) fun d=>xB c true (wO .i64 d) fun f=>xB c true (wB (e 0)) fun g=>xB c true (wI 1 g (.int .i64 3)) fun i=>xB c true (wA none i) fun j=>a5P e c f j
def b9s(e:a7):Reg:=xA (wB (.int .i64 10)) fun a=>xC (e.upd 8 a)
def b9Q(e:a7):Reg:=xA (wB (.int .i64 0)) fun a=>xC (e.upd 8 a)
def R95:=an (ro d3d.eq_1)<|an (ro d1c.eq_1)<|an (ro c7m.eq_1)<|an (ro c9j.eq_1)<|an (ro d4d.eq_1)<|an (ro c8A.eq_1)<|an (ro d4u.eq_1)<|an (S9 a9B.eq_1)<|an (N8 a8p.eq_1)<|an (ro d7x.eq_1)<|an (ro d5Q.eq_1)<|an (N8 a8h.eq_1)<|an (ro d6O.eq_1)<|an (ro c0M.eq_1)<|an (ro c4K.eq_1)<|an (ro b5H.eq_1)<|an (S9 a5P.eq_1)<|an (ro c1s.eq_1)<|an (ro b9s.eq_1)<|ro b9Q.eq_1
def c95:CFn:=⟨(.seq (.region d3d) (.seq (.block 0 (.seq (.region d1c) (.cond (fun e=>e 9) (.seq (.region c7m) .ret) (.seq (.region c9j) (.cond (fun e=>e 16) (.seq (.region d4d) .ret) (.seq (.region c8A) (.cond (fun e=>e 23) (.seq (.region d4u) .ret) (.seq (.region d7x) (.cond (fun e=>e 30) (.seq (.region d5Q) .ret) (.seq (.region d6O) (.cond (fun e=>e 49) (.seq (.region c0M) .ret) (.seq (.region c4K) (.cond (fun e=>e 60) (.seq (.region b5H) .ret) (.seq (.region c1s) (.cond (fun e=>e 69) (.seq (.region b9s) .ret) .skip))))))))))))))) (.seq (.region b9Q) .ret))),[.t 8]⟩
def p95:Pers:=⟨9,[9,16,23,30,49,60,69],82,[]⟩
def c8m(e:a7):Reg:=xA (wB (.int .i64 0)) fun a=>xC (e.upd 2 a)
def d1N(e:a7):Reg:=xA (wB (e 0)) fun a=>xA (wE .mul a (.int .i64 69)) fun b=>xA (wB b) fun c=>xC (e.upd 2 c)
def R96:=an (ro c8m.eq_1)<|ro d1N.eq_1
def c96:CFn:=⟨(.seq (.region c8m) (.seq (.region d1N) .ret)),[.t 2]⟩
def p96:Pers:=⟨3,[],5,[]⟩
def d4v(e:a7):Reg:=xA (wB (.int .i64 0)) fun a=>xC (e.upd 2 a)
def d4K(e:a7):Reg:=xA (wB (e 0)) fun a=>xA (wD 99 [a]) fun b=>xA (wE .mul (.int .i64 4) b) fun c=>xA (wB c) fun d=>xC (e.upd 2 d)
def R97:=an (ro d4v.eq_1)<|ro d4K.eq_1
def c97:CFn:=⟨(.seq (.region d4v) (.seq (.region d4K) .ret)),[.t 2]⟩
def p97:Pers:=⟨3,[],6,[]⟩
def d1f(e:a7):Reg:=xA (wB (.int .i64 0)) fun a=>xC (e.upd 4 a)
def d2h(e:a7):Reg:=xA (wB (e 0)) fun a=>xA (wE .mul (.int .i64 8) a) fun b=>xA (wB (e 1)) fun c=>xA (wE .mul b c) fun d=>xA (wB d) fun f=>xC (e.upd 4 f)
def R98:=an (ro d1f.eq_1)<|ro d2h.eq_1
def c98:CFn:=⟨(.seq (.region d1f) (.seq (.region d2h) .ret)),[.t 4]⟩
def p98:Pers:=⟨5,[],9,[]⟩
def d3u(e:a7):Reg:=xA (wB (.int .i64 0)) fun a=>xC (e.upd 2 a)
def d0h(e:a7):Reg:=xA (wB (e 0)) fun a=>xA (wE .mul (.int .i64 2) a) fun b=>xA (wE .add b (.int .i64 1)) fun c=>xA (wB c) fun d=>xC (e.upd 2 d)
def R99:=an (ro d3u.eq_1)<|ro d0h.eq_1
def c99:CFn:=⟨(.seq (.region d3u) (.seq (.region d0h) .ret)),[.t 2]⟩
def p99:Pers:=⟨3,[],6,[]⟩
def c2j(e:a7):Reg:=xA (wB (.int .i64 0)) fun a=>xC (e.upd 2 a)
def c4G(e:a7):Reg:=xA (wB (e 0)) fun a=>xA (.eqK .ptr false a (.pointer none)) fun b=>xC (e.upd 4 b)
def c0b(e:a7):Reg:=xA (wB (.int .i64 0)) fun a=>xC (e.upd 2 a)
def c3q(e:a7):Reg:=xA (wB (e 0)) fun a=>xA (wJ a) fun b=>xA (wC 1 b) fun c=>xA (wA none c) fun d=>xA (wL d) fun f=>xA (wB f) fun g=>xC (e.upd 2 g)
def e6s:=an (ro c2j.eq_1)<|an (ro c4G.eq_1)<|an (ro c0b.eq_1)<|ro c3q.eq_1
def d9a:CFn:=⟨(.seq (.region c2j) (.seq (.seq (.region c4G) (.cond (fun e=>e 4) (.seq (.region c0b) .ret) .skip)) (.seq (.region c3q) .ret))),[.t 2]⟩
def e2n:Pers:=⟨3,[4],10,[]⟩
def c0x(e:a7):Reg:=xA (wB (.bool false)) fun a=>xC (e.upd 4 a)
def c4F(e:a7):Reg:=xA (wB (e 0)) fun a=>xC (e.upd 5 a)
def c0D(e:a7):Reg:=xA (wE .eql (e 5) (.int .u8 1)) fun a=>xA (wB a) fun b=>xC (e.upd 6 b)
def c0O(e:a7):Reg:=xA (wE .eql (e 5) (.int .u8 2)) fun a=>xA (wB a) fun b=>xC (e.upd 6 b)
def b9K(e:a7):Reg:=xA (wB (e 1)) fun a=>xA (wE .geq a (.int .u8 7)) fun b=>xA (wB b) fun c=>xC (e.upd 4 c)
def b7n(e:a7):Reg:=xA (wE .eql (e 5) (.int .u8 3)) fun a=>xA (wB a) fun b=>xC (e.upd 11 b)
def c1M(e:a7):Reg:=xA (wB (e 1)) fun a=>xA (wE .eql a (.int .u8 2)) fun b=>xA (wB b) fun c=>xC (e.upd 4 c)
def c3A(e:a7):Reg:=xA (wE .eql (e 5) (.int .u8 4)) fun a=>xA (wB a) fun b=>xC (e.upd 15 b)
def c4E(e:a7):Reg:=xA (wB (e 1)) fun a=>xA (wE .eql a (.int .u8 3)) fun b=>xA (wB b) fun c=>xC (e.upd 4 c)
def b6U(e:a7):Reg:=xA (wB (.bool false)) fun a=>xC (e.upd 4 a)
def d5b:=an (ro c0x.eq_1)<|an (ro c4F.eq_1)<|an (ro c0D.eq_1)<|an (ro c0O.eq_1)<|an (ro b9K.eq_1)<|an (ro b7n.eq_1)<|an (ro c1M.eq_1)<|an (ro c3A.eq_1)<|an (ro c4E.eq_1)<|ro b6U.eq_1
def b2s:CFn:=⟨(.seq (.region c0x) (.seq (.seq (.region c4F) (.block 0 (.seq (.seq (.region c0D) (.cond (fun e=>e 6) .skip (.region c0O))) (.cond (fun e=>e 6) (.seq (.region b9K) .ret) (.seq (.region b7n) (.cond (fun e=>e 11) (.seq (.region c1M) .ret) (.seq (.region c3A) (.cond (fun e=>e 15) (.seq (.region c4E) .ret) .skip)))))))) (.seq (.region b6U) .ret))),[.t 4]⟩
def e4s:Pers:=⟨5,[5,6,11,15],19,[]⟩
def b9R(e:a7):Reg:=xA (wN 61 (e 1)) fun a=>xA (wB (.slice none 0 0)) fun b=>xC ((e.upd 3 a).upd 4 b)
def b9O(e:a7):Reg:=xA (wB (e 0)) fun a=>xA (wJ a) fun b=>xA (wC 9 b) fun c=>xA (wA none c) fun d=>xA (wC 1 (e 3)) fun f=>xA (wA none f) fun g=>xA (wI 1 d g) fun i=>xA (wA none i) fun j=>xA (wB j) fun k=>xC (e.upd 5 k)
def a5q(e:a7)(h3:Heap)(a b c d f:Value):Reg:=xE none (some h3) (wA none d) f<|xA (wI 9 c f) fun g=>xA (wC 1 g) fun i=>xA (wA none i) fun j=>xE none (some h3) (wA none i) j<|xD fun h17=>xA (wD 119 [b,j]) fun k=>xA (wB a) fun m=>xA (wB k) fun n=>xC ((e.upd 6 m).upd 7 n)
def a5x(e:a7)(h3:Heap)(a b:Value):Reg:=xA (wB (e 0)) fun c=>xA (wJ c) fun d=>xA (wC 4 d) fun f=>xA (wC 3 f) fun g=>xA (wA none g) fun i=>xE none (some h3) (wA none g) i<|xA (wC 1 (e 3)) fun j=>xA (wA none j) fun k=>a5q e h3 a b i j k
def b9w(e:a7):Reg:=xA (wB (e 0)) fun a=>xA (wJ a) fun b=>xA (wC 0 b) fun c=>xD fun h3=>xA (wD 26 [c]) fun d=>xA (wB (e 0)) fun f=>xA (wJ f) fun g=>xA (wC 0 g) fun i=>a5x e h3 d i
def b9B(e:a7):Reg:=xA (wC 0 (e 3)) fun a=>xA (wA none a) fun b=>xC (e.upd 39 b)
def c2k(e:a7):Reg:=xA (wE .eql (e 39) (.int .i64 1)) fun a=>xA (wB a) fun b=>xC (e.upd 40 b)
def a6u(e:a7)(a b c d f:Value):Reg:=xA (wD 120 [a,b,c,d,f]) fun g=>xA (wB g) fun i=>xA (wG i 0) fun j=>xA (wG i 1) fun k=>xA (wH 55 [(.int .i64 0),(.int .i64 0),(.int .i64 0)]) fun m=>xA (wF 3 m j) fun _=>xA (wB k) fun n=>xC ((e.upd 8 m).upd 9 n)
def b8E(e:a7):Reg:=xA (wB (e 5)) fun a=>xA (wB (e 6)) fun b=>xA (wB (e 7)) fun c=>xA (wC 3 (e 3)) fun d=>xA (wA none d) fun f=>xA (wC 2 (e 3)) fun g=>xA (wA none g) fun i=>xA (wO .i64 i) fun j=>a6u e a b c f j
def c4o(e:a7):Reg:=xA (wB (e 9)) fun a=>xA (wL a) fun b=>xA (wB (.int .i64 0)) fun c=>xC (((e.upd 54 a).upd 55 b).upd 56 c)
def c1k(e:a7):Reg:=xA (wE .lss (e 56) (e 55)) fun a=>xC (e.upd 57 a)
def b6h(e:a7):Reg:=xA (wI 4 (e 54) (e 56)) fun a=>xA (wA (some 4) a) fun b=>xA (wH 123 [(.int .i64 0),(.string ⟨#[]⟩),(.bool false),(.int .i64 0)]) fun c=>xA (wF 4 c b) fun _=>xC (e.upd 11 c)
def b8X(e:a7):Reg:=xA (wC 1 (e 3)) fun a=>xA (wA none a) fun b=>xA (wC 0 (e 11)) fun c=>xA (wF 1 c b) fun _=>xC e
def a3y(e:a7)(a b c:Value):Reg:=xA (.append 123 4 40 b c) fun d=>xA (wJ a) fun f=>xA (wC 10 f) fun g=>xD fun h10=>xA (wF 1 g d) fun _=>xC e
def b1D(e:a7):Reg:=xA (wB (e 0)) fun a=>xA (wB (e 0)) fun b=>xA (wJ b) fun c=>xA (wC 10 c) fun d=>xA (wA none d) fun f=>xA (wA (some 4) (e 11)) fun g=>xA (.buildSlice 123 1 [(.int .i64 0),(.string ⟨#[]⟩),(.bool false),(.int .i64 0)] [(0,4,g)]) fun i=>xD fun h7=>a3y e a f i
def b3X(e:a7):Reg:=xA (wE .add (e 56) (.int .i64 1)) fun a=>xA (wB a) fun b=>xC (e.upd 56 b)
def a1y:CC:=(.seq (.region c1k) (.seq (.cond (fun e=>e 57) .skip (.exit 1)) (.seq (.block 2 (.seq (.region b6h) (.seq (.region b8X) (.region b1D)))) (.region b3X))))
def b1o(e:a7):Reg:=xA (wC 0 (e 3)) fun a=>xA (wA none a) fun b=>xA (wA (some 3) (e 8)) fun c=>xA (wD 121 [b,c]) fun d=>xA (wB d) fun f=>xC (e.upd 4 f)
def b1V(e:a7):Reg:=xA (wE .eql (e 39) (.int .i64 2)) fun a=>xA (wB a) fun b=>xC (e.upd 78 b)
def a2U(e:a7)(a b c d f g i:Value):Reg:=xA (wA none i) fun j=>xA (wO .i64 j) fun k=>xD fun h10=>xA (wD 122 [c,d,f,g,k]) fun m=>xE none none (wA none a) b<|xD fun h11=>xA (wD 121 [b,m]) fun n=>xA (wB n) fun o=>xC (e.upd 4 o)
def b1K(e:a7):Reg:=xA (wC 0 (e 3)) fun a=>xA (wA none a) fun b=>xA (wB (e 5)) fun c=>xA (wB (e 6)) fun d=>xA (wB (e 7)) fun f=>xA (wC 3 (e 3)) fun g=>xA (wA none g) fun i=>xA (wC 2 (e 3)) fun j=>a2U e a b c d f i j
def b2R(e:a7):Reg:=xA (wE .eql (e 39) (.int .i64 3)) fun a=>xA (wB a) fun b=>xC (e.upd 92 b)
def b3b(e:a7):Reg:=xA (wC 1 (e 3)) fun a=>xA (wA none a) fun b=>xA (wB (e 5)) fun c=>xD fun h3=>xA (wD 28 [c]) fun d=>xE none none (wA none a) b<|xD fun h4=>xA (wD 123 [b,d]) fun f=>xA (wB f) fun g=>xC (e.upd 4 g)
def a3x(e:a7)(a b:Value):Reg:=xD fun h6=>xA (wD 124 [a,b]) fun c=>xA (wB c) fun d=>xC (e.upd 4 d)
def b3m(e:a7):Reg:=xA (wC 1 (e 3)) fun a=>xA (wA none a) fun b=>xA (wB (e 5)) fun c=>xA (wC 4 (e 3)) fun d=>xA (wA none d) fun f=>xD fun h5=>xA (wD 125 [c,f]) fun g=>xE none none (wA none a) b<|a3x e b g
def c6o:=an (ro b9R.eq_1)<|an (ro b9O.eq_1)<|an (ro6 a5q.eq_1)<|an (S9 a5x.eq_1)<|an (ro b9w.eq_1)<|an (ro b9B.eq_1)<|an (ro c2k.eq_1)<|an (ro5 a6u.eq_1)<|an (ro b8E.eq_1)<|an (ro c4o.eq_1)<|an (ro c1k.eq_1)<|an (ro b6h.eq_1)<|an (ro b8X.eq_1)<|an (S9 a3y.eq_1)<|an (ro b1D.eq_1)<|an (ro b3X.eq_1)<|an (ro b1o.eq_1)<|an (ro b1V.eq_1)<|an (ro7 a2U.eq_1)<|an (ro b1K.eq_1)<|an (ro b2R.eq_1)<|an (ro b3b.eq_1)<|an (N8 a3x.eq_1)<|ro b3m.eq_1
def a9S:CFn:=⟨(.seq (.region b9R) (.seq (.region b9O) (.seq (.region b9w) (.seq (.seq (.region b9B) (.block 0 (.seq (.region c2k) (.cond (fun e=>e 40) (.seq (.region b8E) (.seq (.seq (.region c4o) (.block 1 (.loop a1y))) (.seq (.region b1o) .ret))) (.seq (.region b1V) (.cond (fun e=>e 78) (.seq (.region b1K) .ret) (.seq (.region b2R) (.cond (fun e=>e 92) (.seq (.region b3b) .ret) .skip)))))))) (.seq (.region b3m) .ret))))),[.t 4]⟩
def e4Q:Pers:=⟨12,[39,40,54,55,56,57,78,92],106,[]⟩
def c0i(e:a7):Reg:=xA (wN 61 (e 1)) fun a=>xA (wB (.int .i64 0)) fun b=>xC ((e.upd 3 a).upd 4 b)
def a6R(e:a7)(a b c:Value):Reg:=xA (wI 9 b c) fun d=>xA (wC 7 d) fun f=>xA (wA none f) fun g=>xD fun h11=>xA (wD 74 [a,g]) fun i=>xA (wB i) fun j=>xC (e.upd 4 j)
def c0U(e:a7):Reg:=xA (wA (some 5) (e 3)) fun a=>xA (wB (e 0)) fun b=>xA (wJ b) fun c=>xA (wC 4 c) fun d=>xA (wC 3 d) fun f=>xA (wA none f) fun g=>xA (wC 1 (e 3)) fun i=>xA (wA none i) fun j=>a6R e a g j
def e6e:=an (ro c0i.eq_1)<|an (S9 a6R.eq_1)<|ro c0U.eq_1
def d3Q:CFn:=⟨(.seq (.region c0i) (.seq (.region c0U) .ret)),[.t 4]⟩
def e2Y:Pers:=⟨5,[],17,[]⟩
def c2E(e:a7):Reg:=xA (wB (.int .i64 0)) fun a=>xC (e.upd 4 a)
def b8H(e:a7):Reg:=xA (wB (e 0)) fun a=>xA (wJ a) fun b=>xA (wC 2 b) fun c=>xA (wA none c) fun d=>xA (wP .not d) fun f=>xC (e.upd 9 f)
def b7g(e:a7):Reg:=xA (wB (.int .i64 0)) fun a=>xC (e.upd 4 a)
def a4s(e:a7)(h5:Heap)(a b:Value):Reg:=xA (wJ b) fun c=>xA (wC 0 c) fun d=>xA (wA none d) fun f=>xE none (some h5) (wA none d) f<|xA (wE .sub a f) fun g=>xA (.minmax true [g,(.int .i64 0)]) fun i=>xA (wB i) fun j=>xC (e.upd 4 j)
def b9F(e:a7):Reg:=xA (wB (e 0)) fun a=>xA (wJ a) fun b=>xA (wC 1 b) fun c=>xA (wA none c) fun d=>xA (wB (e 1)) fun f=>xD fun h5=>xA (wD 126 [d,f]) fun g=>xA (wB (e 0)) fun i=>a4s e h5 g i
def e4Y:=an (ro c2E.eq_1)<|an (ro b8H.eq_1)<|an (ro b7g.eq_1)<|an (S9 a4s.eq_1)<|ro b9F.eq_1
def d3v:CFn:=⟨(.seq (.region c2E) (.seq (.seq (.region b8H) (.cond (fun e=>e 9) (.seq (.region b7g) .ret) .skip)) (.seq (.region b9F) .ret))),[.t 4]⟩
def e2D:Pers:=⟨5,[9],22,[]⟩
def c4f(e:a7):Reg:=xA (wH 55 [(.int .i64 0),(.int .i64 0),(.int .i64 0)]) fun a=>xA (wB (.slice none 0 0)) fun b=>xC ((e.upd 10 a).upd 11 b)
def a5I(e:a7)(a b:Value):Reg:=xA (wH 55 [(.int .i64 0),(.int .i64 0),(.int .i64 0)]) fun c=>xA (wF 3 c a) fun _=>xA (wB b) fun d=>xC ((e.upd 12 c).upd 13 d)
def c3l(e:a7):Reg:=xA (wB (e 0)) fun a=>xA (wB (e 1)) fun b=>xA (wB (e 2)) fun c=>xA (wB (e 4)) fun d=>xA (wD 127 [a,b,c,d]) fun f=>xA (wB f) fun g=>xA (wG g 0) fun i=>xA (wG g 1) fun j=>a5I e i j
def b8I(e:a7):Reg:=xA (wB (e 13)) fun a=>xC (e.upd 25 a)
def b6a(e:a7):Reg:=xA (wB (e 0)) fun a=>xA (wC 0 (e 12)) fun b=>xA (wA none b) fun c=>xA (wD 128 [a,c]) fun d=>xC e
def c0c(e:a7):Reg:=xA (wA (some 3) (e 12)) fun a=>xA (wF 3 (e 10) a) fun _=>xA (wB (.slice none 0 0)) fun b=>xC (e.upd 11 b)
def b8Y(e:a7):Reg:=xA (wB (e 0)) fun a=>xA (wJ a) fun b=>xA (wC 14 b) fun c=>xA (wA none c) fun d=>xA (wB (e 1)) fun f=>xA (wD 129 [d,f]) fun g=>xC e
def b9h(e:a7):Reg:=xA (wB (e 0)) fun a=>xA (wJ a) fun b=>xA (wC 15 b) fun c=>xA (wA none c) fun d=>xA (wB (e 3)) fun f=>xA (wB (e 4)) fun g=>xA (wD 130 [d,f,g]) fun i=>xC e
def b8h(e:a7):Reg:=xA (wB (e 0)) fun a=>xA (wB (e 1)) fun b=>xA (wB (e 3)) fun c=>xA (wD 131 [a,b,c]) fun d=>xA (wB d) fun f=>xA (wG f 0) fun g=>xA (wG f 1) fun i=>xA (wB g) fun j=>xA (wB i) fun k=>xC ((e.upd 14 j).upd 15 k)
def b9X(e:a7):Reg:=xA (wM [(.int .i64 0),(.int .i64 0),(.int .i64 0)] [(0,1,(.int .i64 2))]) fun a=>xA (wH 55 [(.int .i64 0),(.int .i64 0),(.int .i64 0)]) fun b=>xA (wF 3 b a) fun _=>xC (e.upd 16 b)
def c1I(e:a7):Reg:=xA (wB (e 14)) fun a=>xA (.eqK .ptr true a (.pointer none)) fun b=>xC (e.upd 53 b)
def b3e(e:a7):Reg:=xA (wB (e 14)) fun a=>xA (wB (e 0)) fun b=>xA (wJ b) fun c=>xA (wC 9 c) fun d=>xA (wA (some 4) d) fun f=>xA (wB (e 1)) fun g=>xA (wB (e 4)) fun i=>xA (wD 132 [a,f,g,i]) fun j=>xC (e.upd 61 j)
def b2U(e:a7):Reg:=xA (wC 0 (e 16)) fun a=>xA (wF 1 a (.int .i64 1)) fun _=>xC e
def a3n(e:a7)(a b c:Value):Reg:=xA (wB (e 4)) fun d=>xD fun h9=>xA (wD 133 [a,b,c,d]) fun f=>xA (wC 2 (e 16)) fun g=>xD fun h11=>xA (wF 1 g f) fun _=>xC e
def b2Q(e:a7):Reg:=xA (wB (e 14)) fun a=>xA (wJ a) fun b=>xA (wA (some 4) b) fun c=>xA (wB (e 0)) fun d=>xA (wJ d) fun f=>xA (wC 9 f) fun g=>xA (wA (some 4) g) fun i=>xA (wB (e 1)) fun j=>a3n e c i j
def a3l(e:a7)(a b c:Value):Reg:=xD fun h8=>xA (wD 134 [a,b,c]) fun d=>xA (wC 1 (e 16)) fun f=>xD fun h10=>xA (wF 1 f d) fun _=>xC e
def b1p(e:a7):Reg:=xA (wB (e 14)) fun a=>xA (wJ a) fun b=>xA (wA (some 4) b) fun c=>xA (wB (e 0)) fun d=>xA (wJ d) fun f=>xA (wC 9 f) fun g=>xA (wA (some 4) g) fun i=>xA (wB (e 1)) fun j=>a3l e c i j
def a3B(e:a7)(h5:Heap)(a b:Value):Reg:=xD fun h7=>xA (wD 126 [a,b]) fun c=>xA (wB (e 0)) fun d=>xA (wJ d) fun f=>xA (wC 0 f) fun g=>xA (wC 0 g) fun i=>xA (wA none i) fun j=>xE none (some h7) (wA none i) j<|xE none (some h5) (wA none i) j<|xA (wE .leq c j) fun k=>xC (e.upd 97 k)
def b3V(e:a7):Reg:=xA (wB (e 0)) fun a=>xA (wJ a) fun b=>xA (wC 14 b) fun c=>xA (wA none c) fun d=>xA (wB (e 3)) fun f=>xD fun h5=>xA (wD 135 [d,f]) fun g=>xA (wB (e 4)) fun i=>a3B e h5 g i
def b2Z(e:a7):Reg:=xA (wC 0 (e 16)) fun a=>xA (wF 1 a (.int .i64 1)) fun _=>xC e
def b2n(e:a7):Reg:=xA (wB (e 0)) fun a=>xA (wJ a) fun b=>xA (wC 14 b) fun c=>xA (wA none c) fun d=>xA (wB (e 3)) fun f=>xA (wB (e 4)) fun g=>xA (wD 136 [d,f,g]) fun i=>xC e
def b3v(e:a7):Reg:=xA (wB (e 0)) fun a=>xA (wJ a) fun b=>xA (wC 14 b) fun c=>xA (wA none c) fun d=>xA (wB (e 3)) fun f=>xA (wB (e 4)) fun g=>xA (wD 137 [d,f,g]) fun i=>xA (wC 2 (e 16)) fun j=>xA (wF 1 j i) fun _=>xC e
def a2W(e:a7)(a b:Value):Reg:=xA (wD 138 [a,b]) fun c=>xA (wC 1 (e 16)) fun d=>xD fun h15=>xA (wF 1 d c) fun _=>xC e
def a3r(e:a7)(a b c d:Value):Reg:=xA (wC 14 d) fun f=>xA (wA none f) fun g=>xA (wB (e 3)) fun i=>xD fun h11=>xA (wD 135 [g,i]) fun j=>xE none none (wA none b) c<|xA (wE .sub c j) fun k=>xD fun h13=>a2W e a k
def b1W(e:a7):Reg:=xA (wB (e 0)) fun a=>xA (wB (e 0)) fun b=>xA (wJ b) fun c=>xA (wC 0 c) fun d=>xA (wC 0 d) fun f=>xA (wA none f) fun g=>xA (wB (e 0)) fun i=>xA (wJ i) fun j=>a3r e a f g j
def b3o(e:a7):Reg:=xA (wB (e 0)) fun a=>xA (wC 0 (e 16)) fun b=>xA (wA none b) fun c=>xA (wD 128 [a,c]) fun d=>xC e
def a5f(e:a7):Reg:=xA (wA (some 3) (e 16)) fun a=>xA (wB (e 15)) fun b=>xA (wF 3 (e 10) a) fun _=>xA (wB b) fun c=>xC (e.upd 11 c)
def W4:=an (ro c4f.eq_1)<|an (N8 a5I.eq_1)<|an (ro c3l.eq_1)<|an (ro b8I.eq_1)<|an (ro b6a.eq_1)<|an (ro c0c.eq_1)<|an (ro b8Y.eq_1)<|an (ro b9h.eq_1)<|an (ro b8h.eq_1)<|an (ro b9X.eq_1)<|an (ro c1I.eq_1)<|an (ro b3e.eq_1)<|an (ro b2U.eq_1)<|an (S9 a3n.eq_1)<|an (ro b2Q.eq_1)<|an (S9 a3l.eq_1)<|an (ro b1p.eq_1)<|an (S9 a3B.eq_1)<|an (ro b3V.eq_1)<|an (ro b2Z.eq_1)<|an (ro b2n.eq_1)<|an (ro b3v.eq_1)<|an (N8 a2W.eq_1)<|an (ro4 a3r.eq_1)<|an (ro b1W.eq_1)<|an (ro b3o.eq_1)<|ro a5f.eq_1
def R5:CFn:=⟨(.seq (.region c4f) (.seq (.seq (.region c3l) (.seq (.region b8I) (.cond (fun e=>e 25) (.seq (.region b6a) (.seq (.region c0c) .ret)) .skip))) (.seq (.region b8Y) (.seq (.region b9h) (.seq (.region b8h) (.seq (.region b9X) (.seq (.seq (.region c1I) (.cond (fun e=>e 53) (.seq (.seq (.region b3e) (.cond (fun e=>e 61) (.region b2U) (.region b2Q))) (.region b1p)) (.seq (.seq (.region b3V) (.cond (fun e=>e 97) (.seq (.region b2Z) (.region b2n)) (.region b3v))) (.region b1W)))) (.seq (.region b3o) (.seq (.region a5f) .ret))))))))),[.c 10 (some 3),.t 11]⟩
def e2S:Pers:=⟨17,[25,53,61,97],135,[]⟩
def c1A(e:a7):Reg:=xA (wN 55 (e 1)) fun a=>xA (wB (.slice none 0 0)) fun b=>xC ((e.upd 3 a).upd 4 b)
def c1j(e:a7):Reg:=xA (wB (e 0)) fun a=>xA (wE .or a (.int .i64 128)) fun b=>xA (wO .u8 b) fun c=>xA (wC 0 (e 3)) fun d=>xA (wA none d) fun f=>xA (wO .u8 f) fun g=>xA (.buildSlice 5 2 [(.int .u8 0)] [(0,1,c),(1,1,g)]) fun i=>xA (wB i) fun j=>xC (e.upd 5 j)
def a4j(e:a7)(h4:Heap)(a b c:Value):Reg:=xE none (some h4) (wA none b) c<|xA (wO .u64 c) fun d=>xD fun h8=>xA (wD 44 [a,(.int .i64 8),d]) fun f=>xD fun h9=>xA (wD 45 [(.int .u8 168),f]) fun g=>xA (wB g) fun i=>xC (e.upd 4 i)
def b7s(e:a7):Reg:=xA (wB (e 5)) fun a=>xA (wC 1 (e 3)) fun b=>xA (wA none b) fun c=>xA (wO .u64 c) fun d=>xD fun h4=>xA (wD 44 [a,(.int .i64 8),d]) fun f=>xA (wC 2 (e 3)) fun g=>xA (wA none g) fun i=>a4j e h4 f g i
def d7L:=an (ro c1A.eq_1)<|an (ro c1j.eq_1)<|an (ro4 a4j.eq_1)<|ro b7s.eq_1
def b5s:CFn:=⟨(.seq (.region c1A) (.seq (.region c1j) (.seq (.region b7s) .ret))),[.t 4]⟩
def e1X:Pers:=⟨6,[],23,[]⟩
def b9C(e:a7):Reg:=xA (wB (.int .i64 0)) fun a=>xC (e.upd 4 a)
def c2Z(e:a7):Reg:=xA (wB (e 0)) fun a=>xA (wB (e 1)) fun b=>xA (wD 144 [a,b]) fun c=>xA (wB c) fun d=>xA (wG d 0) fun f=>xA (wG d 1) fun g=>xA (wB f) fun i=>xA (wB g) fun j=>xC ((e.upd 5 i).upd 6 j)
def c4g(e:a7):Reg:=xA (wB (e 6)) fun a=>xA (wP .not a) fun b=>xC (e.upd 14 b)
def b5V(e:a7):Reg:=xA (wB (e 0)) fun a=>xA (wE .lss a (.int .i64 0)) fun b=>xA (wD 145 [b]) fun c=>xA (wB c) fun d=>xC (e.upd 4 d)
def b9V(e:a7):Reg:=xA (wB (e 5)) fun a=>xA (wB a) fun b=>xC (e.upd 4 b)
def e3N:=an (ro b9C.eq_1)<|an (ro c2Z.eq_1)<|an (ro c4g.eq_1)<|an (ro b5V.eq_1)<|ro b9V.eq_1
def d0L:CFn:=⟨(.seq (.region b9C) (.seq (.region c2Z) (.seq (.seq (.region c4g) (.cond (fun e=>e 14) (.seq (.region b5V) .ret) .skip)) (.seq (.region b9V) .ret)))),[.t 4]⟩
def e3f:Pers:=⟨7,[14],19,[]⟩
def c4r(e:a7):Reg:=xA (wH 55 [(.int .i64 0),(.int .i64 0),(.int .i64 0)]) fun a=>xA (wB (.bool false)) fun b=>xC ((e.upd 8 a).upd 9 b)
def a7a(e:a7)(a b c:Value):Reg:=xB a false (wA none c) fun d=>xB a false (wE .gtr b d) fun f=>xA (wK a (.bool true) f) fun g=>xA (wB g) fun i=>xC (e.upd 10 i)
def b7r(e:a7):Reg:=xA (wB (e 3)) fun a=>xA (wE .lss a (.int .i64 1)) fun b=>xA (wB b) fun c=>xB c false (wB (e 3)) fun d=>xB c false (wB (e 0)) fun f=>xB c false (wJ f) fun g=>xB c false (wC 0 g) fun i=>xB c false (wC 2 i) fun j=>a7a e c d j
def b5O(e:a7):Reg:=xA (wM [(.int .i64 0),(.int .i64 0),(.int .i64 0)] [(0,1,(.int .i64 3))]) fun a=>xA (wF 3 (e 8) a) fun _=>xA (wB (.bool true)) fun b=>xC (e.upd 9 b)
def c2I(e:a7):Reg:=xA (wB (e 1)) fun a=>xA (wE .geq a (.int .i64 4611686018427387904)) fun b=>xA (wB b) fun c=>xC (e.upd 23 c)
def b9z(e:a7):Reg:=xA (wM [(.int .i64 0),(.int .i64 0),(.int .i64 0)] [(0,1,(.int .i64 2)),(2,1,(.int .i64 9223372036854775807))]) fun a=>xA (wF 3 (e 8) a) fun _=>xA (wB (.bool true)) fun b=>xC (e.upd 9 b)
def b7F(e:a7):Reg:=xA (wB (e 2)) fun a=>xA (wE .gtr a (.int .i64 0)) fun b=>xA (wB b) fun c=>xC (e.upd 27 c)
def b7w(e:a7):Reg:=xA (wB (e 2)) fun a=>xA (wM [(.int .i64 0),(.int .i64 0),(.int .i64 0)] [(0,1,(.int .i64 2)),(2,1,a)]) fun b=>xA (wF 3 (e 8) b) fun _=>xA (wB (.bool true)) fun c=>xC (e.upd 9 c)
def b9u(e:a7):Reg:=xA (wM [(.int .i64 0),(.int .i64 0),(.int .i64 0)] []) fun a=>xA (wF 3 (e 8) a) fun _=>xA (wB (.bool false)) fun b=>xC (e.upd 9 b)
def d2M:=an (ro c4r.eq_1)<|an (S9 a7a.eq_1)<|an (ro b7r.eq_1)<|an (ro b5O.eq_1)<|an (ro c2I.eq_1)<|an (ro b9z.eq_1)<|an (ro b7F.eq_1)<|an (ro b7w.eq_1)<|ro b9u.eq_1
def b2t:CFn:=⟨(.seq (.region c4r) (.seq (.block 0 (.seq (.region b7r) (.cond (fun e=>e 10) (.seq (.region b5O) .ret) (.seq (.region c2I) (.cond (fun e=>e 23) (.seq (.region b9z) .ret) (.seq (.region b7F) (.cond (fun e=>e 27) (.seq (.region b7w) .ret) .skip))))))) (.seq (.region b9u) .ret))),[.c 8 (some 3),.t 9]⟩
def e1O:Pers:=⟨10,[10,23,27],33,[]⟩
def c4a(e:a7):Reg:=xA (wB (e 1)) fun a=>xC (e.upd 4 a)
def b7C(e:a7):Reg:=xA (wE .eql (e 4) (.int .i64 1)) fun a=>xA (wB a) fun b=>xC (e.upd 14 b)
def b6F(e:a7):Reg:=xA (wB (e 0)) fun a=>xA (wJ a) fun b=>xA (wC 16 b) fun c=>xA (wC 0 c) fun d=>xA (wA none d) fun f=>xA (wE .add f (.int .i64 1)) fun g=>xA (wJ a) fun i=>xA (wC 16 i) fun j=>xA (wC 0 j) fun k=>xA (wF 1 k g) fun _=>xC e
def c3a(e:a7):Reg:=xA (wE .eql (e 4) (.int .i64 2)) fun a=>xA (wB a) fun b=>xC (e.upd 25 b)
def c1P(e:a7):Reg:=xA (wB (e 0)) fun a=>xA (wJ a) fun b=>xA (wC 16 b) fun c=>xA (wC 1 c) fun d=>xA (wA none d) fun f=>xA (wE .add f (.int .i64 1)) fun g=>xA (wJ a) fun i=>xA (wC 16 i) fun j=>xA (wC 1 j) fun k=>xA (wF 1 k g) fun _=>xC e
def c0J(e:a7):Reg:=xA (wB (e 0)) fun a=>xA (wJ a) fun b=>xA (wC 16 b) fun c=>xA (wC 2 c) fun d=>xA (wA none d) fun f=>xA (wE .add f (.int .i64 1)) fun g=>xA (wJ a) fun i=>xA (wC 16 i) fun j=>xA (wC 2 j) fun k=>xA (wF 1 k g) fun _=>xC e
def e0Y:=an (ro c4a.eq_1)<|an (ro b7C.eq_1)<|an (ro b6F.eq_1)<|an (ro c3a.eq_1)<|an (ro c1P.eq_1)<|ro c0J.eq_1
def c6g:CFn:=⟨(.seq (.region c4a) (.block 0 (.seq (.region b7C) (.cond (fun e=>e 14) (.region b6F) (.seq (.region c3a) (.cond (fun e=>e 25) (.region c1P) (.region c0J))))))),[]⟩
def e3j:Pers:=⟨4,[4,14,25],36,[]⟩
def c0C(e:a7):Reg:=xA (wB (e 0)) fun a=>xA (.eqK .ptr true a (.pointer none)) fun b=>xC (e.upd 5 b)
def c0Q(e:a7):Reg:=xA (wB (e 0)) fun a=>xA (wB (e 0)) fun b=>xA (wJ b) fun c=>xA (wC 6 c) fun d=>xA (wA none d) fun f=>xA (wB (e 1)) fun g=>xA (.minmax true [f,g]) fun i=>xA (wJ a) fun j=>xA (wC 6 j) fun k=>xA (wF 1 k i) fun _=>xC e
def e6j:=an (ro c0C.eq_1)<|ro c0Q.eq_1
def d9b:CFn:=⟨(.seq (.region c0C) (.cond (fun e=>e 5) (.region c0Q) .skip)),[]⟩
def e2l:Pers:=⟨4,[5],15,[]⟩
def a6n(e:a7)(a b:Value):Reg:=xB a false (wE .geq b (.int .i64 4611686018427387904)) fun c=>xA (wK a (.bool true) c) fun d=>xA (wB d) fun f=>xB f false (wB (e 1)) fun g=>xB f false (.lenStr g) fun i=>xB f false (wE .gtr i (.int .i64 64)) fun j=>xA (wK f (.bool true) j) fun k=>xC (e.upd 23 k)
def c2Y(e:a7):Reg:=xA (wB (e 0)) fun a=>xA (.eqK .ptr false a (.pointer none)) fun b=>xA (wB b) fun c=>xB c false (wB (e 2)) fun d=>xB c false (wE .lss d (.int .i64 1)) fun f=>xA (wK c (.bool true) f) fun g=>xA (wB g) fun i=>xB i false (wB (e 2)) fun j=>a6n e i j
def c1K(e:a7):Reg:=xA (wB (e 0)) fun a=>xA (wJ a) fun b=>xA (wC 6 b) fun c=>xA (wA none c) fun d=>xA (wB (e 2)) fun f=>xA (wE .sub (.int .i64 4611686018427387904) f) fun g=>xA (wE .geq d g) fun i=>xC (e.upd 30 i)
def c3h(e:a7):Reg:=xA (wB (e 0)) fun a=>xA (wD 146 [a]) fun b=>xC e
def c2R(e:a7):Reg:=xA (wB (e 0)) fun a=>xA (wJ a) fun b=>xA (wC 6 b) fun c=>xA (wA none c) fun d=>xA (wB (e 2)) fun f=>xA (wE .add d f) fun g=>xA (wJ a) fun i=>xA (wC 6 i) fun j=>xA (wF 1 j g) fun _=>xC e
def c4w(e:a7):Reg:=xA (wB (e 0)) fun a=>xA (wJ a) fun b=>xA (wC 1 b) fun c=>xA (wA none c) fun d=>xA (wB (e 1)) fun f=>xA (wD 147 [d,f]) fun g=>xA (wB g) fun i=>xC (e.upd 6 i)
def b6G(e:a7):Reg:=xA (wB (e 6)) fun a=>xA (wE .lss a (.int .i64 0)) fun b=>xC (e.upd 48 b)
def b8x(e:a7):Reg:=xA (wB (.int .i64 0)) fun a=>xC (e.upd 7 a)
def b6W(e:a7):Reg:=xA (wB (e 0)) fun a=>xD fun h1=>xA (wD 148 [a]) fun b=>xA (wB (e 0)) fun c=>xA (wJ c) fun d=>xA (wC 2 d) fun f=>xA (wA none f) fun g=>xE none (some h1) (wA none f) g<|xA (wL g) fun i=>xA (wE .eql b i) fun j=>xC (e.upd 56 j)
def b5L(e:a7):Reg:=xA (wB (e 0)) fun a=>xA (wD 149 [a]) fun b=>xA (wB b) fun c=>xC (e.upd 7 c)
def b7i(e:a7):Reg:=xA (wB (e 0)) fun a=>xA (wJ a) fun b=>xA (wC 1 b) fun c=>xA (wA none c) fun d=>xA (wB (e 1)) fun f=>xA (wD 150 [d,f]) fun g=>xA (wB g) fun i=>xC (e.upd 6 i)
def a3F(e:a7)(a b c:Value):Reg:=xA (wA none c) fun d=>xA (wB (e 6)) fun f=>xA (wB (e 7)) fun g=>xA (wB (e 7)) fun i=>xA (wI 1 a b) fun j=>xD fun h13=>xA (wF 1 j g) fun _=>xA (wI 1 d f) fun k=>xD fun h15=>xA (wF 1 k i) fun _=>xC e
def a5A(e:a7):Reg:=xA (wB (e 0)) fun a=>xA (wJ a) fun b=>xA (wC 2 b) fun c=>xA (wA none c) fun d=>xA (wB (e 6)) fun f=>xA (wB (e 0)) fun g=>xA (wJ g) fun i=>xA (wC 3 i) fun j=>a3F e d f j
def a7g(e:a7):Reg:=xA (wB (e 0)) fun a=>xA (wD 148 [a]) fun b=>xA (wE .sub b (.int .i64 1)) fun c=>xA (wB c) fun d=>xC (e.upd 8 d)
def a3s(e:a7)(a b c d f:Value):Reg:=xA (wF 1 f c) fun _=>xA (wI 1 a b) fun g=>xD fun h17=>xA (wF 1 g d) fun _=>xC e
def a3o(e:a7)(a b c:Value):Reg:=xA (wA none c) fun d=>xA (wB (e 6)) fun f=>xA (wB (e 6)) fun g=>xA (wO .i32 g) fun i=>xA (wB (e 8)) fun j=>xA (wO .i32 j) fun k=>xA (wI 1 a b) fun m=>xD fun h15=>a3s e d f i k m
def a4G(e:a7):Reg:=xA (wB (e 0)) fun a=>xA (wJ a) fun b=>xA (wC 4 b) fun c=>xA (wA none c) fun d=>xA (wB (e 8)) fun f=>xA (wB (e 0)) fun g=>xA (wJ g) fun i=>xA (wC 5 i) fun j=>a3o e d f j
def a2V(e:a7)(a b c d:Value):Reg:=xA (wE .add c d) fun f=>xA (wI 1 a b) fun g=>xA (wF 1 g f) fun _=>xC e
def a5v(e:a7):Reg:=xA (wB (e 0)) fun a=>xA (wJ a) fun b=>xA (wC 2 b) fun c=>xA (wA none c) fun d=>xA (wB (e 6)) fun f=>xA (wI 1 d f) fun g=>xA (wA none g) fun i=>xA (wB (e 2)) fun j=>a2V e d f i j
def a4M(e:a7):Reg:=xA (wB (e 0)) fun a=>xA (wB (e 6)) fun b=>xA (wD 151 [a,b]) fun c=>xC e
def c6E:=an (N8 a6n.eq_1)<|an (ro c2Y.eq_1)<|an (ro c1K.eq_1)<|an (ro c3h.eq_1)<|an (ro c2R.eq_1)<|an (ro c4w.eq_1)<|an (ro b6G.eq_1)<|an (ro b8x.eq_1)<|an (ro b6W.eq_1)<|an (ro b5L.eq_1)<|an (ro b7i.eq_1)<|an (S9 a3F.eq_1)<|an (ro a5A.eq_1)<|an (ro a7g.eq_1)<|an (ro5 a3s.eq_1)<|an (S9 a3o.eq_1)<|an (ro a4G.eq_1)<|an (ro4 a2V.eq_1)<|an (ro a5v.eq_1)<|ro a4M.eq_1
def a9V:CFn:=⟨(.seq (.seq (.region c2Y) (.cond (fun e=>e 23) .ret .skip)) (.seq (.seq (.region c1K) (.cond (fun e=>e 30) (.region c3h) .skip)) (.seq (.region c2R) (.seq (.region c4w) (.seq (.seq (.region b6G) (.cond (fun e=>e 48) (.seq (.region b8x) (.seq (.seq (.region b6W) (.cond (fun e=>e 56) (.region b5L) .skip)) (.seq (.region b7i) (.seq (.region a5A) (.seq (.region a7g) (.region a4G)))))) .skip)) (.seq (.region a5v) (.region a4M))))))),[]⟩
def e4h:Pers:=⟨9,[23,30,48,56],111,[]⟩
def c3S(e:a7):Reg:=xA (wB (.pointer none)) fun a=>xA (wB (.slice none 0 0)) fun b=>xC ((e.upd 6 a).upd 7 b)
def b8s(e:a7):Reg:=xA (wB (e 0)) fun a=>xA (wJ a) fun b=>xA (wC 13 b) fun c=>xA (wA none c) fun d=>xA (wB (e 2)) fun f=>xA (wD 139 [d,f]) fun g=>xA (wB g) fun i=>xC (e.upd 8 i)
def c4B(e:a7):Reg:=xA (wB (e 8)) fun a=>xA (.eqK .ptr true a (.pointer none)) fun b=>xC (e.upd 22 b)
def b6x(e:a7):Reg:=xA (wB (e 8)) fun a=>xA (wB a) fun b=>xA (wB (.slice none 0 0)) fun c=>xC ((e.upd 6 b).upd 7 c)
def b8y(e:a7):Reg:=xA (wB (.slice none 0 0)) fun a=>xC (e.upd 9 a)
def c4h(e:a7):Reg:=xA (wB (e 0)) fun a=>xA (wJ a) fun b=>xA (wC 13 b) fun c=>xA (wA none c) fun d=>xA (wD 141 [d]) fun f=>xC (e.upd 28 f)
def a4E(e:a7)(a b:Value):Reg:=xA (wB (e 1)) fun c=>xD fun h9=>xA (wD 140 [a,b,c]) fun d=>xA (wB d) fun f=>xA (wG f 0) fun g=>xA (wG f 1) fun i=>xA (wB g) fun j=>xA (wB i) fun k=>xC ((e.upd 10 j).upd 11 k)
def b6y(e:a7):Reg:=xA (wB (e 0)) fun a=>xA (wJ a) fun b=>xA (wC 13 b) fun c=>xA (wA none c) fun d=>xA (wB (e 0)) fun f=>xA (wJ f) fun g=>xA (wC 9 g) fun i=>xA (wA (some 4) i) fun j=>a4E e d j
def c1L(e:a7):Reg:=xA (wB (e 11)) fun a=>xA (wP .not a) fun b=>xC (e.upd 43 b)
def c2W(e:a7):Reg:=xA (wB (e 0)) fun a=>xA (wB (e 2)) fun b=>xA (wD 152 [a,b]) fun c=>xA (wB c) fun d=>xA (wG d 0) fun f=>xA (wG d 1) fun g=>xA (wB f) fun i=>xA (wB g) fun j=>xC ((e.upd 10 i).upd 11 j)
def c3t(e:a7):Reg:=xA (wB (e 11)) fun a=>xA (wP .not a) fun b=>xC (e.upd 51 b)
def b2b(e:a7):Reg:=xA (wB (.pointer none)) fun a=>xA (wB (.slice none 0 0)) fun b=>xC ((e.upd 6 a).upd 7 b)
def a0r(e:a7)(a b:Value):Reg:=xA (wG a 1) fun c=>xA (wH 250 [(.int .i64 0),(.int .i64 0),(.int .i64 0),(.int .i64 0)]) fun d=>xA (wF 4 d b) fun _=>xA (wB c) fun f=>xC ((e.upd 12 d).upd 13 f)
def b3E(e:a7):Reg:=xA (wB (e 0)) fun a=>xA (wJ a) fun b=>xA (wC 13 b) fun c=>xA (wA none c) fun d=>xA (wB (e 10)) fun f=>xA (wD 153 [d,f]) fun g=>xA (wB g) fun i=>xA (wG i 0) fun j=>a0r e i j
def a2X(e:a7)(a b c d f:Value):Reg:=xA (wC 9 f) fun g=>xA (wA (some 4) g) fun i=>xA (wB (e 1)) fun j=>xD fun h11=>xA (wD 154 [d,i,j]) fun k=>xE none none (wA none a) b<|xD fun h12=>xA (wD 136 [b,c,k]) fun m=>xC e
def a5t(e:a7):Reg:=xA (wB (e 0)) fun a=>xA (wJ a) fun b=>xA (wC 14 b) fun c=>xA (wA none c) fun d=>xA (wB (e 10)) fun f=>xA (wA (some 4) (e 12)) fun g=>xA (wB (e 0)) fun i=>xA (wJ i) fun j=>a2X e c d f g j
def a5U(e:a7):Reg:=xA (wB (e 9)) fun a=>xA (wB (e 10)) fun b=>xA (wB (e 1)) fun c=>xA (wM [(.int .i64 0),(.string ⟨#[]⟩),(.bool false),(.int .i64 0)] [(1,1,b),(3,1,c)]) fun d=>xA (.buildSlice 123 1 [(.int .i64 0),(.string ⟨#[]⟩),(.bool false),(.int .i64 0)] [(0,4,d)]) fun f=>xA (.append 123 4 40 a f) fun g=>xA (wB g) fun i=>xC (e.upd 9 i)
def a3C(e:a7)(a b c d:Value):Reg:=xE none none (wA none a) b<|xD fun h13=>xA (wD 155 [b,c,d]) fun f=>xA (wB f) fun g=>xC (e.upd 14 g)
def a3t(e:a7)(a b c d f:Value):Reg:=xA (wC 14 f) fun g=>xA (wA none g) fun i=>xA (wB (e 2)) fun j=>xD fun h11=>xA (wD 135 [i,j]) fun k=>xE none none (wA none a) b<|xD fun h12=>xA (wD 142 [d,k]) fun m=>a3C e a b c m
def a5K(e:a7):Reg:=xA (wB (e 0)) fun a=>xA (wJ a) fun b=>xA (wC 13 b) fun c=>xA (wA none c) fun d=>xA (wB (e 2)) fun f=>xA (wB (e 1)) fun g=>xA (wB (e 0)) fun i=>xA (wJ i) fun j=>a3t e c d f g j
def a6N(e:a7):Reg:=xA (wB (e 14)) fun a=>xA (wB (e 9)) fun b=>xA (wB (e 2)) fun c=>xA (wB (e 1)) fun d=>xA (wM [(.int .i64 0),(.string ⟨#[]⟩),(.bool false),(.int .i64 0)] [(1,1,c),(2,1,(.bool true)),(3,1,d)]) fun f=>xA (.buildSlice 123 1 [(.int .i64 0),(.string ⟨#[]⟩),(.bool false),(.int .i64 0)] [(0,4,f)]) fun g=>xA (.append 123 4 40 b g) fun i=>xA (wB a) fun j=>xA (wB i) fun k=>xC ((e.upd 6 j).upd 7 k)
def a0o:=an (ro c3S.eq_1)<|an (ro b8s.eq_1)<|an (ro c4B.eq_1)<|an (ro b6x.eq_1)<|an (ro b8y.eq_1)<|an (ro c4h.eq_1)<|an (N8 a4E.eq_1)<|an (ro b6y.eq_1)<|an (ro c1L.eq_1)<|an (ro c2W.eq_1)<|an (ro c3t.eq_1)<|an (ro b2b.eq_1)<|an (N8 a0r.eq_1)<|an (ro b3E.eq_1)<|an (ro5 a2X.eq_1)<|an (ro a5t.eq_1)<|an (ro a5U.eq_1)<|an (ro4 a3C.eq_1)<|an (ro5 a3t.eq_1)<|an (ro a5K.eq_1)<|ro a6N.eq_1
def Y1:CFn:=⟨(.seq (.region c3S) (.seq (.seq (.region b8s) (.seq (.region c4B) (.cond (fun e=>e 22) (.seq (.region b6x) .ret) .skip))) (.seq (.region b8y) (.seq (.seq (.region c4h) (.cond (fun e=>e 28) (.seq (.region b6y) (.seq (.seq (.region c1L) (.cond (fun e=>e 43) (.region c2W) .skip)) (.seq (.seq (.region c3t) (.cond (fun e=>e 51) (.seq (.region b2b) .ret) .skip)) (.seq (.region b3E) (.seq (.region a5t) (.region a5U)))))) .skip)) (.seq (.region a5K) (.seq (.region a6N) .ret)))))),[.t 6,.t 7]⟩
def e4y:Pers:=⟨15,[22,28,43,51],101,[]⟩
def c1E(e:a7):Reg:=xA (wN 126 (e 1)) fun a=>xA (wB (.bool false)) fun b=>xC ((e.upd 5 a).upd 8 b)
def a6F(e:a7)(a b c d:Value):Reg:=xB a false (wB (e 2)) fun f=>xD fun h9=>xB a false (wD 134 [c,d,f]) fun g=>xB a false (wE .gtr b g) fun i=>xA (wK a (.bool true) i) fun j=>xC (e.upd 20 j)
def b8A(e:a7):Reg:=xA (wB (e 3)) fun a=>xA (wE .lss a (.int .i64 1)) fun b=>xA (wB b) fun c=>xB c false (wB (e 3)) fun d=>xB c false (wB (e 0)) fun f=>xB c false (wJ f) fun g=>xB c false (wA (some 4) g) fun i=>xB c false (wA (some 4) (e 5)) fun j=>a6F e c d i j
def c0t(e:a7):Reg:=xA (wB (.bool false)) fun a=>xC (e.upd 8 a)
def a5h(e:a7)(a b c:Value):Reg:=xA (wC 0 (e 5)) fun d=>xA (wA none d) fun f=>xA (wE .mul c f) fun g=>xA (wE .add b g) fun i=>xA (wJ a) fun j=>xA (wC 0 j) fun k=>xD fun h14=>xA (wF 1 k i) fun _=>xC e
def b6r(e:a7):Reg:=xA (wB (e 0)) fun a=>xA (wB (e 0)) fun b=>xA (wJ b) fun c=>xA (wC 0 c) fun d=>xA (wA none d) fun f=>xA (wB (e 2)) fun g=>xA (.minmax true [f,g]) fun i=>xA (wB (e 3)) fun j=>a5h e a i j
def c0S(e:a7):Reg:=xA (wB (e 0)) fun a=>xA (wB (e 0)) fun b=>xA (wJ b) fun c=>xA (wC 3 c) fun d=>xA (wA none d) fun f=>xA (wB (e 3)) fun g=>xA (wD 126 [f,g]) fun i=>xA (wJ a) fun j=>xA (wC 3 j) fun k=>xA (wF 1 k i) fun _=>xC e
def c2d(e:a7):Reg:=xA (wB (.bool true)) fun a=>xC (e.upd 8 a)
def d8N:=an (ro c1E.eq_1)<|an (ro4 a6F.eq_1)<|an (ro b8A.eq_1)<|an (ro c0t.eq_1)<|an (S9 a5h.eq_1)<|an (ro b6r.eq_1)<|an (ro c0S.eq_1)<|ro c2d.eq_1
def b5i:CFn:=⟨(.seq (.region c1E) (.seq (.seq (.region b8A) (.cond (fun e=>e 20) (.seq (.region c0t) .ret) .skip)) (.seq (.region b6r) (.seq (.region c0S) (.seq (.region c2d) .ret))))),[.t 8]⟩
def e2h:Pers:=⟨9,[20],44,[]⟩
def b9I(e:a7):Reg:=xA (wN 250 (e 0)) fun a=>xA (wN 126 (e 1)) fun b=>xA (wB (.int .i64 0)) fun c=>xC (((e.upd 4 a).upd 5 b).upd 8 c)
def a6T(e:a7)(a b c d:Value):Reg:=xA (wE .sub c d) fun f=>xA (wC 0 (e 5)) fun g=>xA (wA none g) fun i=>xA (wE .mul f i) fun j=>xA (wE .add b j) fun k=>xA (wE .sub a k) fun m=>xA (.minmax true [m,(.int .i64 0)]) fun n=>xA (wB n) fun o=>xC (e.upd 9 o)
def b8c(e:a7):Reg:=xA (wC 0 (e 4)) fun a=>xA (wA none a) fun b=>xA (wB (e 2)) fun c=>xA (.minmax true [b,c]) fun d=>xA (wB (e 2)) fun f=>xA (wC 2 (e 5)) fun g=>xA (wA none g) fun i=>xA (wB (e 3)) fun j=>a6T e d f i j
def a5u(e:a7)(a:Value)(h9 h11:Heap)(b c:Value):Reg:=xB a true (wA none c) fun d=>xE (some (a,true)) (some h11) (.load none c) d<|xE (some (a,true)) (some h9) (.load none c) d<|xB a true (wE .gtr b d) fun f=>xA (wK a f (.bool false)) fun g=>xC (e.upd 40 g)
def a6x(e:a7)(a b:Value):Reg:=xB a true (wC 3 (e 4)) fun c=>xB a true (wA none c) fun d=>xD fun h9=>xB a true (wD 126 [b,d]) fun f=>xB a true (wB (e 3)) fun g=>xD fun h11=>xB a true (wD 126 [f,g]) fun i=>xB a true (wC 3 (e 5)) fun j=>a5u e a h9 h11 i j
def c1n(e:a7):Reg:=xA (wA (some 4) (e 4)) fun a=>xA (wA (some 4) (e 5)) fun b=>xA (wB (e 2)) fun c=>xD fun h3=>xA (wD 156 [a,b,c]) fun d=>xA (wB d) fun f=>xB f true (wC 2 (e 4)) fun g=>xB f true (wA none g) fun i=>a6x e f i
def b5M(e:a7):Reg:=xA (wB (e 9)) fun a=>xA (wC 1 (e 4)) fun b=>xA (wA none b) fun c=>xA (wC 1 (e 5)) fun d=>xA (wA none d) fun f=>xA (wE .add c f) fun g=>xA (wB (e 2)) fun i=>xA (wE .sub g i) fun j=>xA (.minmax true [a,j]) fun k=>xA (wB k) fun m=>xC (e.upd 9 m)
def b8j(e:a7):Reg:=xA (wB (e 9)) fun a=>xA (wB a) fun b=>xC (e.upd 8 b)
def d8T:=an (ro b9I.eq_1)<|an (ro4 a6T.eq_1)<|an (ro b8c.eq_1)<|an (ro5 a5u.eq_1)<|an (N8 a6x.eq_1)<|an (ro c1n.eq_1)<|an (ro b5M.eq_1)<|ro b8j.eq_1
def b5j:CFn:=⟨(.seq (.region b9I) (.seq (.region b8c) (.seq (.seq (.region c1n) (.cond (fun e=>e 40) (.region b5M) .skip)) (.seq (.region b8j) .ret)))),[.t 8]⟩
def e5F:Pers:=⟨10,[40],51,[]⟩
def c1Y(e:a7):Reg:=xA (wN 250 (e 0)) fun a=>xA (wN 126 (e 1)) fun b=>xA (wB (.int .i64 0)) fun c=>xC (((e.upd 3 a).upd 4 b).upd 6 c)
def b5W(e:a7):Reg:=xA (wC 2 (e 4)) fun a=>xA (wA none a) fun b=>xA (wB b) fun c=>xC (e.upd 7 c)
def b8L(e:a7):Reg:=xA (wC 0 (e 3)) fun a=>xA (wA none a) fun b=>xA (wB (e 2)) fun c=>xA (wE .sub b c) fun d=>xA (wB d) fun f=>xC (e.upd 8 f)
def b7L(e:a7):Reg:=xA (wB (e 8)) fun a=>xA (wE .gtr a (.int .i64 0)) fun b=>xC (e.upd 16 b)
def a4u(e:a7)(a b:Value):Reg:=xA (wA none b) fun c=>xA (wE .quo a c) fun d=>xA (.minmax true [d,(.int .i64 0)]) fun f=>xA (wB f) fun g=>xC (e.upd 7 g)
def c3w(e:a7):Reg:=xA (wC 2 (e 4)) fun a=>xA (wA none a) fun b=>xA (wC 0 (e 4)) fun c=>xA (wA none c) fun d=>xA (wE .mul b d) fun f=>xA (wB (e 8)) fun g=>xA (wE .sub f g) fun i=>xA (wC 0 (e 4)) fun j=>a4u e i j
def c1w(e:a7):Reg:=xA (wC 2 (e 4)) fun a=>xA (wA none a) fun b=>xA (wC 0 (e 4)) fun c=>xA (wA none c) fun d=>xA (wE .mul b d) fun f=>xA (wB (e 8)) fun g=>xA (wE .lss f g) fun i=>xC (e.upd 34 i)
def c1V(e:a7):Reg:=xA (wB (.int .i64 0)) fun a=>xC (e.upd 7 a)
def b6e(e:a7):Reg:=xA (wA (some 4) (e 3)) fun a=>xA (wA (some 4) (e 4)) fun b=>xA (wB (e 2)) fun c=>xA (wD 156 [a,b,c]) fun d=>xC (e.upd 38 d)
def a5a(e:a7)(a b c d f:Value):Reg:=xA (wD 126 [d,f]) fun g=>xE none none (wA none b) c<|xA (wE .sub c g) fun i=>xA (.minmax true [i,(.int .i64 0)]) fun j=>xA (.minmax false [a,j]) fun k=>xA (wB k) fun m=>xC (e.upd 7 m)
def b0c(e:a7):Reg:=xA (wB (e 7)) fun a=>xA (wC 3 (e 4)) fun b=>xA (wA none b) fun c=>xA (wC 2 (e 3)) fun d=>xA (wA none d) fun f=>xA (wC 3 (e 3)) fun g=>xA (wA none g) fun i=>xD fun h7=>a5a e a b c f i
def b1e(e:a7):Reg:=xA (wB (e 7)) fun a=>xA (wB a) fun b=>xC (e.upd 6 b)
def d5T:=an (ro c1Y.eq_1)<|an (ro b5W.eq_1)<|an (ro b8L.eq_1)<|an (ro b7L.eq_1)<|an (N8 a4u.eq_1)<|an (ro c3w.eq_1)<|an (ro c1w.eq_1)<|an (ro c1V.eq_1)<|an (ro b6e.eq_1)<|an (ro5 a5a.eq_1)<|an (ro b0c.eq_1)<|ro b1e.eq_1
def b1i:CFn:=⟨(.seq (.region c1Y) (.seq (.region b5W) (.seq (.seq (.region b8L) (.seq (.region b7L) (.cond (fun e=>e 16) (.seq (.region c3w) (.seq (.region c1w) (.cond (fun e=>e 34) (.region c1V) .skip))) .skip))) (.seq (.seq (.region b6e) (.cond (fun e=>e 38) (.region b0c) .skip)) (.seq (.region b1e) .ret))))),[.t 6]⟩
def e2N:Pers:=⟨9,[16,34,38],51,[]⟩
def b7U(e:a7):Reg:=xA (wB (.int .i64 0)) fun a=>xC (e.upd 4 a)
def c3f(e:a7):Reg:=xA (wB (e 0)) fun a=>xA (.eqK .ptr false a (.pointer none)) fun b=>xC (e.upd 6 b)
def b8T(e:a7):Reg:=xA (wB (.int .i64 0)) fun a=>xC (e.upd 4 a)
def a4L(e:a7)(a b:Value)(h7:Heap)(c d f:Value):Reg:=xA (wC 2 f) fun g=>xA (wA none g) fun i=>xE none (some h7) (wA none g) i<|xA (wE .rem d i) fun j=>xD fun h17=>xA (wD 157 [a,b,c,j]) fun k=>xA (wB k) fun m=>xC (e.upd 4 m)
def a6H(e:a7)(a b c d:Value)(h7:Heap):Reg:=xA (wD 158 [c,d]) fun f=>xA (wB (e 0)) fun g=>xA (wJ g) fun i=>xA (wC 6 i) fun j=>xA (wA none j) fun k=>xE none (some h7) (wA none j) k<|xA (wB (e 0)) fun m=>xA (wJ m) fun n=>a4L e a b h7 f k n
def b8t(e:a7):Reg:=xA (wB (e 0)) fun a=>xA (wB (e 1)) fun b=>xA (wB (e 0)) fun c=>xA (wB (e 0)) fun d=>xA (wJ d) fun f=>xA (wC 6 f) fun g=>xA (wA none g) fun i=>xD fun h7=>a6H e a b c i h7
def e4A:=an (ro b7U.eq_1)<|an (ro c3f.eq_1)<|an (ro b8T.eq_1)<|an (ro6 a4L.eq_1)<|an (ro5 a6H.eq_1)<|ro b8t.eq_1
def d1L:CFn:=⟨(.seq (.region b7U) (.seq (.seq (.region c3f) (.cond (fun e=>e 6) (.seq (.region b8T) .ret) .skip)) (.seq (.region b8t) .ret))),[.t 4]⟩
def e5M:Pers:=⟨5,[6],25,[]⟩
def b6X(e:a7):Reg:=xA (wB (e 0)) fun a=>xA (.eqK .ptr false a (.pointer none)) fun b=>xC (e.upd 9 b)
def c0X(e:a7):Reg:=xA (wB (e 0)) fun a=>xA (wB (e 0)) fun b=>xA (wJ b) fun c=>xA (wC 6 c) fun d=>xA (wA none d) fun f=>xA (wD 158 [a,f]) fun g=>xA (wB g) fun i=>xC (e.upd 6 i)
def c0V(e:a7):Reg:=xA (wB (e 6)) fun a=>xA (wB (e 0)) fun b=>xA (wJ b) fun c=>xA (wC 0 c) fun d=>xA (wA none d) fun f=>xA (wL f) fun g=>xA (wE .rem a g) fun i=>xA (wB i) fun j=>xC (e.upd 7 j)
def b8u(e:a7):Reg:=xA (wB (e 0)) fun a=>xA (wJ a) fun b=>xA (wC 1 b) fun c=>xA (wA none c) fun d=>xA (wB (e 7)) fun f=>xA (wI 1 d f) fun g=>xA (wA none g) fun i=>xA (wB (e 6)) fun j=>xA (wE .add j (.int .i64 1)) fun k=>xA (wE .neq i k) fun m=>xC (e.upd 32 m)
def b6E(e:a7):Reg:=xA (wB (e 0)) fun a=>xA (wJ a) fun b=>xA (wC 0 b) fun c=>xA (wA none c) fun d=>xA (wB (e 7)) fun f=>xA (wI 1 d f) fun g=>xA (wA none g) fun i=>xA (wD 159 [i]) fun j=>xC e
def b7c(e:a7):Reg:=xA (wB (e 0)) fun a=>xA (wJ a) fun b=>xA (wC 1 b) fun c=>xA (wA none c) fun d=>xA (wB (e 7)) fun f=>xA (wB (e 6)) fun g=>xA (wE .add g (.int .i64 1)) fun i=>xA (wI 1 d f) fun j=>xA (wF 1 j i) fun _=>xC e
def c4A(e:a7):Reg:=xA (wB (e 0)) fun a=>xA (wJ a) fun b=>xA (wC 0 b) fun c=>xA (wA none c) fun d=>xA (wB (e 7)) fun f=>xA (wI 1 d f) fun g=>xA (wA none g) fun i=>xA (wB (e 1)) fun j=>xA (wB (e 2)) fun k=>xA (wD 160 [i,j,k]) fun m=>xC e
def d7v:=an (ro b6X.eq_1)<|an (ro c0X.eq_1)<|an (ro c0V.eq_1)<|an (ro b8u.eq_1)<|an (ro b6E.eq_1)<|an (ro b7c.eq_1)<|ro c4A.eq_1
def b3a:CFn:=⟨(.seq (.seq (.region b6X) (.cond (fun e=>e 9) .ret .skip)) (.seq (.region c0X) (.seq (.region c0V) (.seq (.seq (.region b8u) (.cond (fun e=>e 32) (.seq (.region b6E) (.region b7c)) .skip)) (.region c4A))))),[]⟩
def e3C:Pers:=⟨8,[9,32],59,[]⟩
open Reg renaming op->xA,opg->xB,done->xC,snap->xD,chk->xE
open COp renaming load->wA,mv->wB,fieldAddr->wC,call->wD,bin->wE,store->wF,extract->wG,alloc->wH,indexSl->wI,nilCheck->wJ,pick->wK,lenSl->wL,build->wM,box->wN,conv->wO,un->wP
def b7R(e:a7):Reg:=xA (wB (.int .i64 0)) fun a=>xC (e.upd 6 a)
def a4v(e:a7)(a:Value)(h5:Heap)(b c:Value):Reg:=xD fun h7=>xB a false (wD 126 [b,c]) fun d=>xB a false (wB (e 0)) fun f=>xB a false (wJ f) fun g=>xB a false (wC 4 g) fun i=>xB a false (wA none i) fun j=>xE (some (a,false)) (some h7) (.load none i) j<|xE (some (a,false)) (some h5) (.load none i) j<|xB a false (wE .leq d j) fun k=>xA (wK a (.bool true) k) fun m=>xC (e.upd 22 m)
def b8z(e:a7):Reg:=xA (wB (e 0)) fun a=>xA (.eqK .ptr false a (.pointer none)) fun b=>xA (wB b) fun c=>xB c false (wB (e 0)) fun d=>xB c false (wB (e 1)) fun f=>xD fun h5=>xB c false (wD 135 [d,f]) fun g=>xB c false (wB (e 2)) fun i=>a4v e c h5 g i
def c0r(e:a7):Reg:=xA (wB (.int .i64 0)) fun a=>xC (e.upd 6 a)
def b6p(e:a7):Reg:=xA (wB (e 0)) fun a=>xA (wB (e 0)) fun b=>xA (wJ b) fun c=>xA (wC 6 c) fun d=>xA (wA none d) fun f=>xA (wD 158 [a,f]) fun g=>xA (wB g) fun i=>xC (e.upd 7 i)
def c1q(e:a7):Reg:=xA (wB (.int .i64 1)) fun a=>xC (e.upd 8 a)
def b6S(e:a7):Reg:=xA (wB (e 8)) fun a=>xA (wB (e 0)) fun b=>xA (wJ b) fun c=>xA (wC 0 c) fun d=>xA (wA none d) fun f=>xA (wL f) fun g=>xA (wE .leq a g) fun i=>xC (e.upd 35 i)
def a6b(e:a7)(h5:Heap)(a b:Value):Reg:=xD fun h7=>xA (wD 126 [a,b]) fun c=>xA (wB (e 0)) fun d=>xA (wJ d) fun f=>xA (wC 4 f) fun g=>xA (wA none g) fun i=>xE none (some h7) (wA none g) i<|xE none (some h5) (wA none g) i<|xA (wE .leq c i) fun j=>xC (e.upd 50 j)
def b8R(e:a7):Reg:=xA (wB (e 0)) fun a=>xA (wB (e 1)) fun b=>xA (wB (e 7)) fun c=>xA (wB (e 8)) fun d=>xA (wE .add c d) fun f=>xD fun h5=>xA (wD 157 [a,b,f,(.int .i64 0)]) fun g=>xA (wB (e 2)) fun i=>a6b e h5 g i
def a4p(e:a7)(a b:Value)(h7:Heap):Reg:=xA (wD 161 [a,b]) fun c=>xA (wB (e 0)) fun d=>xA (wJ d) fun f=>xA (wC 6 f) fun g=>xA (wA none g) fun i=>xE none (some h7) (wA none g) i<|xA (wP .neg i) fun j=>xD fun h13=>xA (wD 126 [c,j]) fun k=>xA (wB k) fun m=>xC (e.upd 6 m)
def b8Z(e:a7):Reg:=xA (wB (e 7)) fun a=>xA (wB (e 8)) fun b=>xA (wE .add a b) fun c=>xA (wB (e 0)) fun d=>xA (wJ d) fun f=>xA (wC 2 f) fun g=>xA (wA none g) fun i=>xD fun h7=>a4p e c i h7
def b6K(e:a7):Reg:=xA (wB (e 8)) fun a=>xA (wE .add a (.int .i64 1)) fun b=>xA (wB b) fun c=>xC (e.upd 8 c)
def a3V:CC:=(.seq (.seq (.region b6S) (.cond (fun e=>e 35) .skip (.exit 0))) (.seq (.block 1 (.seq (.region b8R) (.cond (fun e=>e 50) (.seq (.region b8Z) .ret) .skip))) (.region b6K)))
def a5k(e:a7)(h11:Heap)(a b:Value):Reg:=xA (wA none b) fun c=>xE none (some h11) (wA none b) c<|xA (wP .neg c) fun d=>xD fun h17=>xA (wD 126 [a,d]) fun f=>xA (wB f) fun g=>xC (e.upd 6 g)
def a5c(e:a7)(a b:Value):Reg:=xA (wJ b) fun c=>xA (wC 2 c) fun d=>xA (wA none d) fun f=>xD fun h11=>xA (wD 161 [a,f]) fun g=>xA (wB (e 0)) fun i=>xA (wJ i) fun j=>xA (wC 6 j) fun k=>a5k e h11 g k
def c3s(e:a7):Reg:=xA (wB (e 7)) fun a=>xA (wB (e 0)) fun b=>xA (wJ b) fun c=>xA (wC 0 c) fun d=>xA (wA none d) fun f=>xA (wL f) fun g=>xA (wE .add a g) fun i=>xA (wB (e 0)) fun j=>a5c e i j
def b5v:=an (ro b7R.eq_1)<|an (ro4 a4v.eq_1)<|an (ro b8z.eq_1)<|an (ro c0r.eq_1)<|an (ro b6p.eq_1)<|an (ro c1q.eq_1)<|an (ro b6S.eq_1)<|an (S9 a6b.eq_1)<|an (ro b8R.eq_1)<|an (S9 a4p.eq_1)<|an (ro b8Z.eq_1)<|an (ro b6K.eq_1)<|an (S9 a5k.eq_1)<|an (N8 a5c.eq_1)<|ro c3s.eq_1
def a7n:CFn:=⟨(.seq (.region b7R) (.seq (.seq (.region b8z) (.cond (fun e=>e 22) (.seq (.region c0r) .ret) .skip)) (.seq (.region b6p) (.seq (.seq (.region c1q) (.block 0 (.loop a3V))) (.seq (.region c3s) .ret))))),[.t 6]⟩
def e3F:Pers:=⟨9,[22,35,50],83,[]⟩
def c3x(e:a7):Reg:=xA (wB (.int .i64 0)) fun a=>xC (e.upd 4 a)
def b7Z(e:a7):Reg:=xA (wB (e 1)) fun a=>xA (.minmax true [a,(.int .i64 0)]) fun b=>xA (wB (e 0)) fun c=>xA (wJ c) fun d=>xA (wC 0 d) fun f=>xA (wC 2 f) fun g=>xA (wA none g) fun i=>xA (.minmax false [b,i]) fun j=>xA (wB j) fun k=>xC (e.upd 4 k)
def e6x:=an (ro c3x.eq_1)<|ro b7Z.eq_1
def d9o:CFn:=⟨(.seq (.region c3x) (.seq (.region b7Z) .ret)),[.t 4]⟩
def e4z:Pers:=⟨5,[],13,[]⟩
def b7a(e:a7):Reg:=xA (wB (.pointer none)) fun a=>xC (e.upd 4 a)
def c4J(e:a7):Reg:=xA (wB (e 0)) fun a=>xA (.eqK .ptr false a (.pointer none)) fun b=>xC (e.upd 7 b)
def b9b(e:a7):Reg:=xA (wB (.pointer none)) fun a=>xC (e.upd 4 a)
def b6s(e:a7):Reg:=xA (wB (e 0)) fun a=>xA (wJ a) fun b=>xA (wC 1 b) fun c=>xA (wA none c) fun d=>xA (wB (e 1)) fun f=>xA (wD 147 [d,f]) fun g=>xA (wB g) fun i=>xC (e.upd 5 i)
def b9m(e:a7):Reg:=xA (wB (e 5)) fun a=>xA (wE .geq a (.int .i64 0)) fun b=>xC (e.upd 15 b)
def b7O(e:a7):Reg:=xA (wB (e 0)) fun a=>xA (wJ a) fun b=>xA (wC 2 b) fun c=>xA (wA none c) fun d=>xA (wB (e 5)) fun f=>xA (wI 4 d f) fun g=>xA (wB g) fun i=>xC (e.upd 4 i)
def c3m(e:a7):Reg:=xA (wB (.pointer none)) fun a=>xC (e.upd 4 a)
def d9R:=an (ro b7a.eq_1)<|an (ro c4J.eq_1)<|an (ro b9b.eq_1)<|an (ro b6s.eq_1)<|an (ro b9m.eq_1)<|an (ro b7O.eq_1)<|ro c3m.eq_1
def c5n:CFn:=⟨(.seq (.region b7a) (.seq (.seq (.region c4J) (.cond (fun e=>e 7) (.seq (.region b9b) .ret) .skip)) (.seq (.seq (.region b6s) (.seq (.region b9m) (.cond (fun e=>e 15) (.seq (.region b7O) .ret) .skip))) (.seq (.region c3m) .ret)))),[.t 4]⟩
def e4S:Pers:=⟨6,[7,15],22,[]⟩
def b7l(e:a7):Reg:=xA (wB (e 0)) fun a=>xA (.makeFunc 162 [a] []) fun b=>xC (e.upd 11 b)
def b7X(e:a7):Reg:=xA (wN 126 (e 1)) fun a=>xA (wN 2 (e 2)) fun b=>xA (wH 9 [(.string ⟨#[]⟩)]) fun c=>xA (wH 4 [(.bool false)]) fun d=>xC ((((e.upd 4 a).upd 5 b).upd 6 c).upd 7 d)
def b6z(e:a7):Reg:=xA (wB (e 12)) fun a=>xC (e.upd 8 a)
def c2T(e:a7):Reg:=xA (wH 250 [(.int .i64 0),(.int .i64 0),(.int .i64 0),(.int .i64 0)]) fun a=>xA (wF 4 a (e 13)) fun _=>xC (e.upd 9 a)
def b8V(e:a7):Reg:=xA (wA (some 4) (e 9)) fun a=>xA (wA (some 4) (e 4)) fun b=>xA (wA none (e 5)) fun c=>xA (wD 163 [a,b,c]) fun d=>xC (e.upd 17 d)
def c0N(e:a7):Reg:=xA (wB (e 8)) fun a=>xA (wF 1 (e 6) a) fun _=>xA (wF 1 (e 7) (.bool true)) fun _=>xC e
def c1D(e:a7):Reg:=xA (wF 1 (e 6) (.string ⟨#[]⟩)) fun _=>xA (wF 1 (e 7) (.bool false)) fun _=>xC e
def b5x:CC:=(.seq (.region b6z) (.region c2T))
def a5j:CC:=(.block 1 (.seq (.region b8V) (.cond (fun e=>e 17) (.seq (.region c0N) .ret) .skip)))
def b4A:CC:=(.seq (.seq (.region c1D) .ret) .skip)
def c5C:=an (ro b7l.eq_1)<|an (ro b7X.eq_1)<|an (ro b6z.eq_1)<|an (ro c2T.eq_1)<|an (ro b8V.eq_1)<|an (ro c0N.eq_1)<|ro c1D.eq_1
def b0f:CFn:=⟨(.rng (.seq (.region b7X) (.seq (.region b7l) .skip)) 0 (fun e=>(e 11)) [12,13] b5x a5j b4A),[.c 6 none,.c 7 none]⟩
def e3Z:Pers:=⟨10,[11,12,13,17],19,[]⟩
def b7z(e:a7):Reg:=xA (wB (.bool false)) fun a=>xC (e.upd 2 a)
def a4H(e:a7)(a:Value)(h4:Heap)(b c:Value):Reg:=xB a false (wC 2 c) fun d=>xB a false (wA none d) fun f=>xE (some (a,false)) (some h4) (.load none d) f<|xB a false (wL f) fun g=>xB a false (wE .eql b g) fun i=>xA (wK a (.bool true) i) fun j=>xA (wB j) fun k=>xC (e.upd 2 k)
def c1X(e:a7):Reg:=xA (wB (e 0)) fun a=>xA (.eqK .ptr false a (.pointer none)) fun b=>xA (wB b) fun c=>xB c false (wB (e 0)) fun d=>xD fun h4=>xB c false (wD 49 [d]) fun f=>xB c false (wB (e 0)) fun g=>xB c false (wJ g) fun i=>a4H e c h4 f i
def e7s:=an (ro b7z.eq_1)<|an (ro4 a4H.eq_1)<|ro c1X.eq_1
def d8D:CFn:=⟨(.seq (.region b7z) (.seq (.region c1X) .ret)),[.t 2]⟩
def e2R:Pers:=⟨3,[],15,[]⟩
def c4C(e:a7):Reg:=xA (wH 250 [(.int .i64 0),(.int .i64 0),(.int .i64 0),(.int .i64 0)]) fun a=>xC (e.upd 4 a)
def b7k(e:a7):Reg:=xA (wB (e 0)) fun a=>xA (wB (e 0)) fun b=>xA (wB (e 1)) fun c=>xA (wM [(.int .i64 0),(.int .i64 0),(.int .i64 0),(.int .i64 0)] [(0,1,a),(1,1,b),(2,1,c)]) fun d=>xA (wF 4 (e 4) d) fun _=>xC e
def e7l:=an (ro c4C.eq_1)<|ro b7k.eq_1
def d8Q:CFn:=⟨(.seq (.region c4C) (.seq (.region b7k) .ret)),[.c 4 (some 4)]⟩
def e5H:Pers:=⟨5,[],9,[]⟩
def c4S(e:a7):Reg:=xA (wB (.int .i64 0)) fun a=>xA (wB (.bool false)) fun b=>xC ((e.upd 4 a).upd 5 b)
def c1c(e:a7):Reg:=xA (wB (e 0)) fun a=>xA (wB (e 1)) fun b=>xA (wE .add a b) fun c=>xA (wB c) fun d=>xC (e.upd 6 d)
def c3Y(e:a7):Reg:=xA (wB (e 6)) fun a=>xA (wB (e 6)) fun b=>xA (wB (e 0)) fun c=>xA (wE .gtr b c) fun d=>xA (wB (e 1)) fun f=>xA (wE .gtr f (.int .i64 0)) fun g=>xA (.eqK .bool false d g) fun i=>xA (wB a) fun j=>xA (wB i) fun k=>xC ((e.upd 4 j).upd 5 k)
def e6p:=an (ro c4S.eq_1)<|an (ro c1c.eq_1)<|ro c3Y.eq_1
def d8h:CFn:=⟨(.seq (.region c4S) (.seq (.region c1c) (.seq (.region c3Y) .ret))),[.t 4,.t 5]⟩
def e2F:Pers:=⟨7,[],17,[]⟩
def b5D(e:a7):Reg:=xA (wB (.int .i64 0)) fun a=>xC (e.upd 2 a)
def c0I(e:a7):Reg:=xA (wB (e 0)) fun a=>xC (e.upd 3 a)
def b7G(e:a7):Reg:=xA (wB (.int .i64 (-9223372036854775808))) fun a=>xC (e.upd 2 a)
def b7T(e:a7):Reg:=xA (wB (.int .i64 9223372036854775807)) fun a=>xC (e.upd 2 a)
def e6m:=an (ro b5D.eq_1)<|an (ro c0I.eq_1)<|an (ro b7G.eq_1)<|ro b7T.eq_1
def d8V:CFn:=⟨(.seq (.region b5D) (.seq (.seq (.region c0I) (.cond (fun e=>e 3) (.seq (.region b7G) .ret) .skip)) (.seq (.region b7T) .ret))),[.t 2]⟩
def e2w:Pers:=⟨3,[3],4,[]⟩
def c2K(e:a7):Reg:=xA (wB (.int .i64 0)) fun a=>xC (e.upd 4 a)
def b9i(e:a7):Reg:=xA (wB (e 0)) fun a=>xA (.eqK .ptr false a (.pointer none)) fun b=>xC (e.upd 8 b)
def b8B(e:a7):Reg:=xA (wB (.int .i64 (-1))) fun a=>xC (e.upd 4 a)
def b9n(e:a7):Reg:=xA (wB (e 0)) fun a=>xA (wB (e 1)) fun b=>xA (wD 165 [a,b]) fun c=>xA (wB c) fun d=>xA (wG d 0) fun f=>xA (wG d 1) fun g=>xA (wB f) fun i=>xA (wB g) fun j=>xC ((e.upd 5 i).upd 6 j)
def b5T(e:a7):Reg:=xA (wB (e 6)) fun a=>xA (wB a) fun b=>xC (e.upd 4 b)
def e3p:=an (ro c2K.eq_1)<|an (ro b9i.eq_1)<|an (ro b8B.eq_1)<|an (ro b9n.eq_1)<|ro b5T.eq_1
def d0r:CFn:=⟨(.seq (.region c2K) (.seq (.seq (.region b9i) (.cond (fun e=>e 8) (.seq (.region b8B) .ret) .skip)) (.seq (.region b9n) (.seq (.region b5T) .ret)))),[.t 4]⟩
def e5y:Pers:=⟨7,[8],16,[]⟩
def c0B(e:a7):Reg:=xA (wB (.int .i64 0)) fun a=>xC (e.upd 2 a)
def b6V(e:a7):Reg:=xA (wB (e 0)) fun a=>xA (.eqK .ptr false a (.pointer none)) fun b=>xC (e.upd 4 b)
def c1y(e:a7):Reg:=xA (wB (.int .i64 0)) fun a=>xC (e.upd 2 a)
def c3M(e:a7):Reg:=xA (wB (e 0)) fun a=>xA (wJ a) fun b=>xA (wC 0 b) fun c=>xA (wA none c) fun d=>xA (wD 70 [d]) fun f=>xA (wB f) fun g=>xC (e.upd 2 g)
def e4f:=an (ro c0B.eq_1)<|an (ro b6V.eq_1)<|an (ro c1y.eq_1)<|ro c3M.eq_1
def d7b:CFn:=⟨(.seq (.region c0B) (.seq (.seq (.region b6V) (.cond (fun e=>e 4) (.seq (.region c1y) .ret) .skip)) (.seq (.region c3M) .ret))),[.t 2]⟩
def e3e:Pers:=⟨3,[4],10,[]⟩
def c0F(e:a7):Reg:=xA (wB (.int .i64 0)) fun a=>xC (e.upd 2 a)
def a5D(e:a7)(a b:Value):Reg:=xA (wE .sub b (.int .i64 1)) fun c=>xA (wI 1 a c) fun d=>xA (wA none d) fun f=>xA (wB f) fun g=>xC (e.upd 3 g)
def c4U(e:a7):Reg:=xA (wB (e 0)) fun a=>xA (wJ a) fun b=>xA (wC 4 b) fun c=>xA (wA none c) fun d=>xA (wB (e 0)) fun f=>xD fun h5=>xA (wD 148 [f]) fun g=>xE none none (wA none c) d<|a5D e d g
def a6w(e:a7)(a:Value):Reg:=xA (wG a 0) fun b=>xA (wG a 1) fun c=>xA (wB b) fun d=>xA (wB c) fun f=>xC ((e.upd 4 d).upd 5 f)
def b7V(e:a7):Reg:=xA (wB (e 0)) fun a=>xA (wJ a) fun b=>xA (wC 0 b) fun c=>xA (wA none c) fun d=>xA (wB (e 3)) fun f=>xA (wO .i64 f) fun g=>xA (wD 166 [d,g]) fun i=>xA (wB i) fun j=>a6w e j
def b8N(e:a7):Reg:=xA (wB (e 0)) fun a=>xA (wJ a) fun b=>xA (wC 1 b) fun c=>xA (wA none c) fun d=>xA (wB (e 4)) fun f=>xA (wD 167 [d,f]) fun g=>xC e
def c3U(e:a7):Reg:=xA (wB (e 0)) fun a=>xA (wJ a) fun b=>xA (wC 2 b) fun c=>xA (wA none c) fun d=>xA (wB (e 3)) fun f=>xA (wI 1 d f) fun g=>xA (wA none g) fun i=>xA (wB i) fun j=>xC (e.upd 2 j)
def e5K:=an (ro c0F.eq_1)<|an (N8 a5D.eq_1)<|an (ro c4U.eq_1)<|an (ro1 a6w.eq_1)<|an (ro b7V.eq_1)<|an (ro b8N.eq_1)<|ro c3U.eq_1
def d5B:CFn:=⟨(.seq (.region c0F) (.seq (.region c4U) (.seq (.region b7V) (.seq (.region b8N) (.seq (.region c3U) .ret))))),[.t 2]⟩
def e2A:Pers:=⟨6,[],38,[]⟩
def b6N(e:a7):Reg:=xA (wB (.int .i64 0)) fun a=>xC (e.upd 4 a)
def c0d(e:a7):Reg:=xA (wB (e 0)) fun a=>xA (.eqK .ptr false a (.pointer none)) fun b=>xC (e.upd 8 b)
def c0o(e:a7):Reg:=xA (wB (.int .i64 (-1))) fun a=>xC (e.upd 4 a)
def c1H(e:a7):Reg:=xA (wB (e 0)) fun a=>xA (wB (e 1)) fun b=>xA (wD 165 [a,b]) fun c=>xA (wB c) fun d=>xA (wG d 0) fun f=>xA (wG d 1) fun g=>xA (wB f) fun i=>xA (wB g) fun j=>xC ((e.upd 5 i).upd 6 j)
def b8w(e:a7):Reg:=xA (wB (e 6)) fun a=>xA (wE .geq a (.int .i64 0)) fun b=>xC (e.upd 16 b)
def b6H(e:a7):Reg:=xA (wB (.int .i64 (-1))) fun a=>xC (e.upd 4 a)
def b8o(e:a7):Reg:=xA (wB (e 0)) fun a=>xA (wJ a) fun b=>xA (wC 0 b) fun c=>xA (wA none c) fun d=>xA (wB (e 1)) fun f=>xA (wD 168 [d,f]) fun g=>xA (wB g) fun i=>xC (e.upd 6 i)
def b7B(e:a7):Reg:=xA (wB (e 6)) fun a=>xA (wE .geq a (.int .i64 0)) fun b=>xC (e.upd 24 b)
def b9M(e:a7):Reg:=xA (wB (e 0)) fun a=>xA (wJ a) fun b=>xA (wC 4 b) fun c=>xA (wA none c) fun d=>xA (wB (e 5)) fun f=>xA (wB (e 6)) fun g=>xA (wO .i32 g) fun i=>xA (wE .add i (.int .i32 1)) fun j=>xA (wI 1 d f) fun k=>xA (wF 1 k j) fun _=>xC e
def c2m(e:a7):Reg:=xA (wB (e 6)) fun a=>xA (wB a) fun b=>xC (e.upd 4 b)
def e1b:=an (ro b6N.eq_1)<|an (ro c0d.eq_1)<|an (ro c0o.eq_1)<|an (ro c1H.eq_1)<|an (ro b8w.eq_1)<|an (ro b6H.eq_1)<|an (ro b8o.eq_1)<|an (ro b7B.eq_1)<|an (ro b9M.eq_1)<|ro c2m.eq_1
def c5V:CFn:=⟨(.seq (.region b6N) (.seq (.seq (.region c0d) (.cond (fun e=>e 8) (.seq (.region c0o) .ret) .skip)) (.seq (.region c1H) (.seq (.seq (.region b8w) (.cond (fun e=>e 16) (.seq (.region b6H) .ret) .skip)) (.seq (.seq (.region b8o) (.seq (.region b7B) (.cond (fun e=>e 24) (.region b9M) .skip))) (.seq (.region c2m) .ret)))))),[.t 4]⟩
def e2a:Pers:=⟨7,[8,16,24],35,[]⟩
def b6w(e:a7):Reg:=xA (wB (e 0)) fun a=>xA (wJ a) fun b=>xA (wC 5 b) fun c=>xA (wA none c) fun d=>xA (wB (e 1)) fun f=>xA (wI 1 d f) fun g=>xA (wA none g) fun i=>xA (wO .i64 i) fun j=>xA (wB j) fun k=>xC (e.upd 4 k)
def a5S(e:a7)(a b:Value):Reg:=xB a true (wA none b) fun c=>xB a true (wB (e 0)) fun d=>xB a true (wJ d) fun f=>xB a true (wC 2 f) fun g=>xB a true (wA none g) fun i=>xB a true (wB (e 1)) fun j=>xB a true (wI 1 i j) fun k=>xB a true (wA none k) fun m=>xB a true (wE .lss c m) fun n=>xA (wK a n (.bool false)) fun o=>xC (e.upd 38 o)
def a6j(e:a7)(a b c:Value):Reg:=xB a true (wJ c) fun d=>xB a true (wC 4 d) fun f=>xB a true (wA none f) fun g=>xB a true (wB (e 4)) fun i=>xB a true (wE .sub i (.int .i64 1)) fun j=>xB a true (wI 1 g j) fun k=>xB a true (wA none k) fun m=>xB a true (wI 1 b m) fun n=>a5S e a n
def c3W(e:a7):Reg:=xA (wB (e 4)) fun a=>xA (wE .gtr a (.int .i64 0)) fun b=>xA (wB b) fun c=>xB c true (wB (e 0)) fun d=>xB c true (wJ d) fun f=>xB c true (wC 2 f) fun g=>xB c true (wA none g) fun i=>xB c true (wB (e 0)) fun j=>a6j e c i j
def a6k(e:a7)(a b c:Value):Reg:=xA (wA none c) fun d=>xA (wB (e 4)) fun f=>xA (wE .sub f (.int .i64 1)) fun g=>xA (wI 1 d g) fun i=>xA (wA none i) fun j=>xA (wI 1 a b) fun k=>xD fun h14=>xA (wF 1 k j) fun _=>xC e
def b7m(e:a7):Reg:=xA (wB (e 0)) fun a=>xA (wJ a) fun b=>xA (wC 4 b) fun c=>xA (wA none c) fun d=>xA (wB (e 4)) fun f=>xA (wB (e 0)) fun g=>xA (wJ g) fun i=>xA (wC 4 i) fun j=>a6k e d f j
def a5l(e:a7)(a b:Value):Reg:=xA (wB (e 4)) fun c=>xA (wI 1 b c) fun d=>xA (wA none d) fun f=>xA (wB (e 4)) fun g=>xA (wO .i32 g) fun i=>xA (wI 1 a f) fun j=>xD fun h14=>xA (wF 1 j i) fun _=>xC e
def c4i(e:a7):Reg:=xA (wB (e 0)) fun a=>xA (wJ a) fun b=>xA (wC 5 b) fun c=>xA (wA none c) fun d=>xA (wB (e 0)) fun f=>xA (wJ f) fun g=>xA (wC 4 g) fun i=>xA (wA none i) fun j=>a5l e d j
def b8G(e:a7):Reg:=xA (wB (e 4)) fun a=>xA (wE .sub a (.int .i64 1)) fun b=>xA (wB b) fun c=>xC (e.upd 4 c)
def a1Z:CC:=(.seq (.seq (.region c3W) (.cond (fun e=>e 38) .skip (.exit 0))) (.seq (.block 1 (.seq (.region b7m) (.region c4i))) (.region b8G)))
def a7b(e:a7)(a b c d f:Value):Reg:=xA (wF 1 f c) fun _=>xA (wI 1 a b) fun g=>xD fun h17=>xA (wF 1 g d) fun _=>xC e
def a4k(e:a7)(a b c:Value):Reg:=xA (wA none c) fun d=>xA (wB (e 1)) fun f=>xA (wB (e 1)) fun g=>xA (wO .i32 g) fun i=>xA (wB (e 4)) fun j=>xA (wO .i32 j) fun k=>xA (wI 1 a b) fun m=>xD fun h15=>a7b e d f i k m
def b6Z(e:a7):Reg:=xA (wB (e 0)) fun a=>xA (wJ a) fun b=>xA (wC 4 b) fun c=>xA (wA none c) fun d=>xA (wB (e 4)) fun f=>xA (wB (e 0)) fun g=>xA (wJ g) fun i=>xA (wC 5 i) fun j=>a4k e d f j
def d8y:=an (ro b6w.eq_1)<|an (N8 a5S.eq_1)<|an (S9 a6j.eq_1)<|an (ro c3W.eq_1)<|an (S9 a6k.eq_1)<|an (ro b7m.eq_1)<|an (N8 a5l.eq_1)<|an (ro c4i.eq_1)<|an (ro b8G.eq_1)<|an (ro5 a7b.eq_1)<|an (S9 a4k.eq_1)<|ro b6Z.eq_1
def b4v:CFn:=⟨(.seq (.region b6w) (.seq (.block 0 (.loop a1Z)) (.region b6Z))),[]⟩
def e3L:Pers:=⟨5,[38],85,[]⟩
def b7b(e:a7):Reg:=xA (wA none (e 2)) fun a=>xA (wJ a) fun b=>xA (wC 13 b) fun c=>xA (wA none c) fun d=>xA (.makeFunc 162 [d] []) fun f=>xC (e.upd 35 f)
def b9f(e:a7):Reg:=xA (wH 4 [(.bool false)]) fun a=>xA (wF 1 a (.bool false)) fun _=>xC (e.upd 11 a)
def c2S(e:a7):Reg:=xA (wB (e 6)) fun a=>xA (wB (e 7)) fun b=>xA (wE .sub a b) fun c=>xA (wH 9 [(.string ⟨#[]⟩)]) fun d=>xA (wH 2 [(.int .i64 0)]) fun f=>xA (wF 1 d (.string ⟨#[]⟩)) fun _=>xA (wF 1 f c) fun _=>xC ((e.upd 9 d).upd 10 f)
def c0j(e:a7):Reg:=xA (wB (e 8)) fun a=>xA (wP .not a) fun b=>xC (e.upd 27 b)
def c3g(e:a7):Reg:=xA (wB (.string ⟨#[]⟩)) fun a=>xA (wB (.bool false)) fun b=>xC ((e.upd 4 a).upd 5 b)
def a6B(e:a7)(a b:Value):Reg:=xA (wG a 1) fun c=>xA (wG a 2) fun d=>xA (wB b) fun f=>xA (wB c) fun g=>xA (wB d) fun i=>xC (((e.upd 6 f).upd 7 g).upd 8 i)
def b7Q(e:a7):Reg:=xA (wA none (e 2)) fun a=>xA (wJ a) fun b=>xA (wC 15 b) fun c=>xA (wA none c) fun d=>xA (wB (e 1)) fun f=>xA (wD 169 [d,f]) fun g=>xA (wB g) fun i=>xA (wG i 0) fun j=>a6B e i j
def c3u(e:a7):Reg:=xA (wN 94 (e 0)) fun a=>xA (wB (.string ⟨#[]⟩)) fun b=>xA (wB (.bool false)) fun c=>xC (((e.upd 2 a).upd 4 b).upd 5 c)
def b9y(e:a7):Reg:=xA (wB (e 36)) fun a=>xC (e.upd 12 a)
def a6V(e:a7)(a b:Value):Reg:=xA (wG a 1) fun c=>xA (wG a 2) fun d=>xA (wB b) fun f=>xA (wB c) fun g=>xA (wB d) fun i=>xC (((e.upd 13 f).upd 14 g).upd 15 i)
def b7d(e:a7):Reg:=xA (wA none (e 2)) fun a=>xA (wJ a) fun b=>xA (wC 15 b) fun c=>xA (wA none c) fun d=>xA (wB (e 12)) fun f=>xA (wD 169 [d,f]) fun g=>xA (wB g) fun i=>xA (wG i 0) fun j=>a6V e i j
def c2f(e:a7):Reg:=xA (wB (e 15)) fun a=>xA (wP .not a) fun b=>xC (e.upd 49 b)
def b1X(e:a7):Reg:=xA (wA none (e 2)) fun a=>xA (wJ a) fun b=>xA (wC 15 b) fun c=>xA (wA none c) fun d=>xA (wD 170 [d]) fun f=>xA (wB f) fun g=>xC (e.upd 13 g)
def b3y(e:a7):Reg:=xA (wB (e 13)) fun a=>xA (wA none (e 10)) fun b=>xA (wE .lss a b) fun c=>xC (e.upd 57 c)
def b3j(e:a7):Reg:=xA (wB (e 12)) fun a=>xA (wB (e 13)) fun b=>xA (wF 1 (e 9) a) fun _=>xA (wF 1 (e 10) b) fun _=>xA (wF 1 (e 11) (.bool true)) fun _=>xC e
def b3I(e:a7):Reg:=xA (wA none (e 9)) fun a=>xA (wA none (e 11)) fun b=>xA (wB a) fun c=>xA (wB b) fun d=>xC ((e.upd 4 c).upd 5 d)
def b4s:CC:=(.region b9y)
def a1l:CC:=(.block 1 (.seq (.region b7d) (.seq (.seq (.region c2f) (.cond (fun e=>e 49) (.region b1X) .skip)) (.seq (.region b3y) (.cond (fun e=>e 57) (.region b3j) .skip)))))
def b4i:CC:=(.seq (.seq (.region b3I) .ret) .skip)
def a7m:=an (ro b7b.eq_1)<|an (ro b9f.eq_1)<|an (ro c2S.eq_1)<|an (ro c0j.eq_1)<|an (ro c3g.eq_1)<|an (N8 a6B.eq_1)<|an (ro b7Q.eq_1)<|an (ro c3u.eq_1)<|an (ro b9y.eq_1)<|an (N8 a6V.eq_1)<|an (ro b7d.eq_1)<|an (ro c2f.eq_1)<|an (ro b1X.eq_1)<|an (ro b3y.eq_1)<|an (ro b3j.eq_1)<|ro b3I.eq_1
def a2x:CFn:=⟨(.rng (.seq (.region c3u) (.seq (.region b7Q) (.seq (.seq (.region c0j) (.cond (fun e=>e 27) (.seq (.region c3g) .ret) .skip)) (.seq (.region c2S) (.seq (.region b9f) (.seq (.region b7b) .skip)))))) 0 (fun e=>(e 35)) [36,37] b4s a1l b4i),[.t 4,.t 5]⟩
def e1Z:Pers:=⟨16,[27,35,36,37,49,57],62,[]⟩
def b6d(e:a7):Reg:=xA (wH 250 [(.int .i64 0),(.int .i64 0),(.int .i64 0),(.int .i64 0)]) fun a=>xA (wB (.bool false)) fun b=>xC ((e.upd 4 a).upd 5 b)
def b9N(e:a7):Reg:=xA (wB (e 0)) fun a=>xA (.eqK .ptr false a (.pointer none)) fun b=>xC (e.upd 8 b)
def b8D(e:a7):Reg:=xA (wM [(.int .i64 0),(.int .i64 0),(.int .i64 0),(.int .i64 0)] []) fun a=>xA (wF 4 (e 4) a) fun _=>xA (wB (.bool false)) fun b=>xC (e.upd 5 b)
def c4R(e:a7):Reg:=xA (wB (e 0)) fun a=>xA (wJ a) fun b=>xA (wC 1 b) fun c=>xA (wA none c) fun d=>xA (wB (e 1)) fun f=>xA (wD 167 [d,f]) fun g=>xA (wB g) fun i=>xC (e.upd 6 i)
def c4l(e:a7):Reg:=xA (wB (e 6)) fun a=>xA (wE .lss a (.int .i64 0)) fun b=>xC (e.upd 17 b)
def c2U(e:a7):Reg:=xA (wM [(.int .i64 0),(.int .i64 0),(.int .i64 0),(.int .i64 0)] []) fun a=>xA (wF 4 (e 4) a) fun _=>xA (wB (.bool false)) fun b=>xC (e.upd 5 b)
def c1C(e:a7):Reg:=xA (wB (e 0)) fun a=>xA (wJ a) fun b=>xA (wC 2 b) fun c=>xA (wA none c) fun d=>xA (wB (e 6)) fun f=>xA (wI 4 d f) fun g=>xA (wA (some 4) g) fun i=>xA (wF 4 (e 4) i) fun _=>xA (wB (.bool true)) fun j=>xC (e.upd 5 j)
def e4M:=an (ro b6d.eq_1)<|an (ro b9N.eq_1)<|an (ro b8D.eq_1)<|an (ro c4R.eq_1)<|an (ro c4l.eq_1)<|an (ro c2U.eq_1)<|ro c1C.eq_1
def d3E:CFn:=⟨(.seq (.region b6d) (.seq (.seq (.region b9N) (.cond (fun e=>e 8) (.seq (.region b8D) .ret) .skip)) (.seq (.region c4R) (.seq (.seq (.region c4l) (.cond (fun e=>e 17) (.seq (.region c2U) .ret) .skip)) (.seq (.region c1C) .ret))))),[.c 4 (some 4),.t 5]⟩
def e5j:Pers:=⟨7,[8,17],26,[]⟩
def c3C(e:a7):Reg:=xA (wN 250 (e 0)) fun a=>xA (wN 126 (e 1)) fun b=>xA (wB (.int .i64 0)) fun c=>xC (((e.upd 3 a).upd 4 b).upd 6 c)
def c0g(e:a7):Reg:=xA (wA (some 4) (e 3)) fun a=>xA (wA (some 4) (e 4)) fun b=>xA (wB (e 2)) fun c=>xA (wD 156 [a,b,c]) fun d=>xC (e.upd 10 d)
def c2w(e:a7):Reg:=xA (wC 3 (e 3)) fun a=>xA (wA none a) fun b=>xA (wC 3 (e 4)) fun c=>xA (wA none c) fun d=>xA (.minmax false [b,d]) fun f=>xA (wB f) fun g=>xC (e.upd 6 g)
def a5N(e:a7)(a b:Value):Reg:=xA (wA none b) fun c=>xA (wE .quo a c) fun d=>xA (.minmax true [d,(.int .i64 0)]) fun f=>xA (wC 3 (e 4)) fun g=>xA (wA none g) fun i=>xA (.minmax false [f,i]) fun j=>xA (wB j) fun k=>xC (e.upd 6 k)
def c2q(e:a7):Reg:=xA (wC 0 (e 3)) fun a=>xA (wA none a) fun b=>xA (wB (e 2)) fun c=>xA (wC 1 (e 4)) fun d=>xA (wA none d) fun f=>xA (wE .sub c f) fun g=>xA (wE .sub b g) fun i=>xA (wC 0 (e 4)) fun j=>a5N e i j
def d9W:=an (ro c3C.eq_1)<|an (ro c0g.eq_1)<|an (ro c2w.eq_1)<|an (N8 a5N.eq_1)<|ro c2q.eq_1
def c6N:CFn:=⟨(.seq (.region c3C) (.seq (.seq (.region c0g) (.cond (fun e=>e 10) (.seq (.region c2w) .ret) .skip)) (.seq (.region c2q) .ret))),[.t 6]⟩
def e3r:Pers:=⟨7,[10],30,[]⟩
def b8O(e:a7):Reg:=xA (wN 250 (e 2)) fun a=>xA (wB (.pointer none)) fun b=>xC ((e.upd 5 a).upd 6 b)
def b7v(e:a7):Reg:=xA (wB (e 0)) fun a=>xA (.eqK .ptr false a (.pointer none)) fun b=>xC (e.upd 9 b)
def c2Q(e:a7):Reg:=xA (wB (.pointer none)) fun a=>xC (e.upd 6 a)
def b9k(e:a7):Reg:=xA (wB (e 0)) fun a=>xA (wJ a) fun b=>xA (wC 1 b) fun c=>xA (wA none c) fun d=>xA (wB (e 1)) fun f=>xA (wD 150 [d,f]) fun g=>xA (wB g) fun i=>xC (e.upd 7 i)
def c2a(e:a7):Reg:=xA (wB (e 7)) fun a=>xA (wE .lss a (.int .i64 0)) fun b=>xC (e.upd 17 b)
def b7K(e:a7):Reg:=xA (wB (.pointer none)) fun a=>xC (e.upd 6 a)
def b7D(e:a7):Reg:=xA (wB (e 0)) fun a=>xA (wJ a) fun b=>xA (wC 2 b) fun c=>xA (wA none c) fun d=>xA (wB (e 7)) fun f=>xA (wA (some 4) (e 5)) fun g=>xA (wI 4 d f) fun i=>xD fun h7=>xA (wF 4 i g) fun _=>xC e
def b8S(e:a7):Reg:=xA (wB (e 0)) fun a=>xA (wJ a) fun b=>xA (wC 2 b) fun c=>xA (wA none c) fun d=>xA (wB (e 7)) fun f=>xA (wI 4 d f) fun g=>xA (wB g) fun i=>xC (e.upd 6 i)
def e5s:=an (ro b8O.eq_1)<|an (ro b7v.eq_1)<|an (ro c2Q.eq_1)<|an (ro b9k.eq_1)<|an (ro c2a.eq_1)<|an (ro b7K.eq_1)<|an (ro b7D.eq_1)<|ro b8S.eq_1
def d1G:CFn:=⟨(.seq (.region b8O) (.seq (.seq (.region b7v) (.cond (fun e=>e 9) (.seq (.region c2Q) .ret) .skip)) (.seq (.region b9k) (.seq (.seq (.region c2a) (.cond (fun e=>e 17) (.seq (.region b7K) .ret) .skip)) (.seq (.region b7D) (.seq (.region b8S) .ret)))))),[.t 6]⟩
def e5q:Pers:=⟨8,[9,17],31,[]⟩
def b9x(e:a7):Reg:=xA (wN 250 (e 0)) fun a=>xA (wN 126 (e 1)) fun b=>xA (wB (.bool false)) fun c=>xC (((e.upd 3 a).upd 4 b).upd 6 c)
def c2b(e:a7):Reg:=xA (wB (e 2)) fun a=>xA (wC 1 (e 3)) fun b=>xA (wA none b) fun c=>xA (wC 1 (e 4)) fun d=>xA (wA none d) fun f=>xA (wD 126 [c,f]) fun g=>xA (wE .lss a g) fun i=>xA (wB i) fun j=>xC (e.upd 6 j)
def e8n:=an (ro b9x.eq_1)<|ro c2b.eq_1
def d8v:CFn:=⟨(.seq (.region b9x) (.seq (.region c2b) .ret)),[.t 6]⟩
def e3U:Pers:=⟨7,[],14,[]⟩
def b6R(e:a7):Reg:=xA (wB (.int .i64 0)) fun a=>xC (e.upd 8 a)
def b7e(e:a7):Reg:=xA (wB (.int .i64 0)) fun a=>xC (e.upd 9 a)
def b7x(e:a7):Reg:=xA (wB (e 2)) fun a=>xA (wB (e 0)) fun b=>xA (wJ b) fun c=>xA (wC 0 c) fun d=>xA (wA none d) fun f=>xA (wL f) fun g=>xA (wE .sub a g) fun i=>xA (wE .add i (.int .i64 1)) fun j=>xA (wB j) fun k=>xC (e.upd 10 k)
def b5N(e:a7):Reg:=xA (wB (e 10)) fun a=>xA (wB (e 2)) fun b=>xA (wE .leq a b) fun c=>xC (e.upd 22 c)
def c1r(e:a7):Reg:=xA (wB (e 0)) fun a=>xA (wB (e 10)) fun b=>xA (wD 171 [a,b]) fun c=>xA (wB (e 1)) fun d=>xA (wD 172 [c,d]) fun f=>xA (wB f) fun g=>xC (e.upd 11 g)
def c3F(e:a7):Reg:=xA (wB (e 10)) fun a=>xA (wB (e 2)) fun b=>xA (wB (e 0)) fun c=>xA (wJ c) fun d=>xA (wC 0 d) fun f=>xA (wA none f) fun g=>xA (wL g) fun i=>xA (wE .sub b i) fun j=>xA (wE .add j (.int .i64 1)) fun k=>xA (wE .eql a k) fun m=>xC (e.upd 39 m)
def b7t(e:a7):Reg:=xA (wB (e 0)) fun a=>xA (wB (e 11)) fun b=>xA (wB (e 3)) fun c=>xA (wD 173 [a,b,c]) fun d=>xA (wB d) fun f=>xC (e.upd 11 f)
def b9E(e:a7):Reg:=xA (wB (e 9)) fun a=>xA (wB (e 11)) fun b=>xA (wD 126 [a,b]) fun c=>xA (wB c) fun d=>xC (e.upd 9 d)
def b9t(e:a7):Reg:=xA (wB (e 10)) fun a=>xA (wE .add a (.int .i64 1)) fun b=>xA (wB b) fun c=>xC (e.upd 10 c)
def a3X:CC:=(.seq (.seq (.region b5N) (.cond (fun e=>e 22) .skip (.exit 0))) (.seq (.block 1 (.seq (.region c1r) (.seq (.seq (.region c3F) (.cond (fun e=>e 39) (.region b7t) .skip)) (.region b9E)))) (.region b9t)))
def c2M(e:a7):Reg:=xA (wB (e 9)) fun a=>xA (wB a) fun b=>xC (e.upd 8 b)
def c7r:=an (ro b6R.eq_1)<|an (ro b7e.eq_1)<|an (ro b7x.eq_1)<|an (ro b5N.eq_1)<|an (ro c1r.eq_1)<|an (ro c3F.eq_1)<|an (ro b7t.eq_1)<|an (ro b9E.eq_1)<|an (ro b9t.eq_1)<|ro c2M.eq_1
def b1O:CFn:=⟨(.seq (.region b6R) (.seq (.region b7e) (.seq (.seq (.region b7x) (.block 0 (.loop a3X))) (.seq (.region c2M) .ret)))),[.t 8]⟩
def e1z:Pers:=⟨12,[22,39],48,[]⟩
def c1R(e:a7):Reg:=xA (wB (.int .i64 0)) fun a=>xC (e.upd 4 a)
def c0q(e:a7):Reg:=xA (wB (e 0)) fun a=>xA (.eqK .ptr false a (.pointer none)) fun b=>xC (e.upd 6 b)
def b6I(e:a7):Reg:=xA (wB (.int .i64 0)) fun a=>xC (e.upd 4 a)
def c4y(e:a7):Reg:=xA (wB (e 1)) fun a=>xA (wB (e 0)) fun b=>xA (wJ b) fun c=>xA (wC 2 c) fun d=>xA (wA none d) fun f=>xA (wE .quo a f) fun g=>xA (wB g) fun i=>xC (e.upd 4 i)
def e8K:=an (ro c1R.eq_1)<|an (ro c0q.eq_1)<|an (ro b6I.eq_1)<|ro c4y.eq_1
def d8b:CFn:=⟨(.seq (.region c1R) (.seq (.seq (.region c0q) (.cond (fun e=>e 6) (.seq (.region b6I) .ret) .skip)) (.seq (.region c4y) .ret))),[.t 4]⟩
def e3n:Pers:=⟨5,[6],13,[]⟩
def c4v(e:a7):Reg:=xA (wB (e 0)) fun a=>xA (.eqK .ptr true a (.pointer none)) fun b=>xC (e.upd 3 b)
def c2J(e:a7):Reg:=xA (wB (e 0)) fun a=>xA (wJ a) fun b=>xA (wC 2 b) fun c=>xA (wA none c) fun d=>xA (.clearSl [(.int .i64 0)] d) fun _=>xC e
def e6v:=an (ro c4v.eq_1)<|ro c2J.eq_1
def d9f:CFn:=⟨(.seq (.region c4v) (.cond (fun e=>e 3) (.region c2J) .skip)),[]⟩
def e1Y:Pers:=⟨2,[3],8,[]⟩
def b9U(e:a7):Reg:=xA (wB (e 0)) fun a=>xA (.eqK .ptr false a (.pointer none)) fun b=>xA (wB b) fun c=>xB c false (wB (e 2)) fun d=>xB c false (wE .lss d (.int .i64 1)) fun f=>xA (wK c (.bool true) f) fun g=>xC (e.upd 14 g)
def c4Q(e:a7):Reg:=xA (wB (e 0)) fun a=>xA (wB (e 1)) fun b=>xA (wD 172 [a,b]) fun c=>xA (wB (e 2)) fun d=>xA (wD 126 [c,d]) fun f=>xA (wB f) fun g=>xC (e.upd 6 g)
def c4j(e:a7):Reg:=xA (wB (e 0)) fun a=>xA (wJ a) fun b=>xA (wC 0 b) fun c=>xA (wA none c) fun d=>xA (wL d) fun f=>xA (wB (.int .i64 0)) fun g=>xC ((e.upd 24 f).upd 25 g)
def c4x(e:a7):Reg:=xA (wE .lss (e 25) (e 24)) fun a=>xC (e.upd 26 a)
def b8f(e:a7):Reg:=xA (wB (e 25)) fun a=>xA (wB a) fun b=>xC (e.upd 7 b)
def c4t(e:a7):Reg:=xA (wB (e 0)) fun a=>xA (wB (e 7)) fun b=>xA (wB (e 1)) fun c=>xA (wD 174 [a,b,c]) fun d=>xA (wB d) fun f=>xC (e.upd 8 f)
def b7o(e:a7):Reg:=xA (wB (e 8)) fun a=>xA (wB (e 8)) fun b=>xA (wJ b) fun c=>xA (wA none c) fun d=>xA (wB (e 6)) fun f=>xA (.minmax true [d,f]) fun g=>xA (wJ a) fun i=>xA (wF 1 i g) fun _=>xC e
def c1Q(e:a7):Reg:=xA (wE .add (e 25) (.int .i64 1)) fun a=>xA (wB a) fun b=>xC (e.upd 25 b)
def a3Y:CC:=(.seq (.region c4x) (.seq (.cond (fun e=>e 26) .skip (.exit 0)) (.seq (.block 1 (.seq (.region b8f) (.seq (.region c4t) (.region b7o)))) (.region c1Q))))
def c6I:=an (ro b9U.eq_1)<|an (ro c4Q.eq_1)<|an (ro c4j.eq_1)<|an (ro c4x.eq_1)<|an (ro b8f.eq_1)<|an (ro c4t.eq_1)<|an (ro b7o.eq_1)<|ro c1Q.eq_1
def b0y:CFn:=⟨(.seq (.seq (.region b9U) (.cond (fun e=>e 14) .ret .skip)) (.seq (.region c4Q) (.seq (.region c4j) (.block 0 (.loop a3Y))))),[]⟩
def e2f:Pers:=⟨9,[14,24,25,26],40,[]⟩
def c0k(e:a7):Reg:=xA (wB (.int .i64 0)) fun a=>xC (e.upd 4 a)
def b7E(e:a7):Reg:=xA (wB (e 0)) fun a=>xA (wB (e 1)) fun b=>xA (wD 72 [a,b]) fun c=>xA (wB c) fun d=>xA (wG d 0) fun f=>xA (wG d 1) fun g=>xA (wB f) fun i=>xA (wB g) fun j=>xC ((e.upd 5 i).upd 6 j)
def c3c(e:a7):Reg:=xA (wB (e 6)) fun a=>xA (wP .not a) fun b=>xC (e.upd 14 b)
def c4O(e:a7):Reg:=xA (wB (e 0)) fun a=>xA (wE .lss a (.int .i64 0)) fun b=>xA (wB (e 1)) fun c=>xA (wE .lss c (.int .i64 0)) fun d=>xA (.eqK .bool true b d) fun f=>xA (wD 145 [f]) fun g=>xA (wB g) fun i=>xC (e.upd 4 i)
def c0u(e:a7):Reg:=xA (wB (e 5)) fun a=>xA (wB a) fun b=>xC (e.upd 4 b)
def e8B:=an (ro c0k.eq_1)<|an (ro b7E.eq_1)<|an (ro c3c.eq_1)<|an (ro c4O.eq_1)<|ro c0u.eq_1
def d8B:CFn:=⟨(.seq (.region c0k) (.seq (.region b7E) (.seq (.seq (.region c3c) (.cond (fun e=>e 14) (.seq (.region c4O) .ret) .skip)) (.seq (.region c0u) .ret)))),[.t 4]⟩
def e6d:Pers:=⟨7,[14],22,[]⟩
def c2l(e:a7):Reg:=xA (wB (e 0)) fun a=>xA (.eqK .ptr false a (.pointer none)) fun b=>xC (e.upd 9 b)
def b9J(e:a7):Reg:=xA (wB (e 0)) fun a=>xA (wJ a) fun b=>xA (wC 2 b) fun c=>xA (wA none c) fun d=>xA (wL d) fun f=>xA (wB (.int .i64 0)) fun g=>xC (((e.upd 13 d).upd 14 f).upd 15 g)
def b9g(e:a7):Reg:=xA (wE .lss (e 15) (e 14)) fun a=>xC (e.upd 16 a)
def c4d(e:a7):Reg:=xA (wB (e 15)) fun a=>xA (wI 4 (e 13) (e 15)) fun b=>xA (wA (some 4) b) fun c=>xA (wH 250 [(.int .i64 0),(.int .i64 0),(.int .i64 0),(.int .i64 0)]) fun d=>xA (wB a) fun f=>xA (wF 4 d c) fun _=>xC ((e.upd 5 d).upd 4 f)
def a4n(e:a7)(a b:Value):Reg:=xA (wG a 1) fun c=>xA (wB b) fun d=>xA (wB c) fun f=>xC ((e.upd 6 d).upd 7 f)
def c1f(e:a7):Reg:=xA (wB (e 0)) fun a=>xA (wJ a) fun b=>xA (wC 0 b) fun c=>xA (wA none c) fun d=>xA (wB (e 4)) fun f=>xA (wD 166 [d,f]) fun g=>xA (wB g) fun i=>xA (wG i 0) fun j=>a4n e i j
def b7h(e:a7):Reg:=xA (wB (e 7)) fun a=>xA (wB a) fun b=>xB b true (wB (e 1)) fun c=>xB b true (wB (e 6)) fun d=>xB b true (wA (some 4) (e 5)) fun f=>xB b true (.callv c [d,f]) fun g=>xB b true (wP .not g) fun i=>xA (wK b i (.bool false)) fun j=>xC (e.upd 36 j)
def c2p(e:a7):Reg:=xA (wE .add (e 15) (.int .i64 1)) fun a=>xA (wB a) fun b=>xC (e.upd 15 b)
def Y8:CC:=(.seq (.region b9g) (.seq (.cond (fun e=>e 16) .skip (.exit 0)) (.seq (.block 1 (.seq (.region c4d) (.seq (.region c1f) (.seq (.region b7h) (.cond (fun e=>e 36) .ret .skip))))) (.region c2p))))
def c5P:=an (ro c2l.eq_1)<|an (ro b9J.eq_1)<|an (ro b9g.eq_1)<|an (ro c4d.eq_1)<|an (N8 a4n.eq_1)<|an (ro c1f.eq_1)<|an (ro b7h.eq_1)<|ro c2p.eq_1
def b0E:CFn:=⟨(.seq (.seq (.region c2l) (.cond (fun e=>e 9) .ret .skip)) (.seq (.region b9J) (.block 0 (.loop Y8)))),[]⟩
def e4r:Pers:=⟨8,[9,13,14,15,16,36],38,[]⟩
def b8e(e:a7):Reg:=xA (wN 250 (e 0)) fun a=>xA (wN 126 (e 1)) fun b=>xA (wB (.bool false)) fun c=>xC (((e.upd 3 a).upd 4 b).upd 6 c)
def a7c(e:a7)(a b:Value):Reg:=xB a true (wB (e 2)) fun c=>xB a true (wC 1 (e 4)) fun d=>xB a true (wA none d) fun f=>xB a true (wE .sub c f) fun g=>xB a true (wE .leq b g) fun i=>xA (wK a i (.bool false)) fun j=>xA (wB j) fun k=>xC (e.upd 6 k)
def c0G(e:a7):Reg:=xA (wA (some 4) (e 3)) fun a=>xA (wA (some 4) (e 4)) fun b=>xA (wB (e 2)) fun c=>xA (wD 156 [a,b,c]) fun d=>xA (wP .not d) fun f=>xA (wB f) fun g=>xB g true (wC 0 (e 3)) fun i=>xB g true (wA none i) fun j=>a7c e g j
def d9j:=an (ro b8e.eq_1)<|an (N8 a7c.eq_1)<|ro c0G.eq_1
def c163:CFn:=⟨(.seq (.region b8e) (.seq (.region c0G) .ret)),[.t 6]⟩
def e5S:Pers:=⟨7,[],21,[]⟩
def c0z(e:a7):Reg:=xA (wB (.int .i64 0)) fun a=>xA (wB (.int .i64 0)) fun b=>xC ((e.upd 4 a).upd 5 b)
def c3o(e:a7):Reg:=xA (wB (e 0)) fun a=>xA (wB (e 1)) fun b=>xA (wD 175 [a,b]) fun c=>xA (wB c) fun d=>xC (e.upd 6 d)
def c3R(e:a7):Reg:=xA (wB (e 0)) fun a=>xA (wJ a) fun b=>xA (wC 4 b) fun c=>xA (wA none c) fun d=>xA (wB (e 6)) fun f=>xA (wI 1 d f) fun g=>xA (wA none g) fun i=>xA (wO .i64 i) fun j=>xA (wE .sub j (.int .i64 1)) fun k=>xA (wB k) fun m=>xC (e.upd 7 m)
def a6W(e:a7)(a b c:Value):Reg:=xB a false (wB (e 1)) fun d=>xB a false (wD 176 [b,c,d]) fun f=>xA (wK a (.bool true) f) fun g=>xC (e.upd 38 g)
def b5S(e:a7):Reg:=xA (wB (e 7)) fun a=>xA (wE .lss a (.int .i64 0)) fun b=>xA (wB b) fun c=>xB c false (wB (e 0)) fun d=>xB c false (wJ d) fun f=>xB c false (wC 0 f) fun g=>xB c false (wA none g) fun i=>xB c false (wB (e 7)) fun j=>a6W e c i j
def b6f(e:a7):Reg:=xA (wB (e 6)) fun a=>xA (wB (e 7)) fun b=>xA (wB a) fun c=>xA (wB b) fun d=>xC ((e.upd 4 c).upd 5 d)
def c3P(e:a7):Reg:=xA (wB (e 6)) fun a=>xA (wE .add a (.int .i64 1)) fun b=>xA (wB (e 0)) fun c=>xA (wJ c) fun d=>xA (wC 4 d) fun f=>xA (wA none f) fun g=>xA (wL g) fun i=>xA (wE .rem b i) fun j=>xA (wB j) fun k=>xC (e.upd 6 k)
def a1A:CC:=(.seq (.block 1 (.seq (.region c3R) (.seq (.region b5S) (.cond (fun e=>e 38) (.seq (.region b6f) .ret) .skip)))) (.region c3P))
def c9Y:=an (ro c0z.eq_1)<|an (ro c3o.eq_1)<|an (ro c3R.eq_1)<|an (S9 a6W.eq_1)<|an (ro b5S.eq_1)<|an (ro b6f.eq_1)<|ro c3P.eq_1
def b1J:CFn:=⟨(.seq (.region c0z) (.seq (.region c3o) (.block 0 (.loop a1A)))),[.t 4,.t 5]⟩
def e2L:Pers:=⟨8,[38],41,[]⟩
def b6D(e:a7):Reg:=xA (wB (.string ⟨#[]⟩)) fun a=>xA (wB (.bool false)) fun b=>xC ((e.upd 4 a).upd 5 b)
def b9D(e:a7):Reg:=xA (wB (e 0)) fun a=>xA (wB (e 1)) fun b=>xA (wD 177 [a,b]) fun c=>xA (wP .not c) fun d=>xC (e.upd 9 d)
def c3H(e:a7):Reg:=xA (wB (.string ⟨#[]⟩)) fun a=>xA (wB (.bool false)) fun b=>xC ((e.upd 4 a).upd 5 b)
def a4o(e:a7)(a b c d:Value):Reg:=xA (wE .add c d) fun f=>xA (.slice 5 1 a (some b) (some f)) fun g=>xA (.toStr g) fun i=>xA (wB i) fun j=>xA (wB (.bool true)) fun k=>xC ((e.upd 4 j).upd 5 k)
def a4z(e:a7)(a b c:Value):Reg:=xA (wB (e 0)) fun d=>xA (wJ d) fun f=>xA (wC 1 f) fun g=>xA (wA none g) fun i=>xA (wB (e 1)) fun j=>xA (wI 1 i j) fun k=>xA (wA none k) fun m=>xA (wO .i64 m) fun n=>a4o e a b c n
def c1S(e:a7):Reg:=xA (wB (e 0)) fun a=>xA (wJ a) fun b=>xA (wC 0 b) fun c=>xA (wA none c) fun d=>xA (wB (e 1)) fun f=>xA (wE .mul f (.int .i64 64)) fun g=>xA (wB (e 1)) fun i=>xA (wE .mul i (.int .i64 64)) fun j=>a4z e d g j
def e1R:=an (ro b6D.eq_1)<|an (ro b9D.eq_1)<|an (ro c3H.eq_1)<|an (ro4 a4o.eq_1)<|an (S9 a4z.eq_1)<|ro c1S.eq_1
def d2r:CFn:=⟨(.seq (.region b6D) (.seq (.seq (.region b9D) (.cond (fun e=>e 9) (.seq (.region c3H) .ret) .skip)) (.seq (.region c1S) .ret))),[.t 4,.t 5]⟩
def e4U:Pers:=⟨6,[9],29,[]⟩
def c2B(e:a7):Reg:=xA (wB (.int .i64 0)) fun a=>xC (e.upd 4 a)
def b9T(e:a7):Reg:=xA (wB (e 0)) fun a=>xA (.eqK .ptr false a (.pointer none)) fun b=>xC (e.upd 13 b)
def b8U(e:a7):Reg:=xA (wB (.int .i64 (-1))) fun a=>xC (e.upd 4 a)
def c2y(e:a7):Reg:=xA (wB (e 0)) fun a=>xA (wB (e 1)) fun b=>xA (wD 165 [a,b]) fun c=>xA (wB c) fun d=>xA (wG d 0) fun f=>xA (wG d 1) fun g=>xA (wB f) fun i=>xA (wB g) fun j=>xC ((e.upd 5 i).upd 6 j)
def b8d(e:a7):Reg:=xA (wB (e 6)) fun a=>xA (wE .lss a (.int .i64 0)) fun b=>xC (e.upd 21 b)
def c3I(e:a7):Reg:=xA (wB (.int .i64 (-1))) fun a=>xC (e.upd 4 a)
def c1Z(e:a7):Reg:=xA (wB (e 0)) fun a=>xA (wJ a) fun b=>xA (wC 4 b) fun c=>xA (wA none c) fun d=>xA (wL d) fun f=>xA (wB f) fun g=>xC (e.upd 7 g)
def c0f(e:a7):Reg:=xA (wB (e 0)) fun a=>xA (wJ a) fun b=>xA (wC 0 b) fun c=>xA (wA none c) fun d=>xA (wB (e 6)) fun f=>xA (wD 178 [d,f]) fun g=>xC e
def c0w(e:a7):Reg:=xA (wB (e 0)) fun a=>xA (wJ a) fun b=>xA (wC 4 b) fun c=>xA (wA none c) fun d=>xA (wB (e 5)) fun f=>xA (wI 1 d f) fun g=>xA (wF 1 g (.int .i32 0)) fun _=>xC e
def c2X(e:a7):Reg:=xA (wB (e 5)) fun a=>xA (wE .add a (.int .i64 1)) fun b=>xA (wB (e 7)) fun c=>xA (wE .rem b c) fun d=>xA (wB d) fun f=>xC (e.upd 8 f)
def b3t(e:a7):Reg:=xA (wB (e 0)) fun a=>xA (wJ a) fun b=>xA (wC 4 b) fun c=>xA (wA none c) fun d=>xA (wB (e 8)) fun f=>xA (wI 1 d f) fun g=>xA (wA none g) fun i=>xA (wE .gtr i (.int .i32 0)) fun j=>xC (e.upd 50 j)
def a3m(e:a7)(a:Value):Reg:=xA (wG a 0) fun b=>xA (wG a 1) fun c=>xA (wB b) fun d=>xA (wB c) fun f=>xC ((e.upd 9 d).upd 10 f)
def a3h(e:a7)(a b:Value):Reg:=xA (wB (e 8)) fun c=>xA (wI 1 b c) fun d=>xA (wA none d) fun f=>xA (wO .i64 f) fun g=>xA (wE .sub g (.int .i64 1)) fun i=>xD fun h13=>xA (wD 166 [a,i]) fun j=>xA (wB j) fun k=>a3m e k
def b2V(e:a7):Reg:=xA (wB (e 0)) fun a=>xA (wJ a) fun b=>xA (wC 0 b) fun c=>xA (wA none c) fun d=>xA (wB (e 0)) fun f=>xA (wJ f) fun g=>xA (wC 4 g) fun i=>xA (wA none i) fun j=>a3h e d j
def b2H(e:a7):Reg:=xA (wB (e 0)) fun a=>xA (wB (e 9)) fun b=>xA (wD 175 [a,b]) fun c=>xA (wB c) fun d=>xC (e.upd 11 d)
def a3q(e:a7)(a b:Value):Reg:=xA (wB (e 5)) fun c=>xA (wE .sub b c) fun d=>xA (wB (e 7)) fun f=>xA (wE .add d f) fun g=>xA (wB (e 7)) fun i=>xA (wE .rem g i) fun j=>xA (wE .lss a j) fun k=>xC (e.upd 89 k)
def b3D(e:a7):Reg:=xA (wB (e 8)) fun a=>xA (wB (e 11)) fun b=>xA (wE .sub a b) fun c=>xA (wB (e 7)) fun d=>xA (wE .add c d) fun f=>xA (wB (e 7)) fun g=>xA (wE .rem f g) fun i=>xA (wB (e 8)) fun j=>a3q e i j
def a3u(e:a7)(a b c d f:Value):Reg:=xA (wA none f) fun g=>xA (wI 1 a b) fun i=>xD fun h18=>xA (wF 1 i g) fun _=>xA (wI 1 c d) fun j=>xD fun h20=>xA (wF 1 j (.int .i32 0)) fun _=>xC e
def a3A(e:a7)(a b c:Value):Reg:=xA (wA none c) fun d=>xA (wB (e 8)) fun f=>xA (wB (e 0)) fun g=>xA (wJ g) fun i=>xA (wC 4 i) fun j=>xA (wA none j) fun k=>xA (wB (e 8)) fun m=>xA (wI 1 k m) fun n=>a3u e a b d f n
def b2c(e:a7):Reg:=xA (wB (e 0)) fun a=>xA (wJ a) fun b=>xA (wC 4 b) fun c=>xA (wA none c) fun d=>xA (wB (e 5)) fun f=>xA (wB (e 0)) fun g=>xA (wJ g) fun i=>xA (wC 4 i) fun j=>a3A e d f j
def b3Y(e:a7):Reg:=xA (wB (e 8)) fun a=>xA (wB a) fun b=>xC (e.upd 5 b)
def b1A(e:a7):Reg:=xA (wB (e 8)) fun a=>xA (wE .add a (.int .i64 1)) fun b=>xA (wB (e 7)) fun c=>xA (wE .rem b c) fun d=>xA (wB d) fun f=>xC (e.upd 8 f)
def a0I:CC:=(.seq (.seq (.region b3t) (.cond (fun e=>e 50) .skip (.exit 0))) (.seq (.block 1 (.seq (.region b2V) (.seq (.region b2H) (.seq (.seq (.region b3D) (.cond (fun e=>e 89) (.exit 1) .skip)) (.seq (.region b2c) (.region b3Y)))))) (.region b1A)))
def b3J(e:a7):Reg:=xA (wB (e 6)) fun a=>xA (wB a) fun b=>xC (e.upd 4 b)
def b4P:=an (ro c2B.eq_1)<|an (ro b9T.eq_1)<|an (ro b8U.eq_1)<|an (ro c2y.eq_1)<|an (ro b8d.eq_1)<|an (ro c3I.eq_1)<|an (ro c1Z.eq_1)<|an (ro c0f.eq_1)<|an (ro c0w.eq_1)<|an (ro c2X.eq_1)<|an (ro b3t.eq_1)<|an (ro1 a3m.eq_1)<|an (N8 a3h.eq_1)<|an (ro b2V.eq_1)<|an (ro b2H.eq_1)<|an (N8 a3q.eq_1)<|an (ro b3D.eq_1)<|an (ro5 a3u.eq_1)<|an (S9 a3A.eq_1)<|an (ro b2c.eq_1)<|an (ro b3Y.eq_1)<|an (ro b1A.eq_1)<|ro b3J.eq_1
def a7w:CFn:=⟨(.seq (.region c2B) (.seq (.seq (.region b9T) (.cond (fun e=>e 13) (.seq (.region b8U) .ret) .skip)) (.seq (.region c2y) (.seq (.seq (.region b8d) (.cond (fun e=>e 21) (.seq (.region c3I) .ret) .skip)) (.seq (.region c1Z) (.seq (.region c0f) (.seq (.region c0w) (.seq .skip (.seq (.seq (.region c2X) (.block 0 (.loop a0I))) (.seq (.region b3J) .ret)))))))))),[.t 4]⟩
def e5D:Pers:=⟨12,[13,21,50,89],111,[]⟩
def b5X(e:a7):Reg:=xA (wB (.int .i64 0)) fun a=>xC (e.upd 4 a)
def a6Y(e:a7)(a b:Value):Reg:=xA (wK a (.bool true) b) fun c=>xA (wB c) fun d=>xB d false (wB (e 1)) fun f=>xB d false (.lenStr f) fun g=>xB d false (wE .gtr g (.int .i64 64)) fun i=>xA (wK d (.bool true) i) fun j=>xC (e.upd 19 j)
def c4L(e:a7):Reg:=xA (wB (e 0)) fun a=>xA (.eqK .ptr false a (.pointer none)) fun b=>xA (wB b) fun c=>xB c false (wB (e 0)) fun d=>xB c false (wJ d) fun f=>xB c false (wC 3 f) fun g=>xB c false (wA none g) fun i=>xB c false (wE .lss i (.int .i32 0)) fun j=>a6Y e c j
def c2z(e:a7):Reg:=xA (wB (.int .i64 (-1))) fun a=>xC (e.upd 4 a)
def c1v(e:a7):Reg:=xA (wB (e 0)) fun a=>xA (wJ a) fun b=>xA (wC 3 b) fun c=>xA (wA none c) fun d=>xA (wO .i64 d) fun f=>xA (wB f) fun g=>xC (e.upd 5 g)
def a5w(e:a7)(a b:Value):Reg:=xA (wJ a) fun c=>xA (wC 3 c) fun d=>xA (wF 1 d b) fun _=>xC e
def b7j(e:a7):Reg:=xA (wB (e 0)) fun a=>xA (wB (e 0)) fun b=>xA (wJ b) fun c=>xA (wC 2 c) fun d=>xA (wA none d) fun f=>xA (wB (e 5)) fun g=>xA (wI 1 f g) fun i=>xA (wA none i) fun j=>a5w e a j
def c0v(e:a7):Reg:=xA (wB (e 0)) fun a=>xA (wJ a) fun b=>xA (wC 0 b) fun c=>xA (wA none c) fun d=>xA (wB (e 5)) fun f=>xA (wE .mul f (.int .i64 64)) fun g=>xA (.slice 5 1 d (some g) none) fun i=>xA (wB (e 1)) fun j=>xA (.copy 1 i j) fun k=>xC e
def b5E(e:a7):Reg:=xA (wB (e 0)) fun a=>xA (wJ a) fun b=>xA (wC 1 b) fun c=>xA (wA none c) fun d=>xA (wB (e 5)) fun f=>xA (wB (e 1)) fun g=>xA (.lenStr g) fun i=>xA (wO .i8 i) fun j=>xA (wI 1 d f) fun k=>xA (wF 1 k j) fun _=>xC e
def c2g(e:a7):Reg:=xA (wB (e 0)) fun a=>xA (wJ a) fun b=>xA (wC 4 b) fun c=>xA (wA none c) fun d=>xA (wE .add d (.int .i64 1)) fun f=>xA (wJ a) fun g=>xA (wC 4 g) fun i=>xA (wF 1 i f) fun _=>xC e
def b5Y(e:a7):Reg:=xA (wB (e 5)) fun a=>xA (wB a) fun b=>xC (e.upd 4 b)
def e8g:=an (ro b5X.eq_1)<|an (N8 a6Y.eq_1)<|an (ro c4L.eq_1)<|an (ro c2z.eq_1)<|an (ro c1v.eq_1)<|an (N8 a5w.eq_1)<|an (ro b7j.eq_1)<|an (ro c0v.eq_1)<|an (ro b5E.eq_1)<|an (ro c2g.eq_1)<|ro b5Y.eq_1
def d7O:CFn:=⟨(.seq (.region b5X) (.seq (.seq (.region c4L) (.cond (fun e=>e 19) (.seq (.region c2z) .ret) .skip)) (.seq (.region c1v) (.seq (.region b7j) (.seq (.region c0v) (.seq (.region b5E) (.seq (.region c2g) (.seq (.region b5Y) .ret)))))))),[.t 4]⟩
def e4K:Pers:=⟨6,[19],61,[]⟩
def c1h(e:a7):Reg:=xA (wB (.int .i64 0)) fun a=>xA (wB (.int .i64 0)) fun b=>xA (wB (.bool false)) fun c=>xC (((e.upd 4 a).upd 5 b).upd 6 c)
def b9p(e:a7):Reg:=xA (wB (e 0)) fun a=>xA (.eqK .ptr false a (.pointer none)) fun b=>xC (e.upd 9 b)
def c1e(e:a7):Reg:=xA (wB (.int .i64 0)) fun a=>xA (wB (.int .i64 0)) fun b=>xA (wB (.bool false)) fun c=>xC (((e.upd 4 a).upd 5 b).upd 6 c)
def b9L(e:a7):Reg:=xA (wB (e 0)) fun a=>xA (wJ a) fun b=>xA (wC 1 b) fun c=>xA (wA none c) fun d=>xA (wB (e 1)) fun f=>xA (wD 147 [d,f]) fun g=>xA (wB g) fun i=>xC (e.upd 7 i)
def c0n(e:a7):Reg:=xA (wB (e 7)) fun a=>xA (wE .lss a (.int .i64 0)) fun b=>xC (e.upd 17 b)
def c1N(e:a7):Reg:=xA (wB (.int .i64 0)) fun a=>xA (wB (.int .i64 0)) fun b=>xA (wB (.bool false)) fun c=>xC (((e.upd 4 a).upd 5 b).upd 6 c)
def a5d(e:a7)(a b:Value):Reg:=xA (wJ b) fun c=>xA (wC 3 c) fun d=>xA (wA none d) fun f=>xA (wB (e 7)) fun g=>xA (wI 1 f g) fun i=>xA (wA none i) fun j=>xA (wB a) fun k=>xA (wB j) fun m=>xA (wB (.bool true)) fun n=>xC (((e.upd 4 k).upd 5 m).upd 6 n)
def b5J(e:a7):Reg:=xA (wB (e 0)) fun a=>xA (wJ a) fun b=>xA (wC 2 b) fun c=>xA (wA none c) fun d=>xA (wB (e 7)) fun f=>xA (wI 1 d f) fun g=>xA (wA none g) fun i=>xA (wB (e 0)) fun j=>a5d e i j
def e0T:=an (ro c1h.eq_1)<|an (ro b9p.eq_1)<|an (ro c1e.eq_1)<|an (ro b9L.eq_1)<|an (ro c0n.eq_1)<|an (ro c1N.eq_1)<|an (N8 a5d.eq_1)<|ro b5J.eq_1
def c7d:CFn:=⟨(.seq (.region c1h) (.seq (.seq (.region b9p) (.cond (fun e=>e 9) (.seq (.region c1e) .ret) .skip)) (.seq (.region b9L) (.seq (.seq (.region c0n) (.cond (fun e=>e 17) (.seq (.region c1N) .ret) .skip)) (.seq (.region b5J) .ret))))),[.t 4,.t 5,.t 6]⟩
def e4G:Pers:=⟨8,[9,17],32,[]⟩
def c3D(e:a7):Reg:=xA (wB (.int .i64 0)) fun a=>xC (e.upd 2 a)
def a5X(e:a7)(a:Value)(h4:Heap)(b c:Value):Reg:=xB a false (wC 2 c) fun d=>xB a false (wA none d) fun f=>xE (some (a,false)) (some h4) (.load none d) f<|xB a false (wL f) fun g=>xB a false (wE .lss b g) fun i=>xA (wK a (.bool true) i) fun j=>xC (e.upd 14 j)
def c4D(e:a7):Reg:=xA (wB (e 0)) fun a=>xA (.eqK .ptr false a (.pointer none)) fun b=>xA (wB b) fun c=>xB c false (wB (e 0)) fun d=>xD fun h4=>xB c false (wD 148 [d]) fun f=>xB c false (wB (e 0)) fun g=>xB c false (wJ g) fun i=>a5X e c h4 f i
def c1i(e:a7):Reg:=xA (wB (.int .i64 0)) fun a=>xC (e.upd 2 a)
def a6E(e:a7)(a b:Value):Reg:=xA (wI 1 a b) fun c=>xA (wA none c) fun d=>xA (wB d) fun f=>xC (e.upd 2 f)
def a5z(e:a7)(a b:Value):Reg:=xA (wB (e 0)) fun c=>xA (wJ c) fun d=>xA (wC 2 d) fun f=>xA (wA none f) fun g=>xA (wL g) fun i=>xA (wE .sub i (.int .i64 1)) fun j=>xA (wI 1 b j) fun k=>xA (wA none k) fun m=>a6E e a m
def b9W(e:a7):Reg:=xA (wB (e 0)) fun a=>xA (wJ a) fun b=>xA (wC 2 b) fun c=>xA (wA none c) fun d=>xA (wB (e 0)) fun f=>xA (wJ f) fun g=>xA (wC 4 g) fun i=>xA (wA none i) fun j=>a5z e d j
def e5i:=an (ro c3D.eq_1)<|an (ro4 a5X.eq_1)<|an (ro c4D.eq_1)<|an (ro c1i.eq_1)<|an (N8 a6E.eq_1)<|an (N8 a5z.eq_1)<|ro b9W.eq_1
def d0N:CFn:=⟨(.seq (.region c3D) (.seq (.seq (.region c4D) (.cond (fun e=>e 14) (.seq (.region c1i) .ret) .skip)) (.seq (.region b9W) .ret))),[.t 2]⟩
def e3x:Pers:=⟨3,[14],33,[]⟩
def c1u(e:a7):Reg:=xA (wB (.pointer none)) fun a=>xC (e.upd 4 a)
def b8M(e:a7):Reg:=xA (wB (e 1)) fun a=>xA (wE .lss a (.int .i64 0)) fun b=>xC (e.upd 7 b)
def c2P(e:a7):Reg:=xA (wB (.pointer none)) fun a=>xC (e.upd 4 a)
def c0H(e:a7):Reg:=xA (wB (e 1)) fun a=>xA (wB (e 0)) fun b=>xA (wJ b) fun c=>xA (wC 0 c) fun d=>xA (wA none d) fun f=>xA (wL f) fun g=>xA (wE .rem a g) fun i=>xA (wB i) fun j=>xC (e.upd 5 j)
def c4P(e:a7):Reg:=xA (wB (e 0)) fun a=>xA (wJ a) fun b=>xA (wC 1 b) fun c=>xA (wA none c) fun d=>xA (wB (e 5)) fun f=>xA (wI 1 d f) fun g=>xA (wA none g) fun i=>xA (wB (e 1)) fun j=>xA (wE .add j (.int .i64 1)) fun k=>xA (wE .neq i k) fun m=>xC (e.upd 24 m)
def c3p(e:a7):Reg:=xA (wB (.pointer none)) fun a=>xC (e.upd 4 a)
def c1o(e:a7):Reg:=xA (wB (e 0)) fun a=>xA (wJ a) fun b=>xA (wC 0 b) fun c=>xA (wA none c) fun d=>xA (wB (e 5)) fun f=>xA (wI 1 d f) fun g=>xA (wA none g) fun i=>xA (wB i) fun j=>xC (e.upd 4 j)
def e1s:=an (ro c1u.eq_1)<|an (ro b8M.eq_1)<|an (ro c2P.eq_1)<|an (ro c0H.eq_1)<|an (ro c4P.eq_1)<|an (ro c3p.eq_1)<|ro c1o.eq_1
def c6l:CFn:=⟨(.seq (.region c1u) (.seq (.seq (.region b8M) (.cond (fun e=>e 7) (.seq (.region c2P) .ret) .skip)) (.seq (.region c0H) (.seq (.seq (.region c4P) (.cond (fun e=>e 24) (.seq (.region c3p) .ret) .skip)) (.seq (.region c1o) .ret))))),[.t 4]⟩
def e2B:Pers:=⟨6,[7,24],32,[]⟩
def c4b(e:a7):Reg:=xA (wB (.int .i64 0)) fun a=>xC (e.upd 4 a)
def b8n(e:a7):Reg:=xA (wB (e 0)) fun a=>xA (.eqK .ptr false a (.pointer none)) fun b=>xC (e.upd 8 b)
def c2t(e:a7):Reg:=xA (wB (.int .i64 0)) fun a=>xC (e.upd 4 a)
def c4N(e:a7):Reg:=xA (wB (e 0)) fun a=>xA (wB (e 1)) fun b=>xA (wD 174 [a,(.int .i64 0),b]) fun c=>xA (wJ c) fun d=>xA (wA none d) fun f=>xA (wB f) fun g=>xC (e.upd 5 g)
def b7S(e:a7):Reg:=xA (wB (.int .i64 1)) fun a=>xC (e.upd 6 a)
def b8v(e:a7):Reg:=xA (wB (e 6)) fun a=>xA (wB (e 0)) fun b=>xA (wJ b) fun c=>xA (wC 0 c) fun d=>xA (wA none d) fun f=>xA (wL f) fun g=>xA (wE .lss a g) fun i=>xC (e.upd 20 i)
def b6u(e:a7):Reg:=xA (wB (e 5)) fun a=>xA (wB (e 0)) fun b=>xA (wB (e 6)) fun c=>xA (wB (e 1)) fun d=>xA (wD 174 [b,c,d]) fun f=>xA (wJ f) fun g=>xA (wA none g) fun i=>xA (.minmax false [a,i]) fun j=>xA (wB j) fun k=>xC (e.upd 5 k)
def b8W(e:a7):Reg:=xA (wB (e 6)) fun a=>xA (wE .add a (.int .i64 1)) fun b=>xA (wB b) fun c=>xC (e.upd 6 c)
def a3W:CC:=(.seq (.seq (.region b8v) (.cond (fun e=>e 20) .skip (.exit 0))) (.seq (.block 1 (.region b6u)) (.region b8W)))
def c3d(e:a7):Reg:=xA (wB (e 5)) fun a=>xA (wB a) fun b=>xC (e.upd 4 b)
def c5t:=an (ro c4b.eq_1)<|an (ro b8n.eq_1)<|an (ro c2t.eq_1)<|an (ro c4N.eq_1)<|an (ro b7S.eq_1)<|an (ro b8v.eq_1)<|an (ro b6u.eq_1)<|an (ro b8W.eq_1)<|ro c3d.eq_1
def a9T:CFn:=⟨(.seq (.region c4b) (.seq (.seq (.region b8n) (.cond (fun e=>e 8) (.seq (.region c2t) .ret) .skip)) (.seq (.region c4N) (.seq (.seq (.region b7S) (.block 0 (.loop a3W))) (.seq (.region c3d) .ret))))),[.t 4]⟩
def e3g:Pers:=⟨7,[8,20],32,[]⟩
def b8P(e:a7):Reg:=xA (wB (.int .i64 0)) fun a=>xC (e.upd 6 a)
def c4e(e:a7):Reg:=xA (wB (e 0)) fun a=>xA (wJ a) fun b=>xA (wC 5 b) fun c=>xA (wA none c) fun d=>xA (wP .not d) fun f=>xC (e.upd 13 f)
def c3z(e:a7):Reg:=xA (wB (e 1)) fun a=>xA (wB a) fun b=>xC (e.upd 6 b)
def a6U(e:a7)(a:Value):Reg:=xA (wB a) fun b=>xA (wG b 0) fun c=>xA (wG b 1) fun d=>xA (wB c) fun f=>xA (wB d) fun g=>xC ((e.upd 7 f).upd 8 g)
def a5R(e:a7)(a b:Value):Reg:=xA (wO .u64 b) fun c=>xA (wB (e 0)) fun d=>xA (wJ d) fun f=>xA (wC 2 f) fun g=>xA (wA none g) fun i=>xA (wO .u64 i) fun j=>xD fun h14=>xA (wD 179 [a,c,j]) fun k=>a6U e k
def b9l(e:a7):Reg:=xA (wB (e 1)) fun a=>xA (wO .u64 a) fun b=>xA (wB (e 0)) fun c=>xA (wJ c) fun d=>xA (wC 2 d) fun f=>xA (wA none f) fun g=>xA (wB (e 2)) fun i=>xA (wE .sub g i) fun j=>a5R e b j
def b6o(e:a7):Reg:=xA (wB (e 7)) fun a=>xA (wO .i64 a) fun b=>xA (wB b) fun c=>xC (e.upd 6 c)
def e5u:=an (ro b8P.eq_1)<|an (ro c4e.eq_1)<|an (ro c3z.eq_1)<|an (ro1 a6U.eq_1)<|an (N8 a5R.eq_1)<|an (ro b9l.eq_1)<|ro b6o.eq_1
def d1C:CFn:=⟨(.seq (.region b8P) (.seq (.seq (.region c4e) (.cond (fun e=>e 13) (.seq (.region c3z) .ret) .skip)) (.seq (.region b9l) (.seq (.region b6o) .ret)))),[.t 6]⟩
def e1P:Pers:=⟨9,[13],35,[]⟩
def c1g(e:a7):Reg:=xA (wB (.pointer none)) fun a=>xC (e.upd 6 a)
def a6X(e:a7)(a b c d f g:Value):Reg:=xE none none (wA none c) d<|xE none none (wA none a) b<|xA (wE .add f g) fun i=>xA (wI 1 b i) fun j=>xA (wB j) fun k=>xC (e.upd 6 k)
def a5O(e:a7)(a b c d f g:Value):Reg:=xA (wA (some 3) g) fun i=>xA (wB (e 2)) fun j=>xA (wB (e 0)) fun k=>xA (wJ k) fun m=>xA (wC 1 m) fun n=>xA (wA none n) fun o=>xD fun h22=>xA (wD 180 [i,j,o]) fun p=>a6X e a b c d f p
def a7f(e:a7)(a b c d:Value):Reg:=xA (wA none d) fun f=>xA (wE .mul c f) fun g=>xA (wB (e 0)) fun i=>xA (wJ i) fun j=>xA (wC 0 j) fun k=>xA (wA none k) fun m=>xA (wB (e 1)) fun n=>xA (wI 3 m n) fun o=>a5O e a b d f g o
def c4q(e:a7):Reg:=xA (wB (e 0)) fun a=>xA (wJ a) fun b=>xA (wC 2 b) fun c=>xA (wA none c) fun d=>xA (wB (e 1)) fun f=>xA (wB (e 0)) fun g=>xA (wJ g) fun i=>xA (wC 1 i) fun j=>a7f e c d f j
def e6u:=an (ro c1g.eq_1)<|an (ro6 a6X.eq_1)<|an (ro6 a5O.eq_1)<|an (ro4 a7f.eq_1)<|ro c4q.eq_1
def d7K:CFn:=⟨(.seq (.region c1g) (.seq (.region c4q) .ret)),[.t 6]⟩
def e4H:Pers:=⟨7,[],32,[]⟩
def c0e(e:a7):Reg:=xA (wB (.int .i64 0)) fun a=>xC (e.upd 4 a)
def a6C(e:a7)(a b c:Value):Reg:=xA (wA none c) fun d=>xA (wL d) fun f=>xD fun h10=>xA (wD 180 [a,b,f]) fun g=>xA (wB g) fun i=>xC (e.upd 4 i)
def c0L(e:a7):Reg:=xA (wB (e 0)) fun a=>xA (wJ a) fun b=>xA (wC 1 b) fun c=>xA (wA (some 3) c) fun d=>xA (wB (e 1)) fun f=>xA (wB (e 0)) fun g=>xA (wJ g) fun i=>xA (wC 4 i) fun j=>a6C e d f j
def e6o:=an (ro c0e.eq_1)<|an (S9 a6C.eq_1)<|ro c0L.eq_1
def d8P:CFn:=⟨(.seq (.region c0e) (.seq (.region c0L) .ret)),[.t 4]⟩
def e5a:Pers:=⟨5,[],16,[]⟩
def b9a(e:a7):Reg:=xA (wB (.bool false)) fun a=>xC (e.upd 6 a)
def a6D(e:a7)(a b:Value):Reg:=xB a true (wB (e 2)) fun c=>xB a true (wE .eql b c) fun d=>xA (wK a d (.bool false)) fun f=>xA (wB f) fun g=>xC (e.upd 6 g)
def a5H(e:a7)(a b c d f:Value):Reg:=xB a true (wA none f) fun g=>xB a true (wB (e 1)) fun i=>xB a true (wI 1 g i) fun j=>xB a true (wA none j) fun k=>xB a true (wO .i64 k) fun m=>xB a true (wE .add d m) fun n=>xB a true (.slice 5 1 b (some c) (some n)) fun o=>xB a true (.toStr o) fun p=>a6D e a p
def a7d(e:a7)(a b:Value):Reg:=xB a true (wA none b) fun c=>xB a true (wB (e 1)) fun d=>xB a true (wE .mul d (.int .i64 64)) fun f=>xB a true (wB (e 1)) fun g=>xB a true (wE .mul g (.int .i64 64)) fun i=>xB a true (wB (e 0)) fun j=>xB a true (wJ j) fun k=>xB a true (wC 1 k) fun m=>a5H e a c f i m
def b8r(e:a7):Reg:=xA (wB (e 0)) fun a=>xA (wB (e 1)) fun b=>xD fun h2=>xA (wD 177 [a,b]) fun c=>xA (wB c) fun d=>xB d true (wB (e 0)) fun f=>xB d true (wJ f) fun g=>xB d true (wC 0 g) fun i=>a7d e d i
def e6R:=an (ro b9a.eq_1)<|an (N8 a6D.eq_1)<|an (ro5 a5H.eq_1)<|an (N8 a7d.eq_1)<|ro b8r.eq_1
def d8X:CFn:=⟨(.seq (.region b9a) (.seq (.region b8r) .ret)),[.t 6]⟩
def e2I:Pers:=⟨7,[],33,[]⟩
def c3G(e:a7):Reg:=xA (wB (.bool false)) fun a=>xC (e.upd 4 a)
def a4Y(e:a7)(a b:Value):Reg:=xB a true (wE .geq b (.int .i8 0)) fun c=>xA (wK a c (.bool false)) fun d=>xA (wB d) fun f=>xC (e.upd 4 f)
def a5Y(e:a7)(a:Value):Reg:=xA (wB a) fun b=>xB b true (wB (e 0)) fun c=>xB b true (wJ c) fun d=>xB b true (wC 1 d) fun f=>xB b true (wA none f) fun g=>xB b true (wB (e 1)) fun i=>xB b true (wI 1 g i) fun j=>xB b true (wA none j) fun k=>a4Y e b k
def c1W(e:a7):Reg:=xA (wB (e 1)) fun a=>xA (wE .geq a (.int .i64 0)) fun b=>xA (wB b) fun c=>xB c true (wB (e 1)) fun d=>xB c true (wB (e 0)) fun f=>xB c true (wD 100 [f]) fun g=>xB c true (wE .lss d g) fun i=>xA (wK c i (.bool false)) fun j=>a5Y e j
def e0I:=an (ro c3G.eq_1)<|an (N8 a4Y.eq_1)<|an (ro1 a5Y.eq_1)<|ro c1W.eq_1
def c5s:CFn:=⟨(.seq (.region c3G) (.seq (.region c1W) .ret)),[.t 4]⟩
def e1Q:Pers:=⟨5,[],23,[]⟩
def b6i(e:a7):Reg:=xA (wB (e 0)) fun a=>xA (wB (e 1)) fun b=>xA (wD 177 [a,b]) fun c=>xC (e.upd 6 c)
def a5Z(e:a7)(a b c d:Value):Reg:=xA (wF 1 d (.int .i8 (-1))) fun _=>xA (wI 1 a b) fun f=>xD fun h17=>xA (wF 1 f c) fun _=>xC e
def a5C(e:a7)(a b c:Value):Reg:=xA (wA none c) fun d=>xA (wB (e 1)) fun f=>xA (wB (e 0)) fun g=>xA (wJ g) fun i=>xA (wC 3 i) fun j=>xA (wA none j) fun k=>xA (wI 1 a b) fun m=>xD fun h15=>a5Z e d f k m
def c2v(e:a7):Reg:=xA (wB (e 0)) fun a=>xA (wJ a) fun b=>xA (wC 1 b) fun c=>xA (wA none c) fun d=>xA (wB (e 1)) fun f=>xA (wB (e 0)) fun g=>xA (wJ g) fun i=>xA (wC 2 i) fun j=>a5C e d f j
def b5Q(e:a7):Reg:=xA (wB (e 0)) fun a=>xA (wB (e 1)) fun b=>xA (wO .i32 b) fun c=>xA (wJ a) fun d=>xA (wC 3 d) fun f=>xA (wF 1 f c) fun _=>xC e
def b6b(e:a7):Reg:=xA (wB (e 0)) fun a=>xA (wJ a) fun b=>xA (wC 4 b) fun c=>xA (wA none c) fun d=>xA (wE .sub d (.int .i64 1)) fun f=>xA (wJ a) fun g=>xA (wC 4 g) fun i=>xA (wF 1 i f) fun _=>xC e
def e6z:=an (ro b6i.eq_1)<|an (ro4 a5Z.eq_1)<|an (S9 a5C.eq_1)<|an (ro c2v.eq_1)<|an (ro b5Q.eq_1)<|ro b6b.eq_1
def d8G:CFn:=⟨(.seq (.region b6i) (.cond (fun e=>e 6) (.seq (.region c2v) (.seq (.region b5Q) (.region b6b))) .skip)),[]⟩
def e2G:Pers:=⟨4,[6],35,[]⟩
def c3X(e:a7):Reg:=xA (wB (.int .u64 0)) fun a=>xA (wB (.bool false)) fun b=>xC ((e.upd 6 a).upd 7 b)
def a4U(e:a7)(a b c:Value):Reg:=xA (wB a) fun d=>xA (wB b) fun f=>xA (wB c) fun g=>xC (((e.upd 8 d).upd 9 f).upd 10 g)
def c4M(e:a7):Reg:=xA (wB (e 0)) fun a=>xA (wB (e 1)) fun b=>xA (wB (e 2)) fun c=>xA (wD 181 [a,b,c]) fun d=>xA (wB d) fun f=>xA (wG f 0) fun g=>xA (wG f 1) fun i=>xA (wG f 2) fun j=>a4U e g i j
def c0Y(e:a7):Reg:=xA (wB (e 10)) fun a=>xA (wP .not a) fun b=>xA (wB b) fun c=>xB c false (wB (e 9)) fun d=>xB c false (wE .gtr d (.int .u64 0)) fun f=>xB c false (wB f) fun g=>xB g true (wB (e 8)) fun i=>xB g true (wE .eql i (.int .u64 18446744073709551615)) fun j=>xB c false (wK g j (.bool false)) fun k=>xA (wK c (.bool true) k) fun m=>xC (e.upd 28 m)
def b6T(e:a7):Reg:=xA (wB (.int .u64 0)) fun a=>xA (wB (.bool false)) fun b=>xC ((e.upd 6 a).upd 7 b)
def c1U(e:a7):Reg:=xA (wB (e 9)) fun a=>xA (wE .gtr a (.int .u64 0)) fun b=>xC (e.upd 30 b)
def c2u(e:a7):Reg:=xA (wB (e 8)) fun a=>xA (wE .add a (.int .u64 1)) fun b=>xA (wB b) fun c=>xC (e.upd 8 c)
def b6A(e:a7):Reg:=xA (wB (e 8)) fun a=>xA (wB a) fun b=>xA (wB (.bool true)) fun c=>xC ((e.upd 6 b).upd 7 c)
def e5A:=an (ro c3X.eq_1)<|an (S9 a4U.eq_1)<|an (ro c4M.eq_1)<|an (ro c0Y.eq_1)<|an (ro b6T.eq_1)<|an (ro c1U.eq_1)<|an (ro c2u.eq_1)<|ro b6A.eq_1
def c7g:CFn:=⟨(.seq (.region c3X) (.seq (.region c4M) (.seq (.seq (.region c0Y) (.cond (fun e=>e 28) (.seq (.region b6T) .ret) .skip)) (.seq (.seq (.region c1U) (.cond (fun e=>e 30) (.region c2u) .skip)) (.seq (.region b6A) .ret))))),[.t 6,.t 7]⟩
def e3t:Pers:=⟨11,[28,30],34,[]⟩
def b6n(e:a7):Reg:=xA (wN 182 (e 0)) fun a=>xA (wB (.int .i64 0)) fun b=>xC ((e.upd 3 a).upd 6 b)
def c1l(e:a7):Reg:=xA (wA (some 3) (e 3)) fun a=>xA (wB (e 1)) fun b=>xA (wD 183 [a,b]) fun c=>xA (wB (e 2)) fun d=>xA (wD 182 [c,d]) fun f=>xA (wB f) fun g=>xC (e.upd 6 g)
def e8Y:=an (ro b6n.eq_1)<|ro c1l.eq_1
def d7N:CFn:=⟨(.seq (.region b6n) (.seq (.region c1l) .ret)),[.t 6]⟩
def e3G:Pers:=⟨7,[],12,[]⟩
def c0a(e:a7):Reg:=xA (wB (.int .u64 0)) fun a=>xA (wB (.int .u64 0)) fun b=>xA (wB (.bool false)) fun c=>xC (((e.upd 6 a).upd 7 b).upd 8 c)
def c4m(e:a7):Reg:=xA (wB (e 0)) fun a=>xA (wB (e 1)) fun b=>xA (wD 85 [a,b]) fun c=>xA (wB c) fun d=>xA (wG d 0) fun f=>xA (wG d 1) fun g=>xA (wB f) fun i=>xA (wB g) fun j=>xC ((e.upd 9 i).upd 10 j)
def c1z(e:a7):Reg:=xA (wB (e 2)) fun a=>xA (wE .eql a (.int .u64 0)) fun b=>xA (wB b) fun c=>xB c false (wB (e 9)) fun d=>xB c false (wB (e 2)) fun f=>xB c false (wE .geq d f) fun g=>xA (wK c (.bool true) g) fun i=>xC (e.upd 25 i)
def b9S(e:a7):Reg:=xA (wB (.int .u64 0)) fun a=>xA (wB (.int .u64 0)) fun b=>xA (wB (.bool false)) fun c=>xC (((e.upd 6 a).upd 7 b).upd 8 c)
def b6j(e:a7):Reg:=xA (wB (e 9)) fun a=>xA (wB (e 10)) fun b=>xA (wB (e 2)) fun c=>xA (wD 184 [a,b,c]) fun d=>xA (wB d) fun f=>xA (wG f 0) fun g=>xA (wG f 1) fun i=>xA (wB g) fun j=>xA (wB i) fun k=>xC ((e.upd 11 j).upd 12 k)
def c2H(e:a7):Reg:=xA (wB (e 11)) fun a=>xA (wB (e 12)) fun b=>xA (wB a) fun c=>xA (wB b) fun d=>xA (wB (.bool true)) fun f=>xC (((e.upd 6 c).upd 7 d).upd 8 f)
def e8k:=an (ro c0a.eq_1)<|an (ro c4m.eq_1)<|an (ro c1z.eq_1)<|an (ro b9S.eq_1)<|an (ro b6j.eq_1)<|ro c2H.eq_1
def d8E:CFn:=⟨(.seq (.region c0a) (.seq (.region c4m) (.seq (.seq (.region c1z) (.cond (fun e=>e 25) (.seq (.region b9S) .ret) .skip)) (.seq (.region b6j) (.seq (.region c2H) .ret))))),[.t 6,.t 7,.t 8]⟩
def e1S:Pers:=⟨13,[25],35,[]⟩
def b6M(e:a7):Reg:=xA (wB (.int .i64 0)) fun a=>xC (e.upd 4 a)
def c2o(e:a7):Reg:=xA (wB (e 1)) fun a=>xA (wE .lss a (.int .i64 1)) fun b=>xC (e.upd 8 b)
def c1G(e:a7):Reg:=xA (wB (.int .i64 0)) fun a=>xC (e.upd 4 a)
def b9q(e:a7):Reg:=xA (wB (e 0)) fun a=>xA (wB (e 1)) fun b=>xA (wO .u64 b) fun c=>xA (wD 185 [a,c,(.int .u64 2305843009213693951)]) fun d=>xA (wB d) fun f=>xA (wG f 0) fun g=>xA (wG f 1) fun i=>xA (wB g) fun j=>xA (wB i) fun k=>xC ((e.upd 5 j).upd 6 k)
def b8Q(e:a7):Reg:=xA (wB (e 5)) fun a=>xA (wO .i64 a) fun b=>xA (wB b) fun c=>xC (e.upd 4 c)
def e9j:=an (ro b6M.eq_1)<|an (ro c2o.eq_1)<|an (ro c1G.eq_1)<|an (ro b9q.eq_1)<|ro b8Q.eq_1
def d9r:CFn:=⟨(.seq (.region b6M) (.seq (.seq (.region c2o) (.cond (fun e=>e 8) (.seq (.region c1G) .ret) .skip)) (.seq (.region b9q) (.seq (.region b8Q) .ret)))),[.t 4]⟩
def e2x:Pers:=⟨7,[8],18,[]⟩
def b7M(e:a7):Reg:=xA (wN 182 (e 0)) fun a=>xA (wB (.int .u64 0)) fun b=>xC ((e.upd 2 a).upd 4 b)
def b8F(e:a7):Reg:=xA (wB (e 1)) fun a=>xA (.lenStr a) fun b=>xA (wO .u64 b) fun c=>xA (wE .add c (.int .u64 1)) fun d=>xA (wB d) fun f=>xC (e.upd 5 f)
def c2r(e:a7):Reg:=xA (wB (.int .i64 0)) fun a=>xC (e.upd 6 a)
def b6Q(e:a7):Reg:=xA (wB (e 6)) fun a=>xA (wB (e 1)) fun b=>xA (.lenStr b) fun c=>xA (wE .lss a c) fun d=>xC (e.upd 14 d)
def a4q(e:a7)(a b c d:Value):Reg:=xA (wE .add d (.int .i64 7)) fun f=>xA (wB (e 1)) fun g=>xA (.lenStr g) fun i=>xA (.minmax false [f,i]) fun j=>xA (.sliceStr b (some c) (some j)) fun k=>xD fun h12=>xA (wD 188 [k]) fun m=>xD fun h13=>xA (wD 186 [a,m]) fun n=>xA (wB n) fun o=>xC (e.upd 5 o)
def c3E(e:a7):Reg:=xA (wB (e 5)) fun a=>xA (wC 0 (e 2)) fun b=>xA (wA none b) fun c=>xD fun h3=>xA (wD 187 [a,c]) fun d=>xA (wB (e 1)) fun f=>xA (wB (e 6)) fun g=>xA (wB (e 6)) fun i=>a4q e d f g i
def c3T(e:a7):Reg:=xA (wB (e 6)) fun a=>xA (wE .add a (.int .i64 7)) fun b=>xA (wB b) fun c=>xC (e.upd 6 c)
def a4d:CC:=(.seq (.seq (.region b6Q) (.cond (fun e=>e 14) .skip (.exit 0))) (.seq (.block 1 (.region c3E)) (.region c3T)))
def a4R(e:a7)(a b:Value):Reg:=xD fun h6=>xA (wD 186 [a,b]) fun c=>xA (wB c) fun d=>xC (e.upd 4 d)
def b6C(e:a7):Reg:=xA (wB (e 5)) fun a=>xA (wC 1 (e 2)) fun b=>xA (wA none b) fun c=>xD fun h3=>xA (wD 187 [a,c]) fun d=>xA (wC 2 (e 2)) fun f=>xA (wA none f) fun g=>xE none (some h3) (wA none f) g<|a4R e d g
def d8q:=an (ro b7M.eq_1)<|an (ro b8F.eq_1)<|an (ro c2r.eq_1)<|an (ro b6Q.eq_1)<|an (ro4 a4q.eq_1)<|an (ro c3E.eq_1)<|an (ro c3T.eq_1)<|an (N8 a4R.eq_1)<|ro b6C.eq_1
def b5q:CFn:=⟨(.seq (.region b7M) (.seq (.region b8F) (.seq (.seq (.region c2r) (.block 0 (.loop a4d))) (.seq (.region b6C) .ret)))),[.t 4]⟩
def e5b:Pers:=⟨7,[14],38,[]⟩
def b7p(e:a7):Reg:=xA (wB (.int .u64 0)) fun a=>xA (wB (.int .u64 0)) fun b=>xC ((e.upd 6 a).upd 7 b)
def c2L(e:a7):Reg:=xA (wB (e 2)) fun a=>xA (wE .eql a (.int .u64 0)) fun b=>xC (e.upd 20 b)
def c4c(e:a7):Reg:=xA (wA none unk) fun a=>xA (.bad) fun _=>xC e
def b5Z(e:a7):Reg:=xA (wB (e 2)) fun a=>xA (wB (e 0)) fun b=>xA (wE .leq a b) fun c=>xC (e.upd 24 c)
def c0Z(e:a7):Reg:=xA (wA none unk) fun a=>xA (.bad) fun _=>xC e
def c4u(e:a7):Reg:=xA (wB (e 0)) fun a=>xA (wE .eql a (.int .u64 0)) fun b=>xC (e.upd 27 b)
def b9v(e:a7):Reg:=xA (wB (e 1)) fun a=>xA (wB (e 2)) fun b=>xA (wE .quo a b) fun c=>xA (wB (e 1)) fun d=>xA (wB (e 2)) fun f=>xA (wE .rem d f) fun g=>xA (wB c) fun i=>xA (wB g) fun j=>xC ((e.upd 6 i).upd 7 j)
def c0T(e:a7):Reg:=xA (wB (e 2)) fun a=>xA (wD 189 [a]) fun b=>xA (wO .u64 b) fun c=>xA (wB c) fun d=>xC (e.upd 8 d)
def b9e(e:a7):Reg:=xA (wB (e 2)) fun a=>xA (wB (e 8)) fun b=>xA (wE .shl a b) fun c=>xA (wB c) fun d=>xC (e.upd 2 d)
def c1b(e:a7):Reg:=xA (wB (e 2)) fun a=>xA (wE .shr a (.int .u64 32)) fun b=>xA (wB b) fun c=>xC (e.upd 9 c)
def b2A(e:a7):Reg:=xA (wB (e 2)) fun a=>xA (wE .and a (.int .u64 4294967295)) fun b=>xA (wB b) fun c=>xC (e.upd 10 c)
def b2v(e:a7):Reg:=xA (wB (e 0)) fun a=>xA (wB (e 8)) fun b=>xA (wE .shl a b) fun c=>xA (wB (e 1)) fun d=>xA (wB (e 8)) fun f=>xA (wE .sub (.int .u64 64) f) fun g=>xA (wE .shr d g) fun i=>xA (wE .or c i) fun j=>xA (wB j) fun k=>xC (e.upd 11 k)
def b3c(e:a7):Reg:=xA (wB (e 1)) fun a=>xA (wB (e 8)) fun b=>xA (wE .shl a b) fun c=>xA (wB c) fun d=>xC (e.upd 12 d)
def b3l(e:a7):Reg:=xA (wB (e 12)) fun a=>xA (wE .shr a (.int .u64 32)) fun b=>xA (wB b) fun c=>xC (e.upd 13 c)
def b2o(e:a7):Reg:=xA (wB (e 12)) fun a=>xA (wE .and a (.int .u64 4294967295)) fun b=>xA (wB b) fun c=>xC (e.upd 14 c)
def b1v(e:a7):Reg:=xA (wB (e 11)) fun a=>xA (wB (e 9)) fun b=>xA (wE .quo a b) fun c=>xA (wB c) fun d=>xC (e.upd 15 d)
def b3q(e:a7):Reg:=xA (wB (e 11)) fun a=>xA (wB (e 15)) fun b=>xA (wB (e 9)) fun c=>xA (wE .mul b c) fun d=>xA (wE .sub a d) fun f=>xA (wB f) fun g=>xC (e.upd 16 g)
def a3d(e:a7)(a b c:Value):Reg:=xB a false (wB (e 13)) fun d=>xB a false (wE .add c d) fun f=>xB a false (wE .gtr b f) fun g=>xA (wK a (.bool true) g) fun i=>xC (e.upd 78 i)
def b3C(e:a7):Reg:=xA (wB (e 15)) fun a=>xA (wE .geq a (.int .u64 4294967296)) fun b=>xA (wB b) fun c=>xB c false (wB (e 15)) fun d=>xB c false (wB (e 10)) fun f=>xB c false (wE .mul d f) fun g=>xB c false (wB (e 16)) fun i=>xB c false (wE .mul (.int .u64 4294967296) i) fun j=>a3d e c g j
def b2O(e:a7):Reg:=xA (wB (e 15)) fun a=>xA (wE .sub a (.int .u64 1)) fun b=>xA (wB b) fun c=>xC (e.upd 15 c)
def b2m(e:a7):Reg:=xA (wB (e 16)) fun a=>xA (wB (e 9)) fun b=>xA (wE .add a b) fun c=>xA (wB c) fun d=>xC (e.upd 16 d)
def b2q(e:a7):Reg:=xA (wB (e 16)) fun a=>xA (wE .geq a (.int .u64 4294967296)) fun b=>xC (e.upd 85 b)
def Z3:CC:=(.seq (.seq (.region b3C) (.cond (fun e=>e 78) .skip (.exit 0))) (.block 1 (.seq (.region b2O) (.seq (.region b2m) (.seq (.region b2q) (.cond (fun e=>e 85) (.exit 0) .skip))))))
def b2G(e:a7):Reg:=xA (wB (e 11)) fun a=>xA (wE .mul a (.int .u64 4294967296)) fun b=>xA (wB (e 13)) fun c=>xA (wE .add b c) fun d=>xA (wB (e 15)) fun f=>xA (wB (e 2)) fun g=>xA (wE .mul f g) fun i=>xA (wE .sub d i) fun j=>xA (wB j) fun k=>xC (e.upd 17 k)
def b2X(e:a7):Reg:=xA (wB (e 17)) fun a=>xA (wB (e 9)) fun b=>xA (wE .quo a b) fun c=>xA (wB c) fun d=>xC (e.upd 18 d)
def b3H(e:a7):Reg:=xA (wB (e 17)) fun a=>xA (wB (e 18)) fun b=>xA (wB (e 9)) fun c=>xA (wE .mul b c) fun d=>xA (wE .sub a d) fun f=>xA (wB f) fun g=>xC (e.upd 16 g)
def a3z(e:a7)(a b c:Value):Reg:=xB a false (wB (e 14)) fun d=>xB a false (wE .add c d) fun f=>xB a false (wE .gtr b f) fun g=>xA (wK a (.bool true) g) fun i=>xC (e.upd 113 i)
def b3F(e:a7):Reg:=xA (wB (e 18)) fun a=>xA (wE .geq a (.int .u64 4294967296)) fun b=>xA (wB b) fun c=>xB c false (wB (e 18)) fun d=>xB c false (wB (e 10)) fun f=>xB c false (wE .mul d f) fun g=>xB c false (wB (e 16)) fun i=>xB c false (wE .mul (.int .u64 4294967296) i) fun j=>a3z e c g j
def b3R(e:a7):Reg:=xA (wB (e 18)) fun a=>xA (wE .sub a (.int .u64 1)) fun b=>xA (wB b) fun c=>xC (e.upd 18 c)
def b2F(e:a7):Reg:=xA (wB (e 16)) fun a=>xA (wB (e 9)) fun b=>xA (wE .add a b) fun c=>xA (wB c) fun d=>xC (e.upd 16 d)
def b1C(e:a7):Reg:=xA (wB (e 16)) fun a=>xA (wE .geq a (.int .u64 4294967296)) fun b=>xC (e.upd 120 b)
def Y9:CC:=(.seq (.seq (.region b3F) (.cond (fun e=>e 113) .skip (.exit 2))) (.block 3 (.seq (.region b3R) (.seq (.region b2F) (.seq (.region b1C) (.cond (fun e=>e 120) (.exit 2) .skip))))))
def a3E(e:a7)(a b:Value):Reg:=xA (wB (e 18)) fun c=>xA (wB (e 2)) fun d=>xA (wE .mul c d) fun f=>xA (wE .sub b f) fun g=>xA (wB (e 8)) fun i=>xA (wE .shr g i) fun j=>xA (wB a) fun k=>xA (wB j) fun m=>xC ((e.upd 6 k).upd 7 m)
def b2i(e:a7):Reg:=xA (wB (e 15)) fun a=>xA (wE .mul a (.int .u64 4294967296)) fun b=>xA (wB (e 18)) fun c=>xA (wE .add b c) fun d=>xA (wB (e 17)) fun f=>xA (wE .mul f (.int .u64 4294967296)) fun g=>xA (wB (e 14)) fun i=>xA (wE .add g i) fun j=>a3E e d j
def a1x:=an (ro b7p.eq_1)<|an (ro c2L.eq_1)<|an (ro c4c.eq_1)<|an (ro b5Z.eq_1)<|an (ro c0Z.eq_1)<|an (ro c4u.eq_1)<|an (ro b9v.eq_1)<|an (ro c0T.eq_1)<|an (ro b9e.eq_1)<|an (ro c1b.eq_1)<|an (ro b2A.eq_1)<|an (ro b2v.eq_1)<|an (ro b3c.eq_1)<|an (ro b3l.eq_1)<|an (ro b2o.eq_1)<|an (ro b1v.eq_1)<|an (ro b3q.eq_1)<|an (S9 a3d.eq_1)<|an (ro b3C.eq_1)<|an (ro b2O.eq_1)<|an (ro b2m.eq_1)<|an (ro b2q.eq_1)<|an (ro b2G.eq_1)<|an (ro b2X.eq_1)<|an (ro b3H.eq_1)<|an (S9 a3z.eq_1)<|an (ro b3F.eq_1)<|an (ro b3R.eq_1)<|an (ro b2F.eq_1)<|an (ro b1C.eq_1)<|an (N8 a3E.eq_1)<|ro b2i.eq_1
def a0m:CFn:=⟨(.seq (.region b7p) (.seq (.seq (.region c2L) (.cond (fun e=>e 20) (.region c4c) .skip)) (.seq (.seq (.region b5Z) (.cond (fun e=>e 24) (.region c0Z) .skip)) (.seq (.seq (.region c4u) (.cond (fun e=>e 27) (.seq (.region b9v) .ret) .skip)) (.seq (.region c0T) (.seq (.region b9e) (.seq (.region c1b) (.seq (.region b2A) (.seq (.region b2v) (.seq (.region b3c) (.seq (.region b3l) (.seq (.region b2o) (.seq (.region b1v) (.seq (.region b3q) (.seq (.block 0 (.loop Z3)) (.seq (.region b2G) (.seq (.region b2X) (.seq (.region b3H) (.seq (.block 2 (.loop Y9)) (.seq (.region b2i) .ret)))))))))))))))))))),[.t 6,.t 7]⟩
def e4V:Pers:=⟨19,[20,24,27,78,85,113,120],135,[]⟩
def c2c(e:a7):Reg:=xA (wB (.int .u64 0)) fun a=>xA (wB (.bool false)) fun b=>xC ((e.upd 6 a).upd 7 b)
def a5B(e:a7)(a b c:Value):Reg:=xA (wB a) fun d=>xA (wB b) fun f=>xA (wB c) fun g=>xC (((e.upd 8 d).upd 9 f).upd 10 g)
def c2N(e:a7):Reg:=xA (wB (e 0)) fun a=>xA (wB (e 1)) fun b=>xA (wB (e 2)) fun c=>xA (wD 181 [a,b,c]) fun d=>xA (wB d) fun f=>xA (wG f 0) fun g=>xA (wG f 1) fun i=>xA (wG f 2) fun j=>a5B e g i j
def b6l(e:a7):Reg:=xA (wB (e 8)) fun a=>xA (wB (e 10)) fun b=>xA (wB a) fun c=>xA (wB b) fun d=>xC ((e.upd 6 c).upd 7 d)
def e6Q:=an (ro c2c.eq_1)<|an (S9 a5B.eq_1)<|an (ro c2N.eq_1)<|ro b6l.eq_1
def d9i:CFn:=⟨(.seq (.region c2c) (.seq (.region c2N) (.seq (.region b6l) .ret))),[.t 6,.t 7]⟩
def e1C:Pers:=⟨11,[],21,[]⟩
def b6Y(e:a7):Reg:=xA (wB (.int .u64 0)) fun a=>xC (e.upd 4 a)
def b5R(e:a7):Reg:=xA (wB (e 0)) fun a=>xA (wB (e 1)) fun b=>xA (wE .add a b) fun c=>xA (wD 90 [c]) fun d=>xA (wB d) fun f=>xC (e.upd 4 f)
def e7f:=an (ro b6Y.eq_1)<|ro b5R.eq_1
def d8Z:CFn:=⟨(.seq (.region b6Y) (.seq (.region b5R) .ret)),[.t 4]⟩
def e4j:Pers:=⟨5,[],9,[]⟩
def c2O(e:a7):Reg:=xA (wB (.int .u64 0)) fun a=>xC (e.upd 4 a)
def b9j(e:a7):Reg:=xA (wB (e 0)) fun a=>xA (wB (e 1)) fun b=>xA (wD 85 [a,b]) fun c=>xA (wB c) fun d=>xA (wG d 0) fun f=>xA (wG d 1) fun g=>xA (wB f) fun i=>xA (wB g) fun j=>xC ((e.upd 5 i).upd 6 j)
def a6L(e:a7)(a b:Value):Reg:=xA (wE .rem b (.int .u64 2305843009213693951)) fun c=>xA (wD 186 [a,c]) fun d=>xA (wB d) fun f=>xC (e.upd 4 f)
def c3i(e:a7):Reg:=xA (wB (e 5)) fun a=>xA (wE .shl a (.int .u64 3)) fun b=>xA (wB (e 6)) fun c=>xA (wE .shr c (.int .u64 61)) fun d=>xA (wE .or b d) fun f=>xA (wD 90 [f]) fun g=>xA (wB (e 6)) fun i=>xA (wE .and i (.int .u64 2305843009213693951)) fun j=>a6L e g j
def e6O:=an (ro c2O.eq_1)<|an (ro b9j.eq_1)<|an (N8 a6L.eq_1)<|ro c3i.eq_1
def d7R:CFn:=⟨(.seq (.region c2O) (.seq (.region b9j) (.seq (.region c3i) .ret))),[.t 4]⟩
def e3O:Pers:=⟨7,[],23,[]⟩
def b6L(e:a7):Reg:=xA (wB (.int .u64 0)) fun a=>xC (e.upd 2 a)
def b7N(e:a7):Reg:=xA (wB (.int .u64 0)) fun a=>xC (e.upd 3 a)
def b5G(e:a7):Reg:=xA (wB (e 0)) fun a=>xA (.lenStr a) fun b=>xA (wB (.int .i64 0)) fun c=>xC ((e.upd 6 b).upd 7 c)
def b6k(e:a7):Reg:=xA (wE .lss (e 7) (e 6)) fun a=>xC (e.upd 8 a)
def c0W(e:a7):Reg:=xA (wB (e 7)) fun a=>xA (wB a) fun b=>xC (e.upd 4 b)
def b7A(e:a7):Reg:=xA (wB (e 3)) fun a=>xA (wE .shl a (.int .u64 8)) fun b=>xA (wB (e 0)) fun c=>xA (wB (e 4)) fun d=>xA (.indexStr c d) fun f=>xA (wO .u64 f) fun g=>xA (wE .or b g) fun i=>xA (wB i) fun j=>xC (e.upd 3 j)
def c3K(e:a7):Reg:=xA (wE .add (e 7) (.int .i64 1)) fun a=>xA (wB a) fun b=>xC (e.upd 7 b)
def a4e:CC:=(.seq (.region b6k) (.seq (.cond (fun e=>e 8) .skip (.exit 0)) (.seq (.block 1 (.seq (.region c0W) (.region b7A))) (.region c3K))))
def c3e(e:a7):Reg:=xA (wB (e 3)) fun a=>xA (wB a) fun b=>xC (e.upd 2 b)
def d8p:=an (ro b6L.eq_1)<|an (ro b7N.eq_1)<|an (ro b5G.eq_1)<|an (ro b6k.eq_1)<|an (ro c0W.eq_1)<|an (ro b7A.eq_1)<|an (ro c3K.eq_1)<|ro c3e.eq_1
def b4D:CFn:=⟨(.seq (.region b6L) (.seq (.region b7N) (.seq (.seq (.region b5G) (.block 0 (.loop a4e))) (.seq (.region c3e) .ret)))),[.t 2]⟩
def e3X:Pers:=⟨5,[6,7,8],19,[]⟩
def c0m(e:a7):Reg:=xA (wB (.int .i64 0)) fun a=>xC (e.upd 2 a)
def c3Z(e:a7):Reg:=xA (wB (e 0)) fun a=>xA (wD 190 [a]) fun b=>xA (wE .sub (.int .i64 64) b) fun c=>xA (wB c) fun d=>xC (e.upd 2 d)
def e7e:=an (ro c0m.eq_1)<|ro c3Z.eq_1
def d8S:CFn:=⟨(.seq (.region c0m) (.seq (.region c3Z) .ret)),[.t 2]⟩
def e3c:Pers:=⟨3,[],6,[]⟩
def b5P(e:a7):Reg:=xA (wB (.int .i64 0)) fun a=>xC (e.upd 2 a)
def b8J(e:a7):Reg:=xA (wB (e 0)) fun a=>xA (wE .geq a (.int .u64 4294967296)) fun b=>xC (e.upd 4 b)
def c3J(e:a7):Reg:=xA (wB (e 0)) fun a=>xA (wE .shr a (.int .u64 32)) fun b=>xA (wB b) fun c=>xC (e.upd 0 c)
def c1m(e:a7):Reg:=xA (wB (.int .i64 32)) fun a=>xC (e.upd 2 a)
def c0P(e:a7):Reg:=xA (wB (e 0)) fun a=>xA (wE .geq a (.int .u64 65536)) fun b=>xC (e.upd 8 b)
def c2G(e:a7):Reg:=xA (wB (e 0)) fun a=>xA (wE .shr a (.int .u64 16)) fun b=>xA (wB b) fun c=>xC (e.upd 0 c)
def c1t(e:a7):Reg:=xA (wB (e 2)) fun a=>xA (wE .add a (.int .i64 16)) fun b=>xA (wB b) fun c=>xC (e.upd 2 c)
def c4k(e:a7):Reg:=xA (wB (e 0)) fun a=>xA (wE .geq a (.int .u64 256)) fun b=>xC (e.upd 14 b)
def c3y(e:a7):Reg:=xA (wB (e 0)) fun a=>xA (wE .shr a (.int .u64 8)) fun b=>xA (wB b) fun c=>xC (e.upd 0 c)
def b7u(e:a7):Reg:=xA (wB (e 2)) fun a=>xA (wE .add a (.int .i64 8)) fun b=>xA (wB b) fun c=>xC (e.upd 2 c)
def b2z(e:a7):Reg:=xA (wB (e 2)) fun a=>xA (wB (e 0)) fun b=>xA (wO .u8 b) fun c=>xA (.indexStr (.string d7r) c) fun d=>xA (wO .i64 d) fun f=>xA (wE .add a f) fun g=>xA (wB g) fun i=>xC (e.upd 2 i)
def b2C:=an (ro b5P.eq_1)<|an (ro b8J.eq_1)<|an (ro c3J.eq_1)<|an (ro c1m.eq_1)<|an (ro c0P.eq_1)<|an (ro c2G.eq_1)<|an (ro c1t.eq_1)<|an (ro c4k.eq_1)<|an (ro c3y.eq_1)<|an (ro b7u.eq_1)<|ro b2z.eq_1
def a4S:CFn:=⟨(.seq (.region b5P) (.seq (.seq (.region b8J) (.cond (fun e=>e 4) (.seq (.region c3J) (.region c1m)) .skip)) (.seq (.seq (.region c0P) (.cond (fun e=>e 8) (.seq (.region c2G) (.region c1t)) .skip)) (.seq (.seq (.region c4k) (.cond (fun e=>e 14) (.seq (.region c3y) (.region b7u)) .skip)) (.seq (.region b2z) .ret))))),[.t 2]⟩
def e4u:Pers:=⟨3,[4,8,14],25,[]⟩
def cpF:FuncId->Option CFn
 |9=>some c9
 |11=>some c11
 |12=>some c12
 |13=>some c13
 |14=>some c14
 |15=>some c15
 |16=>some c16
 |20=>some c20
 |21=>some c21
 |25=>some c25
 |26=>some c26
 |27=>some c27
 |28=>some c28
 |30=>some c30
 |31=>some c31
 |32=>some c32
 |34=>some c34
 |35=>some c35
 |36=>some c36
 |38=>some c38
 |39=>some c39
 |40=>some c40
 |44=>some c44
 |45=>some c45
 |46=>some c46
 |47=>some c47
 |49=>some c49
 |50=>some c50
 |51=>some c51
 |52=>some c52
 |53=>some c53
 |54=>some c54
 |55=>some c55
 |56=>some c56
 |57=>some c57
 |58=>some c58
 |59=>some c59
 |60=>some c60
 |61=>some c61
 |62=>some c62
 |63=>some c63
 |64=>some c64
 |65=>some c65
 |66=>some c66
 |70=>some c70
 |71=>some c71
 |72=>some c72
 |73=>some c73
 |74=>some c74
 |75=>some c75
 |76=>some c76
 |77=>some c77
 |78=>some c78
 |79=>some c79
 |80=>some c80
 |81=>some c81
 |82=>some c82
 |83=>some c83
 |84=>some c84
 |85=>some c85
 |86=>some c86
 |87=>some c87
 |88=>some c88
 |89=>some c89
 |90=>some c90
 |91=>some c91
 |92=>some c92
 |93=>some c93
 |94=>some c94
 |95=>some c95
 |96=>some c96
 |97=>some c97
 |98=>some c98
 |99=>some c99
 |100=>some d9a
 |101=>some b2s
 |117=>some a9S
 |118=>some d3Q
 |119=>some d3v
 |120=>some R5
 |121=>some b5s
 |126=>some d0L
 |127=>some b2t
 |128=>some c6g
 |129=>some d9b
 |130=>some a9V
 |131=>some Y1
 |132=>some b5i
 |133=>some b5j
 |134=>some b1i
 |135=>some d1L
 |136=>some b3a
 |137=>some a7n
 |138=>some d9o
 |139=>some c5n
 |140=>some b0f
 |141=>some d8D
 |142=>some d8Q
 |144=>some d8h
 |145=>some d8V
 |147=>some d0r
 |148=>some d7b
 |149=>some d5B
 |150=>some c5V
 |151=>some b4v
 |152=>some a2x
 |153=>some d3E
 |154=>some c6N
 |155=>some d1G
 |156=>some d8v
 |157=>some b1O
 |158=>some d8b
 |159=>some d9f
 |160=>some b0y
 |161=>some d8B
 |162=>some b0E
 |163=>some c163
 |165=>some b1J
 |166=>some d2r
 |167=>some a7w
 |168=>some d7O
 |169=>some c7d
 |170=>some d0N
 |171=>some c6l
 |172=>some a9T
 |173=>some d1C
 |174=>some d7K
 |175=>some d8P
 |176=>some d8X
 |177=>some c5s
 |178=>some d8G
 |179=>some c7g
 |180=>some d7N
 |181=>some d8E
 |182=>some d9r
 |183=>some b5q
 |184=>some a0m
 |185=>some d9i
 |186=>some d8Z
 |187=>some d7R
 |188=>some b4D
 |189=>some d8S
 |190=>some a4S
 |_=>none
def cp:CProg:=⟨cpF,none⟩
theorem e8w:cp 12=some c12:=rfl
theorem e6B:cp 13=some c13:=rfl
theorem e6k:cp 14=some c14:=rfl
theorem e0N:cp 15=some c15:=rfl
theorem e8A:cp 16=some c16:=rfl
theorem e9a:cp 20=some c20:=rfl
theorem e8o:cp 25=some c25:=rfl
theorem e8Q:cp 26=some c26:=rfl
theorem e7S:cp 27=some c27:=rfl
theorem e7j:cp 28=some c28:=rfl
theorem e7u:cp 30=some c30:=rfl
theorem e8N:cp 31=some c31:=rfl
theorem e7A:cp 32=some c32:=rfl
theorem e7n:cp 34=some c34:=rfl
theorem e1q:cp 35=some c35:=rfl
theorem e6V:cp 36=some c36:=rfl
theorem e6M:cp 38=some c38:=rfl
theorem e7b:cp 39=some c39:=rfl
theorem e8W:cp 40=some c40:=rfl
theorem e6X:cp 44=some c44:=rfl
theorem e9m:cp 45=some c45:=rfl
theorem e7L:cp 46=some c46:=rfl
theorem e4w:cp 49=some c49:=rfl
theorem e6w:cp 50=some c50:=rfl
theorem e8E:cp 51=some c51:=rfl
theorem e6U:cp 52=some c52:=rfl
theorem e6K:cp 53=some c53:=rfl
theorem e6D:cp 54=some c54:=rfl
theorem e7B:cp 55=some c55:=rfl
theorem e7y:cp 56=some c56:=rfl
theorem e9d:cp 57=some c57:=rfl
theorem e8y:cp 58=some c58:=rfl
theorem e8D:cp 59=some c59:=rfl
theorem e7t:cp 60=some c60:=rfl
theorem e6A:cp 61=some c61:=rfl
theorem e8i:cp 62=some c62:=rfl
theorem e8p:cp 63=some c63:=rfl
theorem e6E:cp 64=some c64:=rfl
theorem e8S:cp 65=some c65:=rfl
theorem e6P:cp 66=some c66:=rfl
theorem e7C:cp 70=some c70:=rfl
theorem e9r:cp 71=some c71:=rfl
theorem e7N:cp 72=some c72:=rfl
theorem e6G:cp 73=some c73:=rfl
theorem e4a:cp 74=some c74:=rfl
theorem e7q:cp 75=some c75:=rfl
theorem e7Y:cp 76=some c76:=rfl
theorem e7d:cp 77=some c77:=rfl
theorem e7w:cp 78=some c78:=rfl
theorem e7c:cp 79=some c79:=rfl
theorem e7X:cp 80=some c80:=rfl
theorem e8P:cp 81=some c81:=rfl
theorem e7P:cp 82=some c82:=rfl
theorem e6L:cp 83=some c83:=rfl
theorem e9p:cp 84=some c84:=rfl
theorem e8m:cp 85=some c85:=rfl
theorem e9n:cp 86=some c86:=rfl
theorem e6l:cp 87=some c87:=rfl
theorem e8q:cp 88=some c88:=rfl
theorem e6y:cp 89=some c89:=rfl
theorem e8r:cp 90=some c90:=rfl
theorem e8I:cp 91=some c91:=rfl
theorem e7Z:cp 92=some c92:=rfl
theorem e8v:cp 93=some c93:=rfl
theorem e6Y:cp 94=some c94:=rfl
theorem e8j:cp 95=some c95:=rfl
theorem e8O:cp 96=some c96:=rfl
theorem e8J:cp 97=some c97:=rfl
theorem e7H:cp 98=some c98:=rfl
theorem e2P:cp 99=some c99:=rfl
theorem e5W:cp 100=some d9a:=rfl
theorem e5k:cp 101=some b2s:=rfl
theorem e4t:cp 117=some a9S:=rfl
theorem e6f:cp 118=some d3Q:=rfl
theorem e1G:cp 119=some d3v:=rfl
theorem d9F:cp 120=some R5:=rfl
theorem e3s:cp 121=some b5s:=rfl
theorem e2J:cp 126=some d0L:=rfl
theorem e2H:cp 127=some b2t:=rfl
theorem e6g:cp 128=some c6g:=rfl
theorem e3S:cp 129=some d9b:=rfl
theorem e4o:cp 130=some a9V:=rfl
theorem e1K:cp 131=some Y1:=rfl
theorem d9v:cp 132=some b5i:=rfl
theorem e1V:cp 133=some b5j:=rfl
theorem e5z:cp 134=some b1i:=rfl
theorem e1I:cp 135=some d1L:=rfl
theorem e5I:cp 136=some b3a:=rfl
theorem e3z:cp 137=some a7n:=rfl
theorem e2y:cp 138=some d9o:=rfl
theorem e5P:cp 139=some c5n:=rfl
theorem e3o:cp 140=some b0f:=rfl
theorem e1U:cp 141=some d8D:=rfl
theorem e4c:cp 142=some d8Q:=rfl
theorem e2g:cp 144=some d8h:=rfl
theorem e3R:cp 145=some d8V:=rfl
theorem e6b:cp 147=some d0r:=rfl
theorem d9x:cp 148=some d7b:=rfl
theorem e2W:cp 149=some d5B:=rfl
theorem e4p:cp 150=some c5V:=rfl
theorem e4g:cp 151=some b4v:=rfl
theorem e3b:cp 152=some a2x:=rfl
theorem e5Z:cp 153=some d3E:=rfl
theorem e2Q:cp 154=some c6N:=rfl
theorem e5L:cp 155=some d1G:=rfl
theorem e3a:cp 156=some d8v:=rfl
theorem e3y:cp 157=some b1O:=rfl
theorem e3K:cp 158=some d8b:=rfl
theorem e2M:cp 159=some d9f:=rfl
theorem e2z:cp 160=some b0y:=rfl
theorem e2e:cp 161=some d8B:=rfl
theorem e2m:cp 162=some b0E:=rfl
theorem e5N:cp 163=some c163:=rfl
theorem e2Z:cp 165=some b1J:=rfl
theorem d9D:cp 166=some d2r:=rfl
theorem e5J:cp 167=some a7w:=rfl
theorem e4i:cp 168=some d7O:=rfl
theorem e5B:cp 169=some c7d:=rfl
theorem e3E:cp 170=some d0N:=rfl
theorem e4m:cp 171=some c6l:=rfl
theorem d9H:cp 172=some a9T:=rfl
theorem e3H:cp 173=some d1C:=rfl
theorem e5X:cp 174=some d7K:=rfl
theorem e6c:cp 175=some d8P:=rfl
theorem e1B:cp 176=some d8X:=rfl
theorem e4b:cp 177=some c5s:=rfl
theorem e3A:cp 178=some d8G:=rfl
theorem e1E:cp 179=some c7g:=rfl
theorem e3w:cp 180=some d7N:=rfl
theorem e2X:cp 181=some d8E:=rfl
theorem e5Q:cp 182=some d9r:=rfl
theorem e4k:cp 183=some b5q:=rfl
theorem e5n:cp 184=some a0m:=rfl
theorem e4Z:cp 185=some d9i:=rfl
theorem e2q:cp 186=some d8Z:=rfl
theorem e2E:cp 187=some d7R:=rfl
theorem e3m:cp 188=some b4D:=rfl
theorem e3I:cp 189=some d8S:=rfl
theorem a3b:cp 190=some a4S:=rfl
theorem fn9:u6 Tryz.prog p9 Tryz.f9=some c9:=by kernel_rfl
theorem e6C:u6 Tryz.prog p11 Tryz.f11=some c11:=by kernel_rfl
theorem e8u:u6 Tryz.prog p12 Tryz.f12=some c12:=by kernel_rfl
theorem e7U:u6 Tryz.prog p13 Tryz.f13=some c13:=by kernel_rfl
theorem e8t:u6 Tryz.prog p14 Tryz.f14=some c14:=by kernel_rfl
theorem e8H:u6 Tryz.prog p15 Tryz.f15=some c15:=by kernel_rfl
theorem e9i:u6 Tryz.prog p16 Tryz.f16=some c16:=by kernel_rfl
theorem e7p:u6 Tryz.prog p20 Tryz.f20=some c20:=by kernel_rfl
theorem e7x:u6 Tryz.prog p21 Tryz.f21=some c21:=by kernel_rfl
theorem e6q:u6 Tryz.prog p25 Tryz.f25=some c25:=by kernel_rfl
theorem e7a:u6 Tryz.prog p26 Tryz.f26=some c26:=by kernel_rfl
theorem e8M:u6 Tryz.prog p27 Tryz.f27=some c27:=by kernel_rfl
theorem e8a:u6 Tryz.prog p28 Tryz.f28=some c28:=by kernel_rfl
theorem e8X:u6 Tryz.prog p30 Tryz.f30=some c30:=by kernel_rfl
theorem e6H:u6 Tryz.prog p31 Tryz.f31=some c31:=by kernel_rfl
theorem e7r:u6 Tryz.prog p32 Tryz.f32=some c32:=by kernel_rfl
theorem e6J:u6 Tryz.prog p34 Tryz.f34=some c34:=by kernel_rfl
theorem e8c:u6 Tryz.prog p35 Tryz.f35=some c35:=by kernel_rfl
theorem e7g:u6 Tryz.prog p36 Tryz.f36=some c36:=by kernel_rfl
theorem e7h:u6 Tryz.prog p38 Tryz.f38=some c38:=by kernel_rfl
theorem e7R:u6 Tryz.prog p39 Tryz.f39=some c39:=by kernel_rfl
theorem e8Z:u6 Tryz.prog p40 Tryz.f40=some c40:=by kernel_rfl
theorem e7M:u6 Tryz.prog p44 Tryz.f44=some c44:=by kernel_rfl
theorem e7o:u6 Tryz.prog p45 Tryz.f45=some c45:=by kernel_rfl
theorem e6n:u6 Tryz.prog p46 Tryz.f46=some c46:=by kernel_rfl
theorem e8G:u6 Tryz.prog p47 Tryz.f47=some c47:=by kernel_rfl
theorem e7i:u6 Tryz.prog p49 Tryz.f49=some c49:=by kernel_rfl
theorem e9f:u6 Tryz.prog p50 Tryz.f50=some c50:=by kernel_rfl
theorem e7O:u6 Tryz.prog p51 Tryz.f51=some c51:=by kernel_rfl
theorem e7z:u6 Tryz.prog p52 Tryz.f52=some c52:=by kernel_rfl
theorem e8x:u6 Tryz.prog p53 Tryz.f53=some c53:=by kernel_rfl
theorem e8R:u6 Tryz.prog p54 Tryz.f54=some c54:=by kernel_rfl
theorem e8b:u6 Tryz.prog p55 Tryz.f55=some c55:=by kernel_rfl
theorem e7Q:u6 Tryz.prog p56 Tryz.f56=some c56:=by kernel_rfl
theorem e7G:u6 Tryz.prog p57 Tryz.f57=some c57:=by kernel_rfl
theorem e9o:u6 Tryz.prog p58 Tryz.f58=some c58:=by kernel_rfl
theorem e8s:u6 Tryz.prog p59 Tryz.f59=some c59:=by kernel_rfl
theorem e9b:u6 Tryz.prog p60 Tryz.f60=some c60:=by kernel_rfl
theorem e7J:u6 Tryz.prog p61 Tryz.f61=some c61:=by kernel_rfl
theorem e6Z:u6 Tryz.prog p62 Tryz.f62=some c62:=by kernel_rfl
theorem e7E:u6 Tryz.prog p63 Tryz.f63=some c63:=by kernel_rfl
theorem e7T:u6 Tryz.prog p64 Tryz.f64=some c64:=by kernel_rfl
theorem e6r:u6 Tryz.prog p65 Tryz.f65=some c65:=by kernel_rfl
theorem e7v:u6 Tryz.prog p66 Tryz.f66=some c66:=by kernel_rfl
theorem e9s:u6 Tryz.prog p70 Tryz.f70=some c70:=by kernel_rfl
theorem e8V:u6 Tryz.prog p71 Tryz.f71=some c71:=by kernel_rfl
theorem e6W:u6 Tryz.prog p72 Tryz.f72=some c72:=by kernel_rfl
theorem e7W:u6 Tryz.prog p73 Tryz.f73=some c73:=by kernel_rfl
theorem e8e:u6 Tryz.prog p74 Tryz.f74=some c74:=by kernel_rfl
theorem e8L:u6 Tryz.prog p75 Tryz.f75=some c75:=by kernel_rfl
theorem e9c:u6 Tryz.prog p76 Tryz.f76=some c76:=by kernel_rfl
theorem e8T:u6 Tryz.prog p77 Tryz.f77=some c77:=by kernel_rfl
theorem e6T:u6 Tryz.prog p78 Tryz.f78=some c78:=by kernel_rfl
theorem e8f:u6 Tryz.prog p79 Tryz.f79=some c79:=by kernel_rfl
theorem e8F:u6 Tryz.prog p80 Tryz.f80=some c80:=by kernel_rfl
theorem e8z:u6 Tryz.prog p81 Tryz.f81=some c81:=by kernel_rfl
theorem e7k:u6 Tryz.prog p82 Tryz.f82=some c82:=by kernel_rfl
theorem e9g:u6 Tryz.prog p83 Tryz.f83=some c83:=by kernel_rfl
theorem e7K:u6 Tryz.prog p84 Tryz.f84=some c84:=by kernel_rfl
theorem e9k:u6 Tryz.prog p85 Tryz.f85=some c85:=by kernel_rfl
theorem e6i:u6 Tryz.prog p86 Tryz.f86=some c86:=by kernel_rfl
theorem e7I:u6 Tryz.prog p87 Tryz.f87=some c87:=by kernel_rfl
theorem e9e:u6 Tryz.prog p88 Tryz.f88=some c88:=by kernel_rfl
theorem e7D:u6 Tryz.prog p89 Tryz.f89=some c89:=by kernel_rfl
theorem e6S:u6 Tryz.prog p90 Tryz.f90=some c90:=by kernel_rfl
theorem e8C:u6 Tryz.prog p91 Tryz.f91=some c91:=by kernel_rfl
theorem e9l:u6 Tryz.prog p92 Tryz.f92=some c92:=by kernel_rfl
theorem e9h:u6 Tryz.prog p93 Tryz.f93=some c93:=by kernel_rfl
theorem e8d:u6 Tryz.prog p94 Tryz.f94=some c94:=by kernel_rfl
theorem e6F:u6 Tryz.prog p95 Tryz.f95=some c95:=by kernel_rfl
theorem e7m:u6 Tryz.prog p96 Tryz.f96=some c96:=by kernel_rfl
theorem e6I:u6 Tryz.prog p97 Tryz.f97=some c97:=by kernel_rfl
theorem e6t:u6 Tryz.prog p98 Tryz.f98=some c98:=by kernel_rfl
theorem e7V:u6 Tryz.prog p99 Tryz.f99=some c99:=by kernel_rfl
theorem e5t:u6 Tryz.prog e2n Tryz.f100=some d9a:=by kernel_rfl
theorem e1A:u6 Tryz.prog e4s Tryz.f101=some b2s:=by kernel_rfl
theorem e2T:u6 Tryz.prog e4Q Tryz.f117=some a9S:=by kernel_rfl
theorem e4R:u6 Tryz.prog e2Y Tryz.f118=some d3Q:=by kernel_rfl
theorem e4D:u6 Tryz.prog e2D Tryz.f119=some d3v:=by kernel_rfl
theorem e4X:u6 Tryz.prog e2S Tryz.f120=some R5:=by kernel_rfl
theorem e5E:u6 Tryz.prog e1X Tryz.f121=some b5s:=by kernel_rfl
theorem e4F:u6 Tryz.prog e3f Tryz.f126=some d0L:=by kernel_rfl
theorem e2V:u6 Tryz.prog e1O Tryz.f127=some b2t:=by kernel_rfl
theorem e5O:u6 Tryz.prog e3j Tryz.f128=some c6g:=by kernel_rfl
theorem e3u:u6 Tryz.prog e2l Tryz.f129=some d9b:=by kernel_rfl
theorem e3B:u6 Tryz.prog e4h Tryz.f130=some a9V:=by kernel_rfl
theorem e3Y:u6 Tryz.prog e4y Tryz.f131=some Y1:=by kernel_rfl
theorem e5x:u6 Tryz.prog e2h Tryz.f132=some b5i:=by kernel_rfl
theorem e5f:u6 Tryz.prog e5F Tryz.f133=some b5j:=by kernel_rfl
theorem e3M:u6 Tryz.prog e2N Tryz.f134=some b1i:=by kernel_rfl
theorem e1W:u6 Tryz.prog e5M Tryz.f135=some d1L:=by kernel_rfl
theorem e1D:u6 Tryz.prog e3C Tryz.f136=some b3a:=by kernel_rfl
theorem e5G:u6 Tryz.prog e3F Tryz.f137=some a7n:=by kernel_rfl
theorem e2K:u6 Tryz.prog e4z Tryz.f138=some d9o:=by kernel_rfl
theorem e6h:u6 Tryz.prog e4S Tryz.f139=some c5n:=by kernel_rfl
theorem e4B:u6 Tryz.prog e3Z Tryz.f140=some b0f:=by kernel_rfl
theorem e5p:u6 Tryz.prog e2R Tryz.f141=some d8D:=by kernel_rfl
theorem e2t:u6 Tryz.prog e5H Tryz.f142=some d8Q:=by kernel_rfl
theorem e5V:u6 Tryz.prog e2F Tryz.f144=some d8h:=by kernel_rfl
theorem e2u:u6 Tryz.prog e2w Tryz.f145=some d8V:=by kernel_rfl
theorem e5h:u6 Tryz.prog e5y Tryz.f147=some d0r:=by kernel_rfl
theorem e2O:u6 Tryz.prog e3e Tryz.f148=some d7b:=by kernel_rfl
theorem e5Y:u6 Tryz.prog e2A Tryz.f149=some d5B:=by kernel_rfl
theorem e4q:u6 Tryz.prog e2a Tryz.f150=some c5V:=by kernel_rfl
theorem e4n:u6 Tryz.prog e3L Tryz.f151=some b4v:=by kernel_rfl
theorem e1H:u6 Tryz.prog e1Z Tryz.f152=some a2x:=by kernel_rfl
theorem e5g:u6 Tryz.prog e5j Tryz.f153=some d3E:=by kernel_rfl
theorem e5l:u6 Tryz.prog e3r Tryz.f154=some c6N:=by kernel_rfl
theorem e5d:u6 Tryz.prog e5q Tryz.f155=some d1G:=by kernel_rfl
theorem e2r:u6 Tryz.prog e3U Tryz.f156=some d8v:=by kernel_rfl
theorem e1M:u6 Tryz.prog e1z Tryz.f157=some b1O:=by kernel_rfl
theorem e3q:u6 Tryz.prog e3n Tryz.f158=some d8b:=by kernel_rfl
theorem e4x:u6 Tryz.prog e1Y Tryz.f159=some d9f:=by kernel_rfl
theorem e1F:u6 Tryz.prog e2f Tryz.f160=some b0y:=by kernel_rfl
theorem e3D:u6 Tryz.prog e6d Tryz.f161=some d8B:=by kernel_rfl
theorem e2c:u6 Tryz.prog e4r Tryz.f162=some b0E:=by kernel_rfl
theorem e3l:u6 Tryz.prog e5S Tryz.f163=some c163:=by kernel_rfl
theorem e3v:u6 Tryz.prog e2L Tryz.f165=some b1J:=by kernel_rfl
theorem e3V:u6 Tryz.prog e4U Tryz.f166=some d2r:=by kernel_rfl
theorem e4J:u6 Tryz.prog e5D Tryz.f167=some a7w:=by kernel_rfl
theorem e2j:u6 Tryz.prog e4K Tryz.f168=some d7O:=by kernel_rfl
theorem e4E:u6 Tryz.prog e4G Tryz.f169=some c7d:=by kernel_rfl
theorem e3k:u6 Tryz.prog e3x Tryz.f170=some d0N:=by kernel_rfl
theorem e5r:u6 Tryz.prog e2B Tryz.f171=some c6l:=by kernel_rfl
theorem e5o:u6 Tryz.prog e3g Tryz.f172=some a9T:=by kernel_rfl
theorem e3h:u6 Tryz.prog e1P Tryz.f173=some d1C:=by kernel_rfl
theorem e2b:u6 Tryz.prog e4H Tryz.f174=some d7K:=by kernel_rfl
theorem e5T:u6 Tryz.prog e5a Tryz.f175=some d8P:=by kernel_rfl
theorem e3i:u6 Tryz.prog e2I Tryz.f176=some d8X:=by kernel_rfl
theorem e4L:u6 Tryz.prog e1Q Tryz.f177=some c5s:=by kernel_rfl
theorem e4v:u6 Tryz.prog e2G Tryz.f178=some d8G:=by kernel_rfl
theorem e1J:u6 Tryz.prog e3t Tryz.f179=some c7g:=by kernel_rfl
theorem e6a:u6 Tryz.prog e3G Tryz.f180=some d7N:=by kernel_rfl
theorem e4l:u6 Tryz.prog e1S Tryz.f181=some d8E:=by kernel_rfl
theorem e3T:u6 Tryz.prog e2x Tryz.f182=some d9r:=by kernel_rfl
theorem e3W:u6 Tryz.prog e5b Tryz.f183=some b5q:=by kernel_rfl
theorem e2p:u6 Tryz.prog e4V Tryz.f184=some a0m:=by kernel_rfl
theorem e4W:u6 Tryz.prog e1C Tryz.f185=some d9i:=by kernel_rfl
theorem e1T:u6 Tryz.prog e4j Tryz.f186=some d8Z:=by kernel_rfl
theorem e3Q:u6 Tryz.prog e3O Tryz.f187=some d7R:=by kernel_rfl
theorem e2v:u6 Tryz.prog e3X Tryz.f188=some b4D:=by kernel_rfl
theorem e4C:u6 Tryz.prog e3c Tryz.f189=some d8S:=by kernel_rfl
theorem e1y:u6 Tryz.prog e4u Tryz.f190=some a4S:=by kernel_rfl
set_option maxRecDepth 100000 in
theorem d2J:a6d Tryz.prog cp:=by
 refine⟨rfl,fun f fn h=>?_⟩
 have h:cpF f=some fn:=h
 unfold cpF at h
 split at h
 ·obtain rfl:=yA h;exact⟨p9,Tryz.f9,Tryz.func9,fn9⟩
 ·obtain rfl:=yA h;exact⟨p11,Tryz.f11,Tryz.func11,e6C⟩
 ·obtain rfl:=yA h;exact⟨p12,Tryz.f12,Tryz.func12,e8u⟩
 ·obtain rfl:=yA h;exact⟨p13,Tryz.f13,Tryz.func13,e7U⟩
 ·obtain rfl:=yA h;exact⟨p14,Tryz.f14,Tryz.func14,e8t⟩
 ·obtain rfl:=yA h;exact⟨p15,Tryz.f15,Tryz.func15,e8H⟩
 ·obtain rfl:=yA h;exact⟨p16,Tryz.f16,Tryz.func16,e9i⟩
 ·obtain rfl:=yA h;exact⟨p20,Tryz.f20,Tryz.func20,e7p⟩
 ·obtain rfl:=yA h;exact⟨p21,Tryz.f21,Tryz.func21,e7x⟩
 ·obtain rfl:=yA h;exact⟨p25,Tryz.f25,Tryz.func25,e6q⟩
 ·obtain rfl:=yA h;exact⟨p26,Tryz.f26,Tryz.func26,e7a⟩
 ·obtain rfl:=yA h;exact⟨p27,Tryz.f27,Tryz.func27,e8M⟩
 ·obtain rfl:=yA h;exact⟨p28,Tryz.f28,Tryz.func28,e8a⟩
 ·obtain rfl:=yA h;exact⟨p30,Tryz.f30,Tryz.func30,e8X⟩
 ·obtain rfl:=yA h;exact⟨p31,Tryz.f31,Tryz.func31,e6H⟩
 ·obtain rfl:=yA h;exact⟨p32,Tryz.f32,Tryz.func32,e7r⟩
 ·obtain rfl:=yA h;exact⟨p34,Tryz.f34,Tryz.func34,e6J⟩
 ·obtain rfl:=yA h;exact⟨p35,Tryz.f35,Tryz.func35,e8c⟩
 ·obtain rfl:=yA h;exact⟨p36,Tryz.f36,Tryz.func36,e7g⟩
 ·obtain rfl:=yA h;exact⟨p38,Tryz.f38,Tryz.func38,e7h⟩
 ·obtain rfl:=yA h;exact⟨p39,Tryz.f39,Tryz.func39,e7R⟩
 ·obtain rfl:=yA h;exact⟨p40,Tryz.f40,Tryz.func40,e8Z⟩
 ·obtain rfl:=yA h;exact⟨p44,Tryz.f44,Tryz.func44,e7M⟩
 ·obtain rfl:=yA h;exact⟨p45,Tryz.f45,Tryz.func45,e7o⟩
 ·obtain rfl:=yA h;exact⟨p46,Tryz.f46,Tryz.func46,e6n⟩
 ·obtain rfl:=yA h;exact⟨p47,Tryz.f47,Tryz.func47,e8G⟩
 ·obtain rfl:=yA h;exact⟨p49,Tryz.f49,Tryz.func49,e7i⟩
 ·obtain rfl:=yA h;exact⟨p50,Tryz.f50,Tryz.func50,e9f⟩
 ·obtain rfl:=yA h;exact⟨p51,Tryz.f51,Tryz.func51,e7O⟩
 ·obtain rfl:=yA h;exact⟨p52,Tryz.f52,Tryz.func52,e7z⟩
 ·obtain rfl:=yA h;exact⟨p53,Tryz.f53,Tryz.func53,e8x⟩
 ·obtain rfl:=yA h;exact⟨p54,Tryz.f54,Tryz.func54,e8R⟩
 ·obtain rfl:=yA h;exact⟨p55,Tryz.f55,Tryz.func55,e8b⟩
 ·obtain rfl:=yA h;exact⟨p56,Tryz.f56,Tryz.func56,e7Q⟩
 ·obtain rfl:=yA h;exact⟨p57,Tryz.f57,Tryz.func57,e7G⟩
 ·obtain rfl:=yA h;exact⟨p58,Tryz.f58,Tryz.func58,e9o⟩
 ·obtain rfl:=yA h;exact⟨p59,Tryz.f59,Tryz.func59,e8s⟩
 ·obtain rfl:=yA h;exact⟨p60,Tryz.f60,Tryz.func60,e9b⟩
 ·obtain rfl:=yA h;exact⟨p61,Tryz.f61,Tryz.func61,e7J⟩
 ·obtain rfl:=yA h;exact⟨p62,Tryz.f62,Tryz.func62,e6Z⟩
 ·obtain rfl:=yA h;exact⟨p63,Tryz.f63,Tryz.func63,e7E⟩
 ·obtain rfl:=yA h;exact⟨p64,Tryz.f64,Tryz.func64,e7T⟩
 ·obtain rfl:=yA h;exact⟨p65,Tryz.f65,Tryz.func65,e6r⟩
 ·obtain rfl:=yA h;exact⟨p66,Tryz.f66,Tryz.func66,e7v⟩
 ·obtain rfl:=yA h;exact⟨p70,Tryz.f70,Tryz.func70,e9s⟩
 ·obtain rfl:=yA h;exact⟨p71,Tryz.f71,Tryz.func71,e8V⟩
 ·obtain rfl:=yA h;exact⟨p72,Tryz.f72,Tryz.func72,e6W⟩
 ·obtain rfl:=yA h;exact⟨p73,Tryz.f73,Tryz.func73,e7W⟩
 ·obtain rfl:=yA h;exact⟨p74,Tryz.f74,Tryz.func74,e8e⟩
 ·obtain rfl:=yA h;exact⟨p75,Tryz.f75,Tryz.func75,e8L⟩
 ·obtain rfl:=yA h;exact⟨p76,Tryz.f76,Tryz.func76,e9c⟩
 ·obtain rfl:=yA h;exact⟨p77,Tryz.f77,Tryz.func77,e8T⟩
 ·obtain rfl:=yA h;exact⟨p78,Tryz.f78,Tryz.func78,e6T⟩
 ·obtain rfl:=yA h;exact⟨p79,Tryz.f79,Tryz.func79,e8f⟩
 ·obtain rfl:=yA h;exact⟨p80,Tryz.f80,Tryz.func80,e8F⟩
 ·obtain rfl:=yA h;exact⟨p81,Tryz.f81,Tryz.func81,e8z⟩
 ·obtain rfl:=yA h;exact⟨p82,Tryz.f82,Tryz.func82,e7k⟩
 ·obtain rfl:=yA h;exact⟨p83,Tryz.f83,Tryz.func83,e9g⟩
 ·obtain rfl:=yA h;exact⟨p84,Tryz.f84,Tryz.func84,e7K⟩
 ·obtain rfl:=yA h;exact⟨p85,Tryz.f85,Tryz.func85,e9k⟩
 ·obtain rfl:=yA h;exact⟨p86,Tryz.f86,Tryz.func86,e6i⟩
 ·obtain rfl:=yA h;exact⟨p87,Tryz.f87,Tryz.func87,e7I⟩
 ·obtain rfl:=yA h;exact⟨p88,Tryz.f88,Tryz.func88,e9e⟩
 ·obtain rfl:=yA h;exact⟨p89,Tryz.f89,Tryz.func89,e7D⟩
 ·obtain rfl:=yA h;exact⟨p90,Tryz.f90,Tryz.func90,e6S⟩
 ·obtain rfl:=yA h;exact⟨p91,Tryz.f91,Tryz.func91,e8C⟩
 ·obtain rfl:=yA h;exact⟨p92,Tryz.f92,Tryz.func92,e9l⟩
 ·obtain rfl:=yA h;exact⟨p93,Tryz.f93,Tryz.func93,e9h⟩
 ·obtain rfl:=yA h;exact⟨p94,Tryz.f94,Tryz.func94,e8d⟩
 ·obtain rfl:=yA h;exact⟨p95,Tryz.f95,Tryz.func95,e6F⟩
 ·obtain rfl:=yA h;exact⟨p96,Tryz.f96,Tryz.func96,e7m⟩
 ·obtain rfl:=yA h;exact⟨p97,Tryz.f97,Tryz.func97,e6I⟩
 ·obtain rfl:=yA h;exact⟨p98,Tryz.f98,Tryz.func98,e6t⟩
 ·obtain rfl:=yA h;exact⟨p99,Tryz.f99,Tryz.func99,e7V⟩
 ·obtain rfl:=yA h;exact⟨e2n,Tryz.f100,Tryz.func100,e5t⟩
 ·obtain rfl:=yA h;exact⟨e4s,Tryz.f101,Tryz.func101,e1A⟩
 ·obtain rfl:=yA h;exact⟨e4Q,Tryz.f117,Tryz.func117,e2T⟩
 ·obtain rfl:=yA h;exact⟨e2Y,Tryz.f118,Tryz.func118,e4R⟩
 ·obtain rfl:=yA h;exact⟨e2D,Tryz.f119,Tryz.func119,e4D⟩
 ·obtain rfl:=yA h;exact⟨e2S,Tryz.f120,Tryz.func120,e4X⟩
 ·obtain rfl:=yA h;exact⟨e1X,Tryz.f121,Tryz.func121,e5E⟩
 ·obtain rfl:=yA h;exact⟨e3f,Tryz.f126,Tryz.func126,e4F⟩
 ·obtain rfl:=yA h;exact⟨e1O,Tryz.f127,Tryz.func127,e2V⟩
 ·obtain rfl:=yA h;exact⟨e3j,Tryz.f128,Tryz.func128,e5O⟩
 ·obtain rfl:=yA h;exact⟨e2l,Tryz.f129,Tryz.func129,e3u⟩
 ·obtain rfl:=yA h;exact⟨e4h,Tryz.f130,Tryz.func130,e3B⟩
 ·obtain rfl:=yA h;exact⟨e4y,Tryz.f131,Tryz.func131,e3Y⟩
 ·obtain rfl:=yA h;exact⟨e2h,Tryz.f132,Tryz.func132,e5x⟩
 ·obtain rfl:=yA h;exact⟨e5F,Tryz.f133,Tryz.func133,e5f⟩
 ·obtain rfl:=yA h;exact⟨e2N,Tryz.f134,Tryz.func134,e3M⟩
 ·obtain rfl:=yA h;exact⟨e5M,Tryz.f135,Tryz.func135,e1W⟩
 ·obtain rfl:=yA h;exact⟨e3C,Tryz.f136,Tryz.func136,e1D⟩
 ·obtain rfl:=yA h;exact⟨e3F,Tryz.f137,Tryz.func137,e5G⟩
 ·obtain rfl:=yA h;exact⟨e4z,Tryz.f138,Tryz.func138,e2K⟩
 ·obtain rfl:=yA h;exact⟨e4S,Tryz.f139,Tryz.func139,e6h⟩
 ·obtain rfl:=yA h;exact⟨e3Z,Tryz.f140,Tryz.func140,e4B⟩
 ·obtain rfl:=yA h;exact⟨e2R,Tryz.f141,Tryz.func141,e5p⟩
 ·obtain rfl:=yA h;exact⟨e5H,Tryz.f142,Tryz.func142,e2t⟩
 ·obtain rfl:=yA h;exact⟨e2F,Tryz.f144,Tryz.func144,e5V⟩
 ·obtain rfl:=yA h;exact⟨e2w,Tryz.f145,Tryz.func145,e2u⟩
 ·obtain rfl:=yA h;exact⟨e5y,Tryz.f147,Tryz.func147,e5h⟩
 ·obtain rfl:=yA h;exact⟨e3e,Tryz.f148,Tryz.func148,e2O⟩
 ·obtain rfl:=yA h;exact⟨e2A,Tryz.f149,Tryz.func149,e5Y⟩
 ·obtain rfl:=yA h;exact⟨e2a,Tryz.f150,Tryz.func150,e4q⟩
 ·obtain rfl:=yA h;exact⟨e3L,Tryz.f151,Tryz.func151,e4n⟩
 ·obtain rfl:=yA h;exact⟨e1Z,Tryz.f152,Tryz.func152,e1H⟩
 ·obtain rfl:=yA h;exact⟨e5j,Tryz.f153,Tryz.func153,e5g⟩
 ·obtain rfl:=yA h;exact⟨e3r,Tryz.f154,Tryz.func154,e5l⟩
 ·obtain rfl:=yA h;exact⟨e5q,Tryz.f155,Tryz.func155,e5d⟩
 ·obtain rfl:=yA h;exact⟨e3U,Tryz.f156,Tryz.func156,e2r⟩
 ·obtain rfl:=yA h;exact⟨e1z,Tryz.f157,Tryz.func157,e1M⟩
 ·obtain rfl:=yA h;exact⟨e3n,Tryz.f158,Tryz.func158,e3q⟩
 ·obtain rfl:=yA h;exact⟨e1Y,Tryz.f159,Tryz.func159,e4x⟩
 ·obtain rfl:=yA h;exact⟨e2f,Tryz.f160,Tryz.func160,e1F⟩
 ·obtain rfl:=yA h;exact⟨e6d,Tryz.f161,Tryz.func161,e3D⟩
 ·obtain rfl:=yA h;exact⟨e4r,Tryz.f162,Tryz.func162,e2c⟩
 ·obtain rfl:=yA h;exact⟨e5S,Tryz.f163,Tryz.func163,e3l⟩
 ·obtain rfl:=yA h;exact⟨e2L,Tryz.f165,Tryz.func165,e3v⟩
 ·obtain rfl:=yA h;exact⟨e4U,Tryz.f166,Tryz.func166,e3V⟩
 ·obtain rfl:=yA h;exact⟨e5D,Tryz.f167,Tryz.func167,e4J⟩
 ·obtain rfl:=yA h;exact⟨e4K,Tryz.f168,Tryz.func168,e2j⟩
 ·obtain rfl:=yA h;exact⟨e4G,Tryz.f169,Tryz.func169,e4E⟩
 ·obtain rfl:=yA h;exact⟨e3x,Tryz.f170,Tryz.func170,e3k⟩
 ·obtain rfl:=yA h;exact⟨e2B,Tryz.f171,Tryz.func171,e5r⟩
 ·obtain rfl:=yA h;exact⟨e3g,Tryz.f172,Tryz.func172,e5o⟩
 ·obtain rfl:=yA h;exact⟨e1P,Tryz.f173,Tryz.func173,e3h⟩
 ·obtain rfl:=yA h;exact⟨e4H,Tryz.f174,Tryz.func174,e2b⟩
 ·obtain rfl:=yA h;exact⟨e5a,Tryz.f175,Tryz.func175,e5T⟩
 ·obtain rfl:=yA h;exact⟨e2I,Tryz.f176,Tryz.func176,e3i⟩
 ·obtain rfl:=yA h;exact⟨e1Q,Tryz.f177,Tryz.func177,e4L⟩
 ·obtain rfl:=yA h;exact⟨e2G,Tryz.f178,Tryz.func178,e4v⟩
 ·obtain rfl:=yA h;exact⟨e3t,Tryz.f179,Tryz.func179,e1J⟩
 ·obtain rfl:=yA h;exact⟨e3G,Tryz.f180,Tryz.func180,e6a⟩
 ·obtain rfl:=yA h;exact⟨e1S,Tryz.f181,Tryz.func181,e4l⟩
 ·obtain rfl:=yA h;exact⟨e2x,Tryz.f182,Tryz.func182,e3T⟩
 ·obtain rfl:=yA h;exact⟨e5b,Tryz.f183,Tryz.func183,e3W⟩
 ·obtain rfl:=yA h;exact⟨e4V,Tryz.f184,Tryz.func184,e2p⟩
 ·obtain rfl:=yA h;exact⟨e1C,Tryz.f185,Tryz.func185,e4W⟩
 ·obtain rfl:=yA h;exact⟨e4j,Tryz.f186,Tryz.func186,e1T⟩
 ·obtain rfl:=yA h;exact⟨e3O,Tryz.f187,Tryz.func187,e3Q⟩
 ·obtain rfl:=yA h;exact⟨e3X,Tryz.f188,Tryz.func188,e2v⟩
 ·obtain rfl:=yA h;exact⟨e3c,Tryz.f189,Tryz.func189,e4C⟩
 ·obtain rfl:=yA h;exact⟨e4u,Tryz.f190,Tryz.func190,e1y⟩
 ·cases h
theorem a2y(n:Int):IntKind.u64.wrap n=n % 18446744073709551616:=by simp[IntKind.wrap,IntKind.bits,IntKind.signed]
theorem e8l(n:Int):IntKind.u32.wrap n=n % 4294967296:=by simp[IntKind.wrap,IntKind.bits,IntKind.signed]
theorem wu8(n:Int):IntKind.u8.wrap n=n % 256:=by simp[IntKind.wrap,IntKind.bits,IntKind.signed]
theorem W3(n:Int):IntKind.i64.wrap n=(n+9223372036854775808) % 18446744073709551616-9223372036854775808:=by
 show(if(true && decide (n % 18446744073709551616>=9223372036854775808))=true then n % 18446744073709551616-18446744073709551616 else n % 18446744073709551616)=_
 simp only[Bool.true_and,decide_eq_true_eq]
 split<;>omega
def C2(n:Int):Prop:= -9223372036854775808<=n/\n<=9223372036854775807
def U64(n:Int):Prop:=0<=n/\n<=18446744073709551615
instance (n:Int):Decidable (C2 n):=by unfold C2;infer_instance
instance (n:Int):Decidable (U64 n):=by unfold U64;infer_instance
theorem e0e{a:Int}(h:(Lit.int .i64 a).wf=true):C2 a:=by
 simp only[Lit.wf,IntKind.min,IntKind.max,IntKind.signed,IntKind.bits,Bool.and_eq_true,decide_eq_true_eq]at h
 simp at h
 unfold C2;omega
theorem b3i(k:IntKind)(i:Nat)(hi:i<=k.bits)(hk:∀n:Int,0<=n->n<2 ^ i->k.wrap n=n)(x:Int):
  k.wrap ((BitVec.ofInt k.bits x &&& BitVec.ofInt k.bits (2 ^ i-1)).toNat:Int)=x % 2 ^ i:=by
 have hp:(2:Nat) ^ i<=2 ^ k.bits:=Nat.pow_le_pow_right (by decide) hi
 have hpos:0<2 ^ i:=Nat.two_pow_pos i
 have hc:((2:Int) ^ i-1)=((2 ^ i-1:Nat):Int):=by rw[Int.natCast_sub hpos];simp
 rw[hc]
 simp only[BitVec.ofInt_natCast,BitVec.toNat_and,BitVec.toNat_ofNat,BitVec.toNat_ofInt]
 rw[Nat.mod_eq_of_lt (a:=2 ^ i-1) (by omega),Nat.and_two_pow_sub_one_eq_mod]
 have e:(((x % ((2 ^ k.bits:Nat):Int)).toNat % 2 ^ i:Nat):Int)=x % 2 ^ i:=by
  have hb:(0:Int)<((2 ^ k.bits:Nat):Int):=by exact_mod_cast Nat.two_pow_pos k.bits
  have h0:0<=x % ((2 ^ k.bits:Nat):Int):=Int.emod_nonneg _ (by omega)
  rw[Int.natCast_emod,Int.toNat_of_nonneg h0]
  have hd:((2 ^ i:Nat):Int) ∣ ((2 ^ k.bits:Nat):Int):=by
   exact_mod_cast Nat.pow_dvd_pow 2 hi
  rw[Int.emod_emod_of_dvd _ hd]
  simp
 rw[e]
 have h2:(0:Int)<2 ^ i:=by exact_mod_cast hpos
 exact hk _ (Int.emod_nonneg _ (by omega)) (Int.emod_lt_of_pos _ h2)
theorem b0u(i:Nat)(hi:i<=64):∀n:Int,0<=n->n<2 ^ i->IntKind.u64.wrap n=n:=fun n h0 h1=>by
 have:(2:Nat) ^ i<=2 ^ 64:=Nat.pow_le_pow_right (by decide) hi
 have h2:(2:Int) ^ i<=2 ^ 64:=by exact_mod_cast this
 rw[a2y];omega
theorem d8g(i:Nat)(hi:i<=63):∀n:Int,0<=n->n<2 ^ i->IntKind.i64.wrap n=n:=fun n h0 h1=>by
 have:(2:Nat) ^ i<=2 ^ 63:=Nat.pow_le_pow_right (by decide) hi
 have h2:(2:Int) ^ i<=2 ^ 63:=by exact_mod_cast this
 rw[W3];omega
theorem a2c(i:Nat)(hi:i<=64)(x m:Int)(hm:m=2 ^ i-1):IntKind.u64.wrap ((BitVec.ofInt IntKind.u64.bits x &&& BitVec.ofInt IntKind.u64.bits m).toNat:Int)=x % 2 ^ i:=by
 rw[hm];exact b3i .u64 i hi (b0u i hi) x
theorem O8(i:Nat)(hi:i<=63)(x m:Int)(hm:m=2 ^ i-1):IntKind.i64.wrap ((BitVec.ofInt IntKind.i64.bits x &&& BitVec.ofInt IntKind.i64.bits m).toNat:Int)=x % 2 ^ i:=by
 rw[hm];exact b3i .i64 i (by show i<=64;omega) (d8g i hi) x
theorem a1B(k:IntKind)(x:Int)(n:Nat)(h:n<=k.bits):x.fdiv (2 ^ (min n k.bits))=x / 2 ^ n:=by
 rw[Nat.min_eq_left h,Int.fdiv_eq_ediv_of_nonneg _ (by exact_mod_cast Nat.zero_le _)]
theorem b1j(k:IntKind)(x:Int)(n:Nat)(h:n<=k.bits):x*2 ^ (min n k.bits)=x*2 ^ n:=by
 rw[Nat.min_eq_left h]
theorem I0(a b:Int)(h:0<=a):Int.tmod a b=a % b:=Int.tmod_eq_emod_of_nonneg h
theorem a4c(a b:Int)(h:0<=a):Int.tdiv a b=a / b:=Int.tdiv_eq_ediv_of_nonneg h
theorem e1u(a1 a0 b1 b0 p00 p01 p10 p11:Int)(h00:p00=a0*b0)(h01:p01=a0*b1)(h10:p10=a1*b0)(h11:p11=a1*b1):
  (a1*4294967296+a0)*(b1*4294967296+b0)=p11*18446744073709551616+(p10+p01)*4294967296+p00:=by
 subst h00 h01 h10 h11
 simp only[Int.add_mul,Int.mul_add]
 have e1:a1*4294967296*(b1*4294967296)=a1*b1*18446744073709551616:=by
  rw[Int.mul_assoc,Int.mul_left_comm 4294967296 b1,<-Int.mul_assoc];rfl
 have e2:a0*(b1*4294967296)=a0*b1*4294967296:=(Int.mul_assoc ..).symm
 have e3:a1*4294967296*b0=a1*b0*4294967296:=by rw[Int.mul_assoc,Int.mul_comm 4294967296 b0,<-Int.mul_assoc]
 rw[e1,e2,e3]
 omega
theorem T5(x y m:Int)(hx0:0<=x)(hx:x<=m)(hy0:0<=y)(hy:y<=m):0<=x*y/\x*y<=m*m:=
 ⟨yO hx0 hy0,Int.mul_le_mul hx hy hy0 (by omega)⟩
theorem e2k(a b p00 p01 p10 p11:Int)(ha0:0<=a)(ha:a<18446744073709551616)(hb0:0<=b)(hb:b<18446744073709551616)
  (h00:p00=(a % 4294967296)*(b % 4294967296)) (h01:p01=(a % 4294967296)*(b / 4294967296)) (h10:p10=(a / 4294967296)*(b % 4294967296)) (h11:p11=(a / 4294967296)*(b / 4294967296)):
  a*b=p11*18446744073709551616+(p10+p01)*4294967296+p00/\(0<=p00/\p00<=18446744065119617025)/\(0<=p01/\p01<=18446744065119617025)/\(0<=p10/\p10<=18446744065119617025)/\0<=p11/\p11<=18446744065119617025:=by
 have e:=e1u (a / 4294967296) (a % 4294967296) (b / 4294967296) (b % 4294967296) p00 p01 p10 p11 h00 h01 h10 h11
 have ea:a / 4294967296*4294967296+a % 4294967296=a:=by omega
 have eb:b / 4294967296*4294967296+b % 4294967296=b:=by omega
 rw[ea,eb]at e
 refine⟨e,?_,?_,?_,?_⟩
 ·rw[h00];exact T5 _ _ 4294967295 (by omega) (by omega) (by omega) (by omega)
 ·rw[h01];exact T5 _ _ 4294967295 (by omega) (by omega) (by omega) (by omega)
 ·rw[h10];exact T5 _ _ 4294967295 (by omega) (by omega) (by omega) (by omega)
 ·rw[h11];exact T5 _ _ 4294967295 (by omega) (by omega) (by omega) (by omega)
theorem c8p(a b:Int)(ha:U64 a)(hb:U64 b):
  (a / 4294967296*(b / 4294967296) % 18446744073709551616+(a / 4294967296*(b % 4294967296) % 18446744073709551616+a % 4294967296*(b % 4294967296) % 18446744073709551616 / 4294967296) % 18446744073709551616 / 4294967296) % 18446744073709551616+
   ((a / 4294967296*(b % 4294967296) % 18446744073709551616+a % 4294967296*(b % 4294967296) % 18446744073709551616 / 4294967296) % 18446744073709551616 % 4294967296+a % 4294967296*(b / 4294967296) % 18446744073709551616) % 18446744073709551616 / 4294967296=a*b / 18446744073709551616:=by
 unfold U64 at ha hb
 obtain⟨e,h0,h1,h2,h3⟩:=e2k a b _ _ _ _ ha.1 (by omega) hb.1 (by omega) rfl rfl rfl rfl
 generalize a % 4294967296*(b % 4294967296)=p00 at*
 generalize a % 4294967296*(b / 4294967296)=p01 at*
 generalize a / 4294967296*(b % 4294967296)=p10 at*
 generalize a / 4294967296*(b / 4294967296)=p11 at*
 rw[e]
 omega
end Go.Proofs.YtlakhgibjfmjjaaGreat.Can
namespace Go.Proofs.YtlakhgibjfmjjaaGreat.Can
open Go
attribute [local congr] m9 l8 f7 f6 i7 l7 l9 s9 s7
theorem a6t(h:Heap)(a b:Int)(ha:U64 a)(hb:U64 b)(Q:Value->Heap->Prop):r8 cp 85 [.int .u64 a,.int .u64 b] h Q↔Q (.tuple #[.int .u64 (a*b / 18446744073709551616),.int .u64 (a*b % 18446744073709551616)]) h:=by
 refine p6 ?_ Q
 rw[a8 cp e8m]
 have m1:=fun x:Int=>a2c 32 (by decide) x 4294967295 (by decide)
 have s1:=fun x:Int=>a1B .u64 x 32 (by decide)
 have p32:(2:Int) ^ 32=4294967296:=by decide
 simp(disch:=omega)only[c85,↓R85,m1,s1,a2y,p32,↓j0,l0,zA,zB,zC,zD,zE,zF,zG,zH,zI,reduceCtorEq,zJ,zK,zL,zM]
 have e:=c8p a b ha hb
 have h2:0<=a*b / 18446744073709551616/\a*b / 18446744073709551616<18446744073709551616:=by
  unfold U64 at ha hb
  have:=T5 a b 18446744073709551615 ha.1 ha.2 hb.1 hb.2
  omega
 rw[e,Int.emod_eq_of_lt h2.1 h2.2]
theorem a1C(n:Int)(h:C2 n):IntKind.i64.wrap n=n:=by unfold C2 at h;exact N3 h.1 h.2
theorem c8F(a b:Int)(ha:C2 a)(hb:C2 b):(decide (IntKind.i64.wrap (a+b)>a)==decide (b>0))=decide (C2 (a+b)):=by
 unfold C2 at*
 rw[W3]
 by_cases h: -9223372036854775808<=a+b/\a+b<=9223372036854775807
 ·rw[decide_eq_true h,beq_iff_eq,decide_eq_decide];omega
 ·rw[decide_eq_false h,beq_eq_false_iff_ne,ne_eq,decide_eq_decide];omega
theorem e0Z(h:Heap)(a b:Int)(ha:C2 a)(hb:C2 b)(Q:Value->Heap->Prop):r8 cp 144 [.int .i64 a,.int .i64 b] h Q↔Q (.tuple #[.int .i64 (IntKind.i64.wrap (a+b)),.bool (decide (C2 (a+b)))]) h:=by
 refine p6 ?_ Q
 rw[a8 cp e2g]
 simp(disch:=omega)only[d8h,↓e6p,↓j0,l0,zA,zB,zC,zD,zE,zF,zG,zH,zI,reduceCtorEq,zJ,zK,zL,zM]
 rw[c8F a b ha hb]
 first|done|trivial
theorem e0V(h:Heap)(b:Bool)(Q:Value->Heap->Prop):r8 cp 145 [.bool b] h Q↔Q (.int .i64 (if b then-9223372036854775808 else 9223372036854775807)) h:=by
 refine p6 ?_ Q
 rw[a8 cp e3R]
 cases b<;>simp(disch:=omega)only[d8V,↓e6m,↓j0,l0,zA,zB,zC,zD,zE,zF,zG,zH,zI,reduceCtorEq,zJ,zK,zL,zM]<;>first|done|trivial
def M9(n:Int):Int:=if n< -9223372036854775808 then-9223372036854775808 else if n>9223372036854775807 then 9223372036854775807 else n
theorem a1S(n:Int):C2 (M9 n):=by
 unfold M9 C2
 split
 ·omega
 ·split<;>omega
theorem P0{n:Int}(h:C2 n):M9 n=n:=by unfold C2 at h;unfold M9;rw[if_neg (by omega),if_neg (by omega)]
theorem N1(h:Heap)(a b:Int)(ha:C2 a)(hb:C2 b)(Q:Value->Heap->Prop):r8 cp 126 [.int .i64 a,.int .i64 b] h Q↔Q (.int .i64 (M9 (a+b))) h:=by
 refine p6 ?_ Q
 rw[a8 cp e2J]
 have f1:=fun h=>e0Z h a b ha hb
 by_cases hi:C2 (a+b)
 ·have a1:=decide_eq_true hi
  simp(disch:=omega)only[d0L,↓e3N,f1,a1,P0 hi,a1C _ hi,↓j0,l0,zA,zB,zC,zD,zE,zF,zG,zH,zI,reduceCtorEq,zJ,zK,zL,zM]
  first|done|trivial
 ·have a1:=decide_eq_false hi
  simp(disch:=omega)only[d0L,↓e3N,f1,a1,e0V,↓j0,l0,zA,zB,zC,zD,zE,zF,zG,zH,zI,reduceCtorEq,zJ,zK,zL,zM]
  unfold C2 at ha hb hi
  unfold M9
  by_cases h0:a<0
  ·rw[decide_eq_true h0,if_pos rfl,if_pos (by omega)]
  ·rw[decide_eq_false h0,if_neg Bool.false_ne_true,if_neg (by omega),if_pos (by omega)]
def Q6(W D:Int):Int:=if W % D=0 then W / D else W / D+1
theorem c3L(h:Heap)(a b:Int)(ha:C2 a)(ha0:0<=a)(hb:C2 b)(hb1:1<=b)(Q:Value->Heap->Prop):r8 cp 73 [.int .i64 a,.int .i64 b] h Q↔Q (.int .i64 (Q6 a b)) h:=by
 refine p6 ?_ Q
 rw[a8 cp e6G]
 unfold C2 at ha hb
 have a1:decide (a<0)=false:=decide_eq_false (by omega)
 have a2:decide (b<1)=false:=decide_eq_false (by omega)
 have n0:(b=0)=False:=by simp;omega
 have q0:0<=a / b:=Int.ediv_nonneg ha0 (by omega)
 have q1:a / b<=a:=Int.ediv_le_self b ha0
 have r0:0<=a % b:=Int.emod_nonneg a (by omega)
 have r1:=Int.emod_lt_of_pos a (show 0<b by omega)
 have t1:a.tdiv b=a / b:=a4c a b ha0
 have t2:a.tmod b=a % b:=I0 a b ha0
 by_cases hr:a % b=0
 ·have a3:decide (a % b>0)=false:=decide_eq_false (by omega)
  simp(disch:=omega)only[c73,↓R73,a1,a2,a3,n0,t1,t2,↓j0,l0,zA,zB,zC,zD,zE,zF,zG,zH,zI,reduceCtorEq,zJ,zK,zL,zM]
  exact(by unfold Q6;rw[if_pos hr])
 ·have a3:decide (a % b>0)=true:=decide_eq_true (by omega)
  have q2:a / b<a\/b=1:=by
   by_cases hb2:b=1
   ·exact .inr hb2
   ·left
    have:=Int.ediv_lt_self_of_pos_of_ne_one (x:=a) (y:=b) (by rcases Int.lt_or_eq_of_le ha0 with h|h;exact h;rw[<-h]at hr;simp at hr) hb2
    omega
  have q3:a / b+1<=9223372036854775807:=by
   rcases q2 with h|h
   ·omega
   ·subst h;simp at hr
  simp(disch:=omega)only[c73,↓R73,a1,a2,a3,n0,t1,t2,↓j0,l0,zA,zB,zC,zD,zE,zF,zG,zH,zI,reduceCtorEq,zJ,zK,zL,zM]
  exact(by unfold Q6;rw[if_neg hr])
theorem d5V(a b p:Int)(ha:C2 a)(hb:C2 b)(hp:p=a*b):
  ∃hi lo,a % 18446744073709551616*(b % 18446744073709551616) / 18446744073709551616=hi/\a % 18446744073709551616*(b % 18446744073709551616) % 18446744073709551616=lo/\U64 hi/\U64 lo/\
   IntKind.i64.wrap lo=IntKind.i64.wrap p/\
   ((let up:=IntKind.i64.wrap hi;let up:=if a<0 then IntKind.i64.wrap (up-b)else up;let up:=if b<0 then IntKind.i64.wrap (up-a)else up;(up==IntKind.i64.wrap lo / 9223372036854775808))=decide (C2 p)):=by
 have hpb: -85070591730234615865843651857942052864<=p/\p<=85070591730234615865843651857942052864:=by
  unfold C2 at ha hb
  rw[hp]
  have h1:(a.natAbs:Int)<=9223372036854775808:=by omega
  have h2:(b.natAbs:Int)<=9223372036854775808:=by omega
  have h3:((a*b).natAbs:Int)<=9223372036854775808*9223372036854775808:=by
   rw[Int.natAbs_mul,Int.natCast_mul]
   exact Int.mul_le_mul h1 h2 (by omega) (by omega)
  omega
 refine⟨_,_,rfl,rfl,?_⟩
 unfold C2 at ha hb
 have hx:∃m,a % 18446744073709551616*(b % 18446744073709551616)=p+18446744073709551616*m/\
   m=(if a<0 then b else 0)+(if b<0 then a else 0)+(if a<0/\b<0 then 18446744073709551616 else 0):=by
  refine⟨_,?_,rfl⟩
  by_cases c1:a<0
  ·have e1:a % 18446744073709551616=a+18446744073709551616:=by omega
   by_cases c2:b<0
   ·have e2:b % 18446744073709551616=b+18446744073709551616:=by omega
    rw[e1,e2,if_pos c1,if_pos c2,if_pos ⟨c1,c2⟩,Int.add_mul,Int.mul_add,Int.mul_add,<-hp];omega
   ·have e2:b % 18446744073709551616=b:=by omega
    rw[e1,e2,if_pos c1,if_neg c2,if_neg (by omega),Int.add_mul,<-hp];omega
  ·have e1:a % 18446744073709551616=a:=by omega
   by_cases c2:b<0
   ·have e2:b % 18446744073709551616=b+18446744073709551616:=by omega
    rw[e1,e2,if_neg c1,if_pos c2,if_neg (by omega),Int.mul_add,<-hp];omega
   ·have e2:b % 18446744073709551616=b:=by omega
    rw[e1,e2,if_neg c1,if_neg c2,if_neg (by omega),<-hp];omega
 obtain⟨m,hm,hmm⟩:=hx
 have hpos:=T5 (a % 18446744073709551616) (b % 18446744073709551616) 18446744073709551615 (by omega) (by omega) (by omega) (by omega)
 rw[hm]at hpos ⊢
 clear hm hp
 have hq:(p+18446744073709551616*m) / 18446744073709551616=p / 18446744073709551616+m:=by omega
 have hl:(p+18446744073709551616*m) % 18446744073709551616=p % 18446744073709551616:=by omega
 have hqb: -4611686018427387904<=p / 18446744073709551616/\p / 18446744073709551616<=4611686018427387904:=by omega
 have hlw:IntKind.i64.wrap (p % 18446744073709551616)=IntKind.i64.wrap p:=by rw[W3,W3];omega
 rw[hq,hl,hlw]
 have ws:∀x y:Int,IntKind.i64.wrap (IntKind.i64.wrap x-y)=IntKind.i64.wrap (x-y):=fun x y=>by rw[W3,W3,W3];omega
 have ws2:∀x y z:Int,IntKind.i64.wrap (IntKind.i64.wrap x-y-z)=IntKind.i64.wrap (x-y-z):=fun x y z=>by rw[W3,W3,W3];omega
 have hw:∀x k:Int,x=p / 18446744073709551616+18446744073709551616*k->IntKind.i64.wrap x=p / 18446744073709551616:=fun x k hx=>by rw[W3];omega
 have hfin:(p / 18446744073709551616=IntKind.i64.wrap p / 9223372036854775808)↔C2 p:=by unfold C2;rw[W3];omega
 have hhi:U64 (p / 18446744073709551616+m):=by
  unfold U64
  clear ws hw hfin hlw
  omega
 refine⟨hhi,by unfold U64;omega,rfl,?_⟩
 simp only
 rw[Bool.eq_iff_iff,decide_eq_true_eq,beq_iff_eq,<-hfin]
 by_cases c1:a<0
 ·by_cases c2:b<0
  ·rw[if_pos c1,if_pos c2,if_pos ⟨c1,c2⟩]at hmm
   rw[if_pos c1,if_pos c2,ws,ws2,hw _ 1 (by omega)]
  ·rw[if_pos c1,if_neg c2,if_neg (by omega)]at hmm
   rw[if_pos c1,if_neg c2,ws,hw _ 0 (by omega)]
 ·by_cases c2:b<0
  ·rw[if_neg c1,if_pos c2,if_neg (by omega)]at hmm
   rw[if_neg c1,if_pos c2,ws,hw _ 0 (by omega)]
  ·rw[if_neg c1,if_neg c2,if_neg (by omega)]at hmm
   rw[if_neg c1,if_neg c2,hw _ 0 (by omega)]
theorem d1S(h:Heap)(a b:Int)(ha:C2 a)(hb:C2 b)(Q:Value->Heap->Prop):r8 cp 72 [.int .i64 a,.int .i64 b] h Q↔Q (.tuple #[.int .i64 (IntKind.i64.wrap (a*b)),.bool (decide (C2 (a*b)))]) h:=by
 refine p6 ?_ Q
 rw[a8 cp e7N]
 have f1:=fun h=>a6t h (a % 18446744073709551616) (b % 18446744073709551616) (by unfold U64;omega) (by unfold U64;omega)
 obtain⟨hi,lo,e1,e2,u1,u2,e3,e4⟩:=d5V a b (a*b) ha hb rfl
 have c64:∀x:Int,(2:Int) ^ 63=9223372036854775808:=fun _=>by decide
 have s1:=fun x:Int=>a1B .i64 x 63 (by decide)
 rw[<-e4,<-e3]
 by_cases c1:a<0
 ·have a1:=decide_eq_true c1
  by_cases c2:b<0
  ·have a2:=decide_eq_true c2
   simp(disch:=omega)only[c72,↓R72,a2y,f1,e1,e2,a1,a2,s1,c64 0,c1,c2,↓j0,l0,zA,zB,zC,zD,zE,zF,zG,zH,zI,reduceCtorEq,zJ,zK,zL,zM]
   first|done|trivial
  ·have a2:=decide_eq_false c2
   simp(disch:=omega)only[c72,↓R72,a2y,f1,e1,e2,a1,a2,s1,c64 0,c1,c2,↓j0,l0,zA,zB,zC,zD,zE,zF,zG,zH,zI,reduceCtorEq,zJ,zK,zL,zM]
   first|done|trivial
 ·have a1:=decide_eq_false c1
  by_cases c2:b<0
  ·have a2:=decide_eq_true c2
   simp(disch:=omega)only[c72,↓R72,a2y,f1,e1,e2,a1,a2,s1,c64 0,c1,c2,↓j0,l0,zA,zB,zC,zD,zE,zF,zG,zH,zI,reduceCtorEq,zJ,zK,zL,zM]
   first|done|trivial
  ·have a2:=decide_eq_false c2
   simp(disch:=omega)only[c72,↓R72,a2y,f1,e1,e2,a1,a2,s1,c64 0,c1,c2,↓j0,l0,zA,zB,zC,zD,zE,zF,zG,zH,zI,reduceCtorEq,zJ,zK,zL,zM]
   first|done|trivial
end Go.Proofs.YtlakhgibjfmjjaaGreat.Can
