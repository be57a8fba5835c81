/- Part 3 of 6 of the proof of the row RowWholeExact: whatever the input, the law returns true. No condition. -/
import Derived.Test.YtlakhgibjfmjjaaGreatZExa2
import Derived.KernelRfl
import Derived.RowKit
import Derived.Test.YtlakhgibjfmjjaaGreatProg
set_option linter.unusedSimpArgs false
set_option linter.unusedVariables false
set_option linter.defProp false
set_option maxHeartbeats 4000000
open Nat renaming reduceEqDiff → zA, reduceAdd → zB, reduceMul → zC, reduceSub → zD, reduceLT → zE, reduceLeDiff → zF, reduceBEq → zG, lt_of_lt_of_le → yN, le_refl → yP, le_trans → yR, mul_one → yS
open Int renaming reduceLT → zH, reduceLE → zI, reduceToNat → zJ, reduceAdd → zK, reduceSub → zL, reduceMul → zM, reduceBEq → zN, mul_nonneg → yO, le_refl → yQ
open Option renaming some.inj → yA, some.injEq → yC, map_eq_some_iff → yD
open Prod renaming mk.injEq → yB
open List renaming getElem?_eq_some_iff → yE, getElem?_eq_getElem → yF, length_append → yG, getElem?_set_self → yH, getElem?_set_ne → yI, getElem?_map → yJ, mem_of_getElem? → yK, length_map → yL, length_cons → yM
namespace Go.Proofs.YtlakhgibjfmjjaaGreat.Can
open Go
open Reg renaming op->xA,opg->xB,done->xC,snap->xD,chk->xE
open COp renaming load->wA,mv->wB,fieldAddr->wC,call->wD,bin->wE,store->wF,extract->wG,alloc->wH,indexSl->wI,nilCheck->wJ,pick->wK,lenSl->wL,build->wM,box->wN,conv->wO,un->wP
def c8P:ByteArray:=⟨#[0,1,2,2,3,3,3,3,4,4,4,4,4,4,4,4,5,5,5,5,5,5,5,5,5,5,5,5,5,5,5,5,6,6,6,6,6,6,6,6,6,6,6,6,6,6,6,6,6,6,6,6,6,6,6,6,6,6,6,6,6,6,6,6,7,7,7,7,7,7,7,7,7,7,7,7,7,7,7,7,7,7,7,7,7,7,7,7,7,7,7,7,7,7,7,7,7,7,7,7,7,7,7,7,7,7,7,7,7,7,7,7,7,7,7,7,7,7,7,7,7,7,7,7,7,7,7,7,8,8,8,8,8,8,8,8,8,8,8,8,8,8,8,8,8,8,8,8,8,8,8,8,8,8,8,8,8,8,8,8,8,8,8,8,8,8,8,8,8,8,8,8,8,8,8,8,8,8,8,8,8,8,8,8,8,8,8,8,8,8,8,8,8,8,8,8,8,8,8,8,8,8,8,8,8,8,8,8,8,8,8,8,8,8,8,8,8,8,8,8,8,8,8,8,8,8,8,8,8,8,8,8,8,8,8,8,8,8,8,8,8,8,8,8,8,8,8,8,8,8,8,8,8,8,8,8]⟩
def e3A(e:b7):Reg:=xA (wN 23 (e 0)) fun a=>xA (wB (.bool false)) fun b=>xC ((e.upd 3 a).upd 6 b)
def e4C(e:b7):Reg:=xA (wD 11 []) fun a=>xA (wP .not a) fun b=>xC (e.upd 23 b)
def e5k(e:b7):Reg:=xA (wB (.bool false)) fun a=>xC (e.upd 6 a)
def e5W(e:b7):Reg:=xA (wB (e 1)) fun a=>xA (wL a) fun b=>xA (wE .gtr b (.int .i64 50)) fun c=>xA (wB c) fun d=>xB d false (wB (e 2)) fun f=>xB d false (wD 12 [f]) fun g=>xB d false (wP .not g) fun i=>xA (wK d (.bool true) i) fun j=>xC (e.upd 31 j)
def e3Z(e:b7):Reg:=xA (wB (.bool true)) fun a=>xC (e.upd 6 a)
def e6j(e:b7):Reg:=xA (wA (some 9) (e 3)) fun a=>xA (.buildSlice 23 1 [(.int .i64 0),(.int .i64 0),(.int .i64 0),(.int .i64 0),(.int .i64 0),(.int .i64 0),(.int .i64 0),(.int .i64 0),(.bool false)] [(0,9,a)]) fun b=>xA (wD 13 [b,(.int .i64 0)]) fun c=>xA (wH 30 [(.int .i64 0),(.int .i64 0),(.int .i64 0),(.slice none 0 0)]) fun d=>xA (wF 4 d c) fun _=>xC (e.upd 7 d)
def e4k(e:b7):Reg:=xA (wC 3 (e 7)) fun a=>xA (wA none a) fun b=>xA (wI 9 b (.int .i64 0)) fun c=>xA (wA (some 9) c) fun d=>xA (wH 34 [(.int .i64 0),(.int .i64 0),(.int .i64 0),(.int .i64 0),(.int .i64 0),(.int .i64 0),(.int .i64 0),(.int .i64 0),(.bool false)]) fun f=>xA (wF 9 f d) fun _=>xC (e.upd 8 f)
def e4N(e:b7):Reg:=xA (wA (some 4) (e 7)) fun a=>xA (wB (e 1)) fun b=>xA (wD 14 [a,b]) fun c=>xA (wB c) fun d=>xA (wG d 0) fun f=>xA (wG d 1) fun g=>xA (wB f) fun i=>xA (wB g) fun j=>xC ((e.upd 9 i).upd 10 j)
def e5e(e:b7):Reg:=xA (wB (e 9)) fun a=>xA (wM [(.int .i64 0),(.int .i64 0),(.int .i64 0),(.slice none 0 0),(.int .i64 0),(.slice none 0 0)] [(0,1,(.int .i64 0))]) fun b=>xA (wD 15 [a,b]) fun c=>xC e
def e4d(e:b7):Reg:=xA (.makeMap) fun a=>xA (wB a) fun b=>xC (e.upd 11 b)
def e2b(e:b7):Reg:=xA (wB (.int .i64 0)) fun a=>xC (e.upd 12 a)
def e2r(e:b7):Reg:=xA (wB (e 2)) fun a=>xA (wL a) fun b=>xA (wB (.int .i64 0)) fun c=>xC (((e.upd 49 a).upd 50 b).upd 51 c)
def e2C(e:b7):Reg:=xA (wE .lss (e 51) (e 50)) fun a=>xC (e.upd 52 a)
def e1s(e:b7):Reg:=xA (wI 4 (e 49) (e 51)) fun a=>xA (wA (some 4) a) fun b=>xA (wH 48 [(.int .i64 0),(.int .i64 0),(.string ⟨#[]⟩),(.bool false)]) fun c=>xA (wF 4 c b) fun _=>xC (e.upd 14 c)
def e1R(e:b7):Reg:=xA (wB (e 12)) fun a=>xA (wC 0 (e 14)) fun b=>xA (wA none b) fun c=>xA (wD 16 [c]) fun d=>xA (wE .add a d) fun f=>xA (wB f) fun g=>xC (e.upd 12 g)
def e1W(e:b7):Reg:=xA (wC 1 (e 14)) fun a=>xA (wA none a) fun b=>xA (wE .and b (.int .i64 31)) fun c=>xA (wC 2 (e 8)) fun d=>xA (wA none d) fun f=>xA (wE .rem c f) fun g=>xA (wE .add g (.int .i64 1)) fun i=>xA (wB i) fun j=>xC (e.upd 15 j)
def e1t(e:b7):Reg:=xA (wB (e 11)) fun a=>xA (wC 2 (e 14)) fun b=>xA (wA none b) fun c=>xA (.lookup (.one .str) (.pointer none) false a c) fun d=>xA (wB d) fun f=>xC (e.upd 16 f)
def e1r(e:b7):Reg:=xA (wB (e 16)) fun a=>xA (.eqK .ptr false a (.pointer none)) fun b=>xC (e.upd 72 b)
def e2E(e:b7):Reg:=xA (wB (e 11)) fun a=>xA (.lenMap a) fun b=>xA (wC 4 (e 8)) fun c=>xA (wA none c) fun d=>xA (wE .eql b d) fun f=>xC (e.upd 77 f)
def e1N(e:b7):Reg:=xA (wB (.bool true)) fun a=>xC (e.upd 6 a)
def e1L(e:b7):Reg:=xA (wB (e 12)) fun a=>xA (wM [(.int .i64 0),(.int .i64 0),(.int .i64 0),(.int .i64 0)] [(0,1,a)]) fun b=>xA (wN 52 b) fun c=>xA (wB c) fun d=>xC (e.upd 16 d)
def e1m(e:b7):Reg:=xA (wB (e 11)) fun a=>xA (wC 2 (e 14)) fun b=>xA (wA none b) fun c=>xA (wB (e 16)) fun d=>xA (.mapUpdate (.one .str) a c d) fun _=>xC e
def e1o(e:b7):Reg:=xA (wB (e 16)) fun a=>xA (wB (e 16)) fun b=>xA (wB (e 12)) fun c=>xA (wC 1 (e 8)) fun d=>xA (wA none d) fun f=>xA (wE .sub c f) fun g=>xA (wJ a) fun i=>xA (wC 1 i) fun j=>xA (wF 1 j g) fun _=>xA (wJ b) fun k=>xA (wC 3 k) fun m=>xA (wF 1 m (.int .i64 0)) fun _=>xC e
def e1Z(e:b7):Reg:=xA (wB (e 16)) fun a=>xA (wJ a) fun b=>xA (wA (some 4) b) fun c=>xA (wA (some 9) (e 8)) fun d=>xA (wB (e 12)) fun f=>xA (wB (e 15)) fun g=>xD fun h6=>xA (wD 17 [c,d,f,g]) fun i=>xA (wM [(.int .i64 0),(.int .i64 0),(.int .i64 0)] [(0,1,(.int .i64 1)),(2,1,i)]) fun j=>xA (wH 55 [(.int .i64 0),(.int .i64 0),(.int .i64 0)]) fun k=>xD fun h9=>xA (wF 3 k j) fun _=>xC (e.upd 17 k)
def e1G(e:b7):Reg:=xA (wB (e 16)) fun a=>xA (wA (some 9) (e 8)) fun b=>xA (wB (e 12)) fun c=>xA (wB (e 15)) fun d=>xA (wD 18 [a,b,c,d]) fun f=>xA (wP .not f) fun g=>xC (e.upd 108 g)
def e1w(e:b7):Reg:=xA (wC 0 (e 17)) fun a=>xA (wF 1 a (.int .i64 2)) fun _=>xC e
def e2e(e:b7):Reg:=xA (wB (e 16)) fun a=>xA (wJ a) fun b=>xA (wA (some 4) b) fun c=>xA (wA (some 9) (e 8)) fun d=>xA (wB (e 12)) fun f=>xD fun h5=>xA (wD 19 [c,d,f]) fun g=>xA (wC 1 (e 17)) fun i=>xD fun h7=>xA (wF 1 i g) fun _=>xC e
def e2f(e:b7):Reg:=xA (wB (e 9)) fun a=>xA (wB (e 12)) fun b=>xA (wC 2 (e 14)) fun c=>xA (wA none c) fun d=>xA (wB (e 15)) fun f=>xA (wO .u32 f) fun g=>xA (wM [(.int .i64 0),(.int .i64 0),(.int .u32 0),(.string ⟨#[]⟩),(.int .i64 0)] [(0,1,(.int .i64 1)),(3,1,d),(2,1,g)]) fun i=>xA (wD 20 [i]) fun j=>xA (wM [(.int .i64 0),(.int .i64 0),(.int .i64 0),(.slice none 0 0),(.int .i64 0),(.slice none 0 0)] [(0,1,(.int .i64 2)),(1,1,b),(3,1,j)]) fun k=>xA (wD 15 [a,k]) fun m=>xC e
def e2u(e:b7):Reg:=xA (wB (e 9)) fun a=>xA (wB (e 12)) fun b=>xA (wM [(.int .i64 0),(.int .i64 0),(.int .i64 0),(.slice none 0 0),(.int .i64 0),(.slice none 0 0)] [(0,1,(.int .i64 3)),(1,1,b),(4,1,(.int .i64 99))]) fun c=>xA (wD 15 [a,c]) fun d=>xA (wH 42 [(.int .i64 0),(.int .i64 0),(.slice none 0 0),(.slice none 0 0)]) fun f=>xA (wF 4 f d) fun _=>xC (e.upd 18 f)
def e1A(e:b7):Reg:=xA (wC 2 (e 18)) fun a=>xA (wA none a) fun b=>xA (wD 21 [b]) fun c=>xA (wB c) fun d=>xA (wG d 0) fun f=>xA (wG d 1) fun g=>xA (wG d 2) fun i=>xA (wH 66 [(.int .i64 0),(.int .i64 0),(.int .i64 0),(.int .i64 0),(.int .i64 0),(.int .i64 0),(.int .i64 0),(.int .i64 0),(.int .i64 0),(.int .i64 0),(.slice none 0 0),(.int .i64 0)]) fun j=>xA (wF 12 j f) fun _=>xA (wB g) fun k=>xA (wB i) fun m=>xC (((e.upd 19 j).upd 20 k).upd 21 m)
def e1I(e:b7):Reg:=xA (wB (e 21)) fun a=>xA (wP .not a) fun b=>xA (wB b) fun c=>xB c false (wB (e 20)) fun d=>xB c false (wC 2 (e 18)) fun f=>xB c false (wA none f) fun g=>xB c false (wL g) fun i=>xB c false (wE .neq d i) fun j=>xA (wK c (.bool true) j) fun k=>xA (wB k) fun m=>xB m false (wC 0 (e 19)) fun n=>xB m false (wA none n) fun o=>xB m false (wE .neq o (.int .i64 1)) fun p=>xA (wK m (.bool true) p) fun q=>xA (wB q) fun r=>xB r false (wC 2 (e 19)) fun s=>xB r false (wA (some 3) s) fun u=>xB r false (wA (some 3) (e 17)) fun v=>xB r false (.eqAgg true [.int,.int,.int] u v) fun w=>xA (wK r (.bool true) w) fun y=>xC (e.upd 157 y)
def e1v(e:b7):Reg:=xA (wB (.bool false)) fun a=>xC (e.upd 6 a)
def e2i(e:b7):Reg:=xA (wE .add (e 51) (.int .i64 1)) fun a=>xA (wB a) fun b=>xC (e.upd 51 b)
def e5J:CC:=(.seq (.region e2C) (.seq (.cond (fun e=>e 52) .skip (.exit 0)) (.seq (.block 1 (.seq (.region e1s) (.seq (.region e1R) (.seq (.region e1W) (.seq (.region e1t) (.seq (.seq (.region e1r) (.cond (fun e=>e 72) (.seq (.seq (.region e2E) (.cond (fun e=>e 77) (.seq (.region e1N) .ret) .skip)) (.seq (.region e1L) (.region e1m))) .skip)) (.seq (.region e1o) (.seq (.region e1Z) (.seq (.seq (.region e1G) (.cond (fun e=>e 108) (.region e1w) .skip)) (.seq (.region e2e) (.seq (.region e2f) (.seq (.region e2u) (.seq (.region e1A) (.seq (.region e1I) (.cond (fun e=>e 157) (.seq (.region e1v) .ret) .skip))))))))))))))) (.region e2i))))
def e1B(e:b7):Reg:=xA (wB (.bool true)) fun a=>xC (e.upd 6 a)
def c3:CFn:=⟨(.seq (.region e3A) (.seq (.seq (.region e4C) (.cond (fun e=>e 23) (.seq (.region e5k) .ret) .skip)) (.seq (.seq (.region e5W) (.cond (fun e=>e 31) (.seq (.region e3Z) .ret) .skip)) (.seq (.region e6j) (.seq (.region e4k) (.seq (.region e4N) (.seq (.region e5e) (.seq (.region e4d) (.seq (.region e2b) (.seq (.seq (.region e2r) (.block 0 (.loop e5J))) (.seq (.region e1B) .ret))))))))))),[.t 6]⟩
def p3:Pers:=⟨22,[23,31,49,50,51,52,72,77,108,157],159,[]⟩
def e1E(e:b7):Reg:=xA (wB (.bool false)) fun a=>xC (e.upd 0 a)
def e2H(e:b7):Reg:=xA (wM [(.int .i64 0),(.int .i64 0),(.int .i64 0),(.int .i64 0),(.int .i64 0),(.int .i64 0),(.int .i64 0),(.int .i64 0),(.bool false)] []) fun a=>xA (.buildSlice 23 1 [(.int .i64 0),(.int .i64 0),(.int .i64 0),(.int .i64 0),(.int .i64 0),(.int .i64 0),(.int .i64 0),(.int .i64 0),(.bool false)] [(0,9,a)]) fun b=>xA (wD 13 [b,(.int .i64 0)]) fun c=>xA (wD 14 [c,(.slice none 0 0)]) fun d=>xA (wB d) fun f=>xA (wG f 0) fun g=>xA (wG f 1) fun i=>xA (wB g) fun j=>xA (wB i) fun k=>xC ((e.upd 1 j).upd 2 k)
def e1D(e:b7):Reg:=xA (wB (e 2)) fun a=>xA (wE .neq a (.int .i64 0)) fun b=>xA (wB b) fun c=>xB c false (wB (e 1)) fun d=>xB c false (.eqK .ptr false d (.pointer none)) fun f=>xA (wK c (.bool true) f) fun g=>xC (e.upd 20 g)
def e2L(e:b7):Reg:=xA (wB (.bool false)) fun a=>xC (e.upd 0 a)
def e1U(e:b7):Reg:=xA (wB (e 1)) fun a=>xA (wM [(.int .i64 0),(.int .i64 0),(.int .i64 0),(.slice none 0 0),(.int .i64 0),(.slice none 0 0)] [(0,1,(.int .i64 0))]) fun b=>xA (wD 15 [a,b]) fun c=>xC e
def e1H(e:b7):Reg:=xA (wB (e 1)) fun a=>xA (wM [(.int .i64 0),(.int .i64 0),(.int .u32 0),(.string ⟨#[]⟩),(.int .i64 0)] [(0,1,(.int .i64 1)),(2,1,(.int .u32 1)),(3,1,(.string ⟨#[97]⟩))]) fun b=>xA (wD 20 [b]) fun c=>xA (wM [(.int .i64 0),(.int .i64 0),(.int .i64 0),(.slice none 0 0),(.int .i64 0),(.slice none 0 0)] [(0,1,(.int .i64 2)),(1,1,(.int .i64 5)),(3,1,c)]) fun d=>xA (wD 15 [a,d]) fun f=>xA (wH 42 [(.int .i64 0),(.int .i64 0),(.slice none 0 0),(.slice none 0 0)]) fun g=>xA (wF 4 g f) fun _=>xC (e.upd 3 g)
def e2B(e:b7):Reg:=xA (wB (e 1)) fun a=>xA (wM [(.int .i64 0),(.int .i64 0),(.int .i64 0),(.slice none 0 0),(.int .i64 0),(.slice none 0 0)] [(0,1,(.int .i64 3)),(1,1,(.int .i64 5)),(4,1,(.int .i64 99))]) fun b=>xA (wD 15 [a,b]) fun c=>xA (wH 42 [(.int .i64 0),(.int .i64 0),(.slice none 0 0),(.slice none 0 0)]) fun d=>xA (wF 4 d c) fun _=>xC (e.upd 4 d)
def c7m(e:b7)(a b c d:Value):Reg:=xA (wF 12 d a) fun _=>xA (wB b) fun f=>xA (wB c) fun g=>xC (((e.upd 5 d).upd 6 f).upd 7 g)
def e1M(e:b7):Reg:=xA (wC 2 (e 4)) fun a=>xA (wA none a) fun b=>xA (wD 21 [b]) fun c=>xA (wB c) fun d=>xA (wG d 0) fun f=>xA (wG d 1) fun g=>xA (wG d 2) fun i=>xA (wH 66 [(.int .i64 0),(.int .i64 0),(.int .i64 0),(.int .i64 0),(.int .i64 0),(.int .i64 0),(.int .i64 0),(.int .i64 0),(.int .i64 0),(.int .i64 0),(.slice none 0 0),(.int .i64 0)]) fun j=>c7m e f g i j
def c6Y(e:b7)(a:Value):Reg:=xA (wB a) fun b=>xB b true (wC 2 (e 5)) fun c=>xB b true (wC 0 c) fun d=>xB b true (wA none d) fun f=>xB b true (wE .eql f (.int .i64 1)) fun g=>xA (wK b g (.bool false)) fun i=>xA (wB i) fun j=>xC (e.upd 0 j)
def c7r(e:b7)(a b:Value):Reg:=xA (wK a b (.bool false)) fun c=>xA (wB c) fun d=>xB d true (wB (e 7)) fun f=>xA (wK d f (.bool false)) fun g=>xA (wB g) fun i=>xB i true (wB (e 6)) fun j=>xB i true (wE .eql j (.int .i64 22)) fun k=>xA (wK i k (.bool false)) fun m=>c6Y e m
def e2m(e:b7):Reg:=xA (wC 1 (e 3)) fun a=>xA (wA none a) fun b=>xA (wE .eql b (.int .i64 12)) fun c=>xA (wB c) fun d=>xB d true (wC 3 (e 3)) fun f=>xB d true (wA none f) fun g=>xB d true (wL g) fun i=>xB d true (wE .eql i (.int .i64 1)) fun j=>c7r e d j
def c11:CFn:=⟨(.seq (.region e1E) (.seq (.region e2H) (.seq (.seq (.region e1D) (.cond (fun e=>e 20) (.seq (.region e2L) .ret) .skip)) (.seq (.region e1U) (.seq (.region e1H) (.seq (.region e2B) (.seq (.region e1M) (.seq (.region e2m) .ret)))))))),[.t 0]⟩
def p11:Pers:=⟨8,[20],61,[]⟩
def d6K(e:b7):Reg:=xA (wB (.bool false)) fun a=>xC (e.upd 2 a)
def d8d(e:b7):Reg:=xA (wB (e 0)) fun a=>xA (wL a) fun b=>xA (wE .gtr b (.int .i64 150)) fun c=>xC (e.upd 7 c)
def d6i(e:b7):Reg:=xA (wB (.bool false)) fun a=>xC (e.upd 2 a)
def c8H(e:b7):Reg:=xA (wB (e 0)) fun a=>xA (wL a) fun b=>xA (wB (.int .i64 0)) fun c=>xC (((e.upd 8 a).upd 9 b).upd 10 c)
def d8D(e:b7):Reg:=xA (wE .lss (e 10) (e 9)) fun a=>xC (e.upd 11 a)
def d8n(e:b7):Reg:=xA (wI 4 (e 8) (e 10)) fun a=>xA (wA (some 4) a) fun b=>xA (wH 48 [(.int .i64 0),(.int .i64 0),(.string ⟨#[]⟩),(.bool false)]) fun c=>xA (wF 4 c b) fun _=>xC (e.upd 4 c)
def d0F(e:b7):Reg:=xA (wC 2 (e 4)) fun a=>xA (wA none a) fun b=>xA (.lenStr b) fun c=>xA (wE .gtr c (.int .i64 64)) fun d=>xC (e.upd 17 d)
def d6D(e:b7):Reg:=xA (wB (.bool false)) fun a=>xC (e.upd 2 a)
def c8s(e:b7):Reg:=xA (wE .add (e 10) (.int .i64 1)) fun a=>xA (wB a) fun b=>xC (e.upd 10 b)
def a5t:CC:=(.seq (.region d8D) (.seq (.cond (fun e=>e 11) .skip (.exit 0)) (.seq (.block 1 (.seq (.region d8n) (.seq (.region d0F) (.cond (fun e=>e 17) (.seq (.region d6D) .ret) .skip)))) (.region c8s))))
def d6c(e:b7):Reg:=xA (wB (.bool true)) fun a=>xC (e.upd 2 a)
def R12:=an (ro d6K.eq_1)<|an (ro d8d.eq_1)<|an (ro d6i.eq_1)<|an (ro c8H.eq_1)<|an (ro d8D.eq_1)<|an (ro d8n.eq_1)<|an (ro d0F.eq_1)<|an (ro d6D.eq_1)<|an (ro c8s.eq_1)<|ro d6c.eq_1
def c12:CFn:=⟨(.seq (.region d6K) (.seq (.seq (.region d8d) (.cond (fun e=>e 7) (.seq (.region d6i) .ret) .skip)) (.seq (.seq (.region c8H) (.block 0 (.loop a5t))) (.seq (.region d6c) .ret)))),[.t 2]⟩
def p12:Pers:=⟨5,[7,8,9,10,11,17],19,[]⟩
def d3p(e:b7):Reg:=xA (wH 30 [(.int .i64 0),(.int .i64 0),(.int .i64 0),(.slice none 0 0)]) fun a=>xC (e.upd 4 a)
def d6y(e:b7):Reg:=xA (wB (e 1)) fun a=>xA (wE .and a (.int .i64 255)) fun b=>xA (wE .add (.int .i64 660) b) fun c=>xA (wM [(.int .i64 0),(.int .i64 0),(.int .i64 0),(.slice none 0 0)] [(0,1,(.int .i64 4294967296)),(1,1,(.int .i64 3)),(2,1,c)]) fun d=>xA (wH 30 [(.int .i64 0),(.int .i64 0),(.int .i64 0),(.slice none 0 0)]) fun f=>xA (wF 4 f d) fun _=>xC (e.upd 5 f)
def d0w(e:b7):Reg:=xA (wB (e 0)) fun a=>xA (wL a) fun b=>xA (wB (.int .i64 0)) fun c=>xC (((e.upd 12 a).upd 13 b).upd 14 c)
def d5L(e:b7):Reg:=xA (wE .lss (e 14) (e 13)) fun a=>xC (e.upd 15 a)
def d8i(e:b7):Reg:=xA (wB (e 14)) fun a=>xA (wI 9 (e 12) (e 14)) fun b=>xA (wA (some 9) b) fun c=>xA (wH 23 [(.int .i64 0),(.int .i64 0),(.int .i64 0),(.int .i64 0),(.int .i64 0),(.int .i64 0),(.int .i64 0),(.int .i64 0),(.bool false)]) fun d=>xA (wB a) fun f=>xA (wF 9 d c) fun _=>xC ((e.upd 7 d).upd 6 f)
def d0q(e:b7):Reg:=xA (wB (e 6)) fun a=>xA (wE .lss a (.int .i64 3)) fun b=>xC (e.upd 20 b)
def a8B(e:b7)(a b:Value):Reg:=xA (.append 34 9 72 a b) fun c=>xA (wC 3 (e 5)) fun d=>xD fun h7=>xA (wF 1 d c) fun _=>xC e
def c9s(e:b7):Reg:=xA (wC 3 (e 5)) fun a=>xA (wA none a) fun b=>xA (wA (some 9) (e 7)) fun c=>xD fun h3=>xA (wD 30 [c]) fun d=>xE none none (wA none a) b<|xA (.buildSlice 34 1 [(.int .i64 0),(.int .i64 0),(.int .i64 0),(.int .i64 0),(.int .i64 0),(.int .i64 0),(.int .i64 0),(.int .i64 0),(.bool false)] [(0,9,d)]) fun f=>xD fun h5=>a8B e b f
def c9I(e:b7):Reg:=xA (wE .add (e 14) (.int .i64 1)) fun a=>xA (wB a) fun b=>xC (e.upd 14 b)
def a2C:CC:=(.seq (.region d5L) (.seq (.cond (fun e=>e 15) .skip (.exit 0)) (.seq (.block 1 (.seq (.region d8i) (.seq (.region d0q) (.cond (fun e=>e 20) (.region c9s) .skip)))) (.region c9I))))
def d1R(e:b7):Reg:=xA (wC 3 (e 5)) fun a=>xA (wA none a) fun b=>xA (wL b) fun c=>xA (wE .eql c (.int .i64 0)) fun d=>xC (e.upd 32 d)
def a9T(e:b7)(a b:Value):Reg:=xA (.append 34 9 72 a b) fun c=>xA (wC 3 (e 5)) fun d=>xD fun h7=>xA (wF 1 d c) fun _=>xC e
def d4Y(e:b7):Reg:=xA (wC 3 (e 5)) fun a=>xA (wA none a) fun b=>xA (wM [(.int .i64 0),(.int .i64 0),(.int .i64 0),(.int .i64 0),(.int .i64 0),(.int .i64 0),(.int .i64 0),(.int .i64 0),(.bool false)] []) fun c=>xD fun h3=>xA (wD 30 [c]) fun d=>xE none none (wA none a) b<|xA (.buildSlice 34 1 [(.int .i64 0),(.int .i64 0),(.int .i64 0),(.int .i64 0),(.int .i64 0),(.int .i64 0),(.int .i64 0),(.int .i64 0),(.bool false)] [(0,9,d)]) fun f=>xD fun h5=>a9T e b f
def c3k(e:b7):Reg:=xA (wA (some 4) (e 5)) fun a=>xA (wF 4 (e 4) a) fun _=>xC e
def R13:=an (ro d3p.eq_1)<|an (ro d6y.eq_1)<|an (ro d0w.eq_1)<|an (ro d5L.eq_1)<|an (ro d8i.eq_1)<|an (ro d0q.eq_1)<|an (O5 a8B.eq_1)<|an (ro c9s.eq_1)<|an (ro c9I.eq_1)<|an (ro d1R.eq_1)<|an (O5 a9T.eq_1)<|an (ro d4Y.eq_1)<|ro c3k.eq_1
def c13:CFn:=⟨(.seq (.region d3p) (.seq (.region d6y) (.seq (.seq (.region d0w) (.block 0 (.loop a2C))) (.seq (.seq (.region d1R) (.cond (fun e=>e 32) (.region d4Y) .skip)) (.seq (.region c3k) .ret))))),[.c 4 (some 4)]⟩
def p13:Pers:=⟨8,[12,13,14,15,20,32],41,[]⟩
def d1N(e:b7):Reg:=xA (wN 30 (e 0)) fun a=>xA (wB (.pointer none)) fun b=>xA (wB (.int .i64 0)) fun c=>xC (((e.upd 2 a).upd 4 b).upd 5 c)
def d7z(e:b7):Reg:=xA (wA (some 4) (e 2)) fun a=>xA (wD 31 [a]) fun b=>xA (wP .not b) fun c=>xC (e.upd 9 c)
def c8T(e:b7):Reg:=xA (wB (.pointer none)) fun a=>xA (wB (.int .i64 1)) fun b=>xC ((e.upd 4 a).upd 5 b)
def d7n(e:b7):Reg:=xA (wA (some 4) (e 2)) fun a=>xA (wM [(.int .i64 0),(.int .i64 0),(.bool false),(.bool false),(.int .i64 0),(.int .i64 0),(.int .i64 0),(.slice none 0 0),(.slice none 0 0),(.slice none 0 0),(.slice none 0 0)] [(4,4,a)]) fun b=>xA (wN 93 b) fun c=>xA (wB c) fun d=>xC (e.upd 6 d)
def d1T(e:b7):Reg:=xA (wB (e 6)) fun a=>xA (wC 3 (e 2)) fun b=>xA (wA none b) fun c=>xA (.append 34 9 72 (.slice none 0 0) c) fun d=>xA (wJ a) fun f=>xA (wC 4 f) fun g=>xA (wC 3 g) fun i=>xA (wF 1 i d) fun _=>xC e
def d0f(e:b7):Reg:=xA (wB (e 6)) fun a=>xA (wB (e 1)) fun b=>xA (wD 32 [a,b]) fun c=>xC e
def d1u(e:b7):Reg:=xA (wB (e 6)) fun a=>xA (wB a) fun b=>xA (wB (.int .i64 0)) fun c=>xC ((e.upd 4 b).upd 5 c)
def R14:=an (ro d1N.eq_1)<|an (ro d7z.eq_1)<|an (ro c8T.eq_1)<|an (ro d7n.eq_1)<|an (ro d1T.eq_1)<|an (ro d0f.eq_1)<|ro d1u.eq_1
def c14:CFn:=⟨(.seq (.region d1N) (.seq (.seq (.region d7z) (.cond (fun e=>e 9) (.seq (.region c8T) .ret) .skip)) (.seq (.region d7n) (.seq (.region d1T) (.seq (.region d0f) (.seq (.region d1u) .ret)))))),[.t 4,.t 5]⟩
def p14:Pers:=⟨7,[9],24,[]⟩
def d4x(e:b7):Reg:=xA (wN 35 (e 0)) fun a=>xA (wN 45 (e 1)) fun b=>xA (wH 42 [(.int .i64 0),(.int .i64 0),(.slice none 0 0),(.slice none 0 0)]) fun c=>xC (((e.upd 2 a).upd 3 b).upd 4 c)
def d1p(e:b7):Reg:=xA (wA none (e 2)) fun a=>xA (.eqK .ptr false a (.pointer none)) fun b=>xC (e.upd 9 b)
def d5t(e:b7):Reg:=xA (wM [(.int .i64 0),(.int .i64 0),(.slice none 0 0),(.slice none 0 0)] [(0,1,(.int .i64 1))]) fun a=>xA (wF 4 (e 4) a) fun _=>xC e
def d0b(e:b7):Reg:=xA (wC 0 (e 3)) fun a=>xA (wA none a) fun b=>xA (wE .eql b (.int .i64 4)) fun c=>xC (e.upd 13 c)
def c9U(e:b7):Reg:=xA (wA none (e 2)) fun a=>xA (wJ a) fun b=>xA (wC 0 b) fun c=>xA (wD 33 [c]) fun d=>xC e
def c9i(e:b7):Reg:=xA (wA none (e 2)) fun a=>xA (wJ a) fun b=>xA (wC 0 b) fun c=>xA (wC 1 (e 3)) fun d=>xA (wA none d) fun f=>xD fun h5=>xA (wD 34 [c,f]) fun g=>xC e
def d4H(e:b7):Reg:=xA (wA none (e 2)) fun a=>xA (wC 5 (e 3)) fun b=>xA (wA none b) fun c=>xA (wD 32 [a,c]) fun d=>xC e
def d0u(e:b7):Reg:=xA (wM [(.int .i64 0),(.int .i64 0),(.slice none 0 0),(.slice none 0 0)] []) fun a=>xA (wF 4 (e 4) a) fun _=>xC e
def d3U(e:b7):Reg:=xA (wA none (e 2)) fun a=>xA (wJ a) fun b=>xA (wC 0 b) fun c=>xA (wC 1 (e 3)) fun d=>xA (wA none d) fun f=>xD fun h5=>xA (wD 34 [c,f]) fun g=>xC e
def b0A(e:b7)(a b:Value):Reg:=xB a false (wA none (e 2)) fun c=>xB a false (wJ c) fun d=>xB a false (wC 8 d) fun f=>xB a false (wA none f) fun g=>xB a false (wL g) fun i=>xB a false (wE .geq b i) fun j=>xA (wK a (.bool true) j) fun k=>xC (e.upd 57 k)
def b0c(e:b7)(a:Value):Reg:=xA (wB a) fun b=>xB b false (wC 2 (e 3)) fun c=>xB b false (wA none c) fun d=>xB b false (wE .lss d (.int .i64 0)) fun f=>xA (wK b (.bool true) f) fun g=>xA (wB g) fun i=>xB i false (wC 2 (e 3)) fun j=>xB i false (wA none j) fun k=>b0A e i k
def d2k(e:b7):Reg:=xA (wC 0 (e 3)) fun a=>xA (wA none a) fun b=>xA (wE .lss b (.int .i64 0)) fun c=>xA (wB c) fun d=>xB d false (wC 0 (e 3)) fun f=>xB d false (wA none f) fun g=>xB d false (wE .gtr g (.int .i64 4)) fun i=>xA (wK d (.bool true) i) fun j=>b0c e j
def c1u(e:b7):Reg:=xA (wM [(.int .i64 0),(.int .i64 0),(.slice none 0 0),(.slice none 0 0)] [(0,1,(.int .i64 1))]) fun a=>xA (wF 4 (e 4) a) fun _=>xC e
def a7E(e:b7)(a:Value):Reg:=xA (wM [(.int .i64 0),(.int .i64 0),(.slice none 0 0),(.slice none 0 0)] []) fun b=>xA (wH 42 [(.int .i64 0),(.int .i64 0),(.slice none 0 0),(.slice none 0 0)]) fun c=>xA (wB a) fun d=>xD fun h11=>xA (wF 4 c b) fun _=>xC ((e.upd 6 c).upd 5 d)
def b9X(e:b7):Reg:=xA (wA none (e 2)) fun a=>xA (wJ a) fun b=>xA (wC 8 b) fun c=>xA (wA none c) fun d=>xA (wC 2 (e 3)) fun f=>xA (wA none f) fun g=>xA (wI 1 d g) fun i=>xA (wA none i) fun j=>a7E e j
def c0B(e:b7):Reg:=xA (wB (.bool true)) fun a=>xC (e.upd 7 a)
def c3f(e:b7):Reg:=xA (wC 0 (e 3)) fun a=>xA (wA none a) fun b=>xC (e.upd 70 b)
def b8M(e:b7):Reg:=xA (wE .eql (e 70) (.int .i64 0)) fun a=>xA (wB a) fun b=>xC (e.upd 79 b)
def c2u(e:b7):Reg:=xA (wB (e 5)) fun a=>xA (wD 36 [a]) fun b=>xA (wB b) fun c=>xC (e.upd 7 c)
def c1s(e:b7):Reg:=xA (wE .eql (e 70) (.int .i64 1)) fun a=>xA (wB a) fun b=>xC (e.upd 83 b)
def c2p(e:b7):Reg:=xA (wB (e 5)) fun a=>xA (wD 37 [a]) fun b=>xA (wB b) fun c=>xC (e.upd 7 c)
def c5Q(e:b7):Reg:=xA (wE .eql (e 70) (.int .i64 2)) fun a=>xA (wB a) fun b=>xC (e.upd 87 b)
def b8S(e:b7):Reg:=xA (wB (e 5)) fun a=>xA (wD 38 [a]) fun b=>xA (wB b) fun c=>xC (e.upd 7 c)
def b8U(e:b7):Reg:=xA (wB (e 7)) fun a=>xC (e.upd 91 a)
def c4D(e:b7):Reg:=xA (wB (e 5)) fun a=>xA (wC 3 (e 3)) fun b=>xA (wA none b) fun c=>xA (wA none (e 2)) fun d=>xA (wB (.iface 35 d)) fun f=>xA (wD 39 [a,c,f]) fun g=>xA (wC 1 (e 6)) fun i=>xA (wF 1 i g) fun _=>xC e
def c5C(e:b7):Reg:=xA (wB (e 5)) fun a=>xA (wD 38 [a]) fun b=>xA (wB b) fun c=>xC (e.upd 7 c)
def b8r(e:b7):Reg:=xA (wB (e 7)) fun a=>xC (e.upd 73 a)
def c3y(e:b7):Reg:=xA (wB (e 5)) fun a=>xA (wC 4 (e 3)) fun b=>xA (wA none b) fun c=>xA (wD 40 [a,c]) fun d=>xA (wC 2 (e 6)) fun f=>xA (wF 1 f d) fun _=>xC e
def c2X(e:b7):Reg:=xA (wB (e 7)) fun a=>xA (wP .not a) fun b=>xC (e.upd 100 b)
def c3x(e:b7):Reg:=xA (wM [(.int .i64 0),(.int .i64 0),(.slice none 0 0),(.slice none 0 0)] [(0,1,(.int .i64 11))]) fun a=>xA (wF 4 (e 4) a) fun _=>xC e
def c1P(e:b7):Reg:=xA (wA none (e 2)) fun a=>xA (wJ a) fun b=>xA (wC 10 b) fun c=>xA (wA none c) fun d=>xA (wC 3 (e 6)) fun f=>xA (wF 1 f d) fun _=>xC e
def c2P(e:b7):Reg:=xA (wA (some 4) (e 6)) fun a=>xA (wF 4 (e 4) a) fun _=>xC e
def R15:=an (ro d4x.eq_1)<|an (ro d1p.eq_1)<|an (ro d5t.eq_1)<|an (ro d0b.eq_1)<|an (ro c9U.eq_1)<|an (ro c9i.eq_1)<|an (ro d4H.eq_1)<|an (ro d0u.eq_1)<|an (ro d3U.eq_1)<|an (O5 b0A.eq_1)<|an (ro1 b0c.eq_1)<|an (ro d2k.eq_1)<|an (ro c1u.eq_1)<|an (ro1 a7E.eq_1)<|an (ro b9X.eq_1)<|an (ro c0B.eq_1)<|an (ro c3f.eq_1)<|an (ro b8M.eq_1)<|an (ro c2u.eq_1)<|an (ro c1s.eq_1)<|an (ro c2p.eq_1)<|an (ro c5Q.eq_1)<|an (ro b8S.eq_1)<|an (ro b8U.eq_1)<|an (ro c4D.eq_1)<|an (ro c5C.eq_1)<|an (ro b8r.eq_1)<|an (ro c3y.eq_1)<|an (ro c2X.eq_1)<|an (ro c3x.eq_1)<|an (ro c1P.eq_1)<|ro c2P.eq_1
def c15:CFn:=⟨(.dfr (.seq (.region d4x) (.seq (.seq (.region d1p) (.cond (fun e=>e 9) (.seq (.region d5t) .ret) .skip)) (.seq (.seq (.region d0b) (.cond (fun e=>e 13) (.seq (.region c9U) (.seq (.region c9i) (.seq (.region d4H) (.seq (.region d0u) .ret)))) .skip)) (.seq (.region d3U) (.seq (.seq (.region d2k) (.cond (fun e=>e 57) (.seq (.region c1u) .ret) .skip)) .skip))))) 35 (fun e=>[(e 2)]) (.seq (.region b9X) (.seq (.region c0B) (.seq (.seq (.region c3f) (.block 0 (.seq (.region b8M) (.cond (fun e=>e 79) (.region c2u) (.seq (.region c1s) (.cond (fun e=>e 83) (.region c2p) (.seq (.region c5Q) (.cond (fun e=>e 87) (.seq (.region b8S) (.seq (.region b8U) (.cond (fun e=>e 91) (.region c4D) .skip))) (.seq (.region c5C) (.seq (.region b8r) (.cond (fun e=>e 73) (.region c3y) .skip))))))))))) (.seq (.seq (.region c2X) (.cond (fun e=>e 100) (.seq (.region c3x) .ret) .skip)) (.seq (.region c1P) (.seq (.region c2P) .ret))))))),[.c 4 (some 4)]⟩
def p15:Pers:=⟨8,[9,13,57,70,73,79,83,87,91,100],108,[]⟩
def d1Z(e:b7):Reg:=xA (wB (.int .i64 0)) fun a=>xC (e.upd 2 a)
def d0J(e:b7):Reg:=xA (wB (e 0)) fun a=>xA (wE .and a (.int .i64 1)) fun b=>xA (wE .eql b (.int .i64 1)) fun c=>xC (e.upd 5 c)
def d7F(e:b7):Reg:=xA (wB (e 0)) fun a=>xA (wE .shr a (.int .u64 1)) fun b=>xA (wE .and b (.int .i64 1023)) fun c=>xA (wB c) fun d=>xC (e.upd 2 d)
def d3O(e:b7):Reg:=xA (wB (e 0)) fun a=>xA (wE .shr a (.int .u64 1)) fun b=>xA (wE .and b (.int .i64 15)) fun c=>xA (wB c) fun d=>xC (e.upd 2 d)
def R16:=an (ro d1Z.eq_1)<|an (ro d0J.eq_1)<|an (ro d7F.eq_1)<|ro d3O.eq_1
def c16:CFn:=⟨(.seq (.region d1Z) (.seq (.seq (.region d0J) (.cond (fun e=>e 5) (.seq (.region d7F) .ret) .skip)) (.seq (.region d3O) .ret))),[.t 2]⟩
def p16:Pers:=⟨3,[5],12,[]⟩
def d8m(e:b7):Reg:=xA (wN 52 (e 0)) fun a=>xA (wN 34 (e 1)) fun b=>xA (wB (.int .i64 0)) fun c=>xC (((e.upd 4 a).upd 5 b).upd 8 c)
def d6k(e:b7):Reg:=xA (wB (e 3)) fun a=>xA (wA (some 4) (e 4)) fun b=>xA (wA (some 9) (e 5)) fun c=>xA (wB (e 2)) fun d=>xA (wD 19 [b,c,d]) fun f=>xA (wE .leq a f) fun g=>xC (e.upd 15 g)
def d3y(e:b7):Reg:=xA (wB (.int .i64 0)) fun a=>xC (e.upd 8 a)
def b0a(e:b7)(a b c d f g:Value):Reg:=xA (wD 41 [g]) fun i=>xE none none (wA none c) d<|xE none none (wA none a) b<|xA (wE .mul f i) fun j=>xA (wE .sub b j) fun k=>xA (wB k) fun m=>xC (e.upd 9 m)
def d7t(e:b7):Reg:=xA (wC 0 (e 4)) fun a=>xA (wA none a) fun b=>xA (wC 2 (e 5)) fun c=>xA (wA none c) fun d=>xA (wB (e 3)) fun f=>xA (wE .sub d f) fun g=>xA (wA (some 9) (e 5)) fun i=>xD fun h7=>b0a e a b c d g i
def d7U(e:b7):Reg:=xA (wB (e 9)) fun a=>xA (wB (e 2)) fun b=>xA (wE .lss a b) fun c=>xC (e.upd 28 c)
def d2I(e:b7):Reg:=xA (wB (e 2)) fun a=>xA (wB a) fun b=>xC (e.upd 9 b)
def a8y(e:b7)(a b c:Value):Reg:=xB a true (wA none c) fun d=>xB a true (wE .gtr b d) fun f=>xA (wK a f (.bool false)) fun g=>xC (e.upd 48 g)
def a9p(e:b7)(a:Value):Reg:=xB a true (wC 2 (e 4)) fun b=>xB a true (wA none b) fun c=>xB a true (wC 3 (e 4)) fun d=>xB a true (wA none d) fun f=>xB a true (wE .add c f) fun g=>xB a true (wB (e 3)) fun i=>xB a true (wE .add g i) fun j=>xB a true (wC 0 (e 5)) fun k=>a8y e a j k
def c8W(e:b7):Reg:=xA (wB (e 9)) fun a=>xA (wC 1 (e 4)) fun b=>xA (wA none b) fun c=>xA (wE .sub a c) fun d=>xA (wC 1 (e 5)) fun f=>xA (wA none f) fun g=>xA (wE .lss d g) fun i=>xA (wB i) fun j=>a9p e j
def d4D(e:b7):Reg:=xA (wC 1 (e 4)) fun a=>xA (wA none a) fun b=>xA (wC 1 (e 5)) fun c=>xA (wA none c) fun d=>xA (wE .add b d) fun f=>xA (wB f) fun g=>xC (e.upd 9 g)
def d6C(e:b7):Reg:=xA (wB (e 9)) fun a=>xA (wB (e 2)) fun b=>xA (wE .sub a b) fun c=>xA (wB c) fun d=>xC (e.upd 8 d)
def R17:=an (ro d8m.eq_1)<|an (ro d6k.eq_1)<|an (ro d3y.eq_1)<|an (ro6 b0a.eq_1)<|an (ro d7t.eq_1)<|an (ro d7U.eq_1)<|an (ro d2I.eq_1)<|an (W3 a8y.eq_1)<|an (ro1 a9p.eq_1)<|an (ro c8W.eq_1)<|an (ro d4D.eq_1)<|ro d6C.eq_1
def c17:CFn:=⟨(.seq (.region d8m) (.seq (.seq (.region d6k) (.cond (fun e=>e 15) (.seq (.region d3y) .ret) .skip)) (.seq (.region d7t) (.seq (.seq (.region d7U) (.cond (fun e=>e 28) (.region d2I) .skip)) (.seq (.seq (.region c8W) (.cond (fun e=>e 48) (.region d4D) .skip)) (.seq (.region d6C) .ret)))))),[.t 8]⟩
def p17:Pers:=⟨10,[15,28,48],57,[]⟩
def c9r(e:b7):Reg:=xA (wN 34 (e 1)) fun a=>xA (wB (.bool false)) fun b=>xC ((e.upd 5 a).upd 8 b)
def a8Q(e:b7)(a b c d:Value):Reg:=xB a false (wB (e 2)) fun f=>xD fun h9=>xB a false (wD 19 [c,d,f]) fun g=>xB a false (wE .gtr b g) fun i=>xA (wK a (.bool true) i) fun j=>xC (e.upd 21 j)
def d7m(e:b7):Reg:=xA (wB (e 3)) fun a=>xA (wE .lss a (.int .i64 1)) fun b=>xA (wB b) fun c=>xB c false (wB (e 3)) fun d=>xB c false (wB (e 0)) fun f=>xB c false (wJ f) fun g=>xB c false (wA (some 4) g) fun i=>xB c false (wA (some 9) (e 5)) fun j=>a8Q e c d i j
def d6V(e:b7):Reg:=xA (wB (.bool false)) fun a=>xC (e.upd 8 a)
def d4p(e:b7):Reg:=xA (wB (.int .i64 0)) fun a=>xC (e.upd 9 a)
def c9y(e:b7):Reg:=xA (wB (e 9)) fun a=>xA (wB (e 3)) fun b=>xA (wE .lss a b) fun c=>xC (e.upd 24 c)
def d1x(e:b7):Reg:=xA (wB (e 0)) fun a=>xA (wA (some 9) (e 5)) fun b=>xA (wB (e 2)) fun c=>xA (wD 42 [a,b,c]) fun d=>xC e
def d2n(e:b7):Reg:=xA (wB (e 9)) fun a=>xA (wE .add a (.int .i64 1)) fun b=>xA (wB b) fun c=>xC (e.upd 9 c)
def b1A:CC:=(.seq (.seq (.region c9y) (.cond (fun e=>e 24) .skip (.exit 0))) (.seq (.block 1 (.region d1x)) (.region d2n)))
def d7N(e:b7):Reg:=xA (wB (e 0)) fun a=>xA (wJ a) fun b=>xA (wC 3 b) fun c=>xA (wA none c) fun d=>xA (wB (e 3)) fun f=>xA (wE .add d f) fun g=>xA (wJ a) fun i=>xA (wC 3 i) fun j=>xA (wF 1 j g) fun _=>xC e
def d0R(e:b7):Reg:=xA (wB (.bool true)) fun a=>xC (e.upd 8 a)
def R18:=an (ro c9r.eq_1)<|an (ro4 a8Q.eq_1)<|an (ro d7m.eq_1)<|an (ro d6V.eq_1)<|an (ro d4p.eq_1)<|an (ro c9y.eq_1)<|an (ro d1x.eq_1)<|an (ro d2n.eq_1)<|an (ro d7N.eq_1)<|ro d0R.eq_1
def c18:CFn:=⟨(.seq (.region c9r) (.seq (.seq (.region d7m) (.cond (fun e=>e 21) (.seq (.region d6V) .ret) .skip)) (.seq (.seq (.region d4p) (.block 0 (.loop b1A))) (.seq (.region d7N) (.seq (.region d0R) .ret))))),[.t 8]⟩
def p18:Pers:=⟨10,[21,24],39,[]⟩
def d7b(e:b7):Reg:=xA (wN 52 (e 0)) fun a=>xA (wN 34 (e 1)) fun b=>xA (wB (.int .i64 0)) fun c=>xC (((e.upd 3 a).upd 4 b).upd 6 c)
def d0d(e:b7):Reg:=xA (wB (.int .i64 0)) fun a=>xC (e.upd 7 a)
def c9z(e:b7):Reg:=xA (wA (some 4) (e 3)) fun a=>xA (wH 52 [(.int .i64 0),(.int .i64 0),(.int .i64 0),(.int .i64 0)]) fun b=>xA (wF 4 b a) fun _=>xC (e.upd 8 b)
def d5c(e:b7):Reg:=xA (wB (e 7)) fun a=>xA (wC 2 (e 4)) fun b=>xA (wA none b) fun c=>xA (wE .lss a c) fun d=>xA (wB d) fun f=>xB f true (wA (some 9) (e 4)) fun g=>xB f true (wB (e 2)) fun i=>xB f true (wD 42 [(e 8),g,i]) fun j=>xA (wK f j (.bool false)) fun k=>xC (e.upd 19 k)
def d4Z(e:b7):Reg:=xA (wB (e 7)) fun a=>xA (wE .add a (.int .i64 1)) fun b=>xA (wB b) fun c=>xC (e.upd 7 c)
def b1a:CC:=(.seq (.seq (.region d5c) (.cond (fun e=>e 19) .skip (.exit 0))) (.block 1 (.region d4Z)))
def d6Z(e:b7):Reg:=xA (wA (some 4) (e 3)) fun a=>xA (wA (some 9) (e 4)) fun b=>xA (wB (e 2)) fun c=>xA (wD 43 [a,b,c]) fun d=>xC (e.upd 25 d)
def b5U(e:b7):Reg:=xA (wC 0 (e 4)) fun a=>xA (wA none a) fun b=>xA (wC 2 (e 3)) fun c=>xA (wA none c) fun d=>xA (wE .sub b d) fun f=>xA (wC 3 (e 3)) fun g=>xA (wA none g) fun i=>xA (wE .sub f i) fun j=>xA (wB j) fun k=>xC (e.upd 9 k)
def b5L(e:b7):Reg:=xA (wB (e 9)) fun a=>xA (wE .lss a (.int .i64 0)) fun b=>xC (e.upd 35 b)
def b6c(e:b7):Reg:=xA (wB (.int .i64 0)) fun a=>xC (e.upd 9 a)
def b5H(e:b7):Reg:=xA (wB (e 9)) fun a=>xA (wB (e 7)) fun b=>xA (wE .lss a b) fun c=>xC (e.upd 38 c)
def b0Q(e:b7):Reg:=xA (wB (e 9)) fun a=>xA (wB a) fun b=>xC (e.upd 7 b)
def b1B(e:b7):Reg:=xA (wB (e 7)) fun a=>xA (wB a) fun b=>xC (e.upd 6 b)
def R19:=an (ro d7b.eq_1)<|an (ro d0d.eq_1)<|an (ro c9z.eq_1)<|an (ro d5c.eq_1)<|an (ro d4Z.eq_1)<|an (ro d6Z.eq_1)<|an (ro b5U.eq_1)<|an (ro b5L.eq_1)<|an (ro b6c.eq_1)<|an (ro b5H.eq_1)<|an (ro b0Q.eq_1)<|ro b1B.eq_1
def c19:CFn:=⟨(.seq (.region d7b) (.seq (.region d0d) (.seq (.region c9z) (.seq (.block 0 (.loop b1a)) (.seq (.seq (.region d6Z) (.cond (fun e=>e 25) (.seq (.region b5U) (.seq (.seq (.region b5L) (.cond (fun e=>e 35) (.region b6c) .skip)) (.seq (.region b5H) (.cond (fun e=>e 38) (.region b0Q) .skip)))) .skip)) (.seq (.region b1B) .ret)))))),[.t 6]⟩
def p19:Pers:=⟨10,[19,25,35,38],41,[]⟩
def d3h(e:b7):Reg:=xA (wN 61 (e 0)) fun a=>xA (wB (.slice none 0 0)) fun b=>xC ((e.upd 1 a).upd 2 b)
def d2D(e:b7):Reg:=xA (wC 0 (e 1)) fun a=>xA (wA none a) fun b=>xA (wO .u8 b) fun c=>xA (wC 1 (e 1)) fun d=>xA (wA none d) fun f=>xA (wO .u8 f) fun g=>xA (.buildSlice 5 2 [(.int .u8 0)] [(0,1,c),(1,1,g)]) fun i=>xA (wB i) fun j=>xC (e.upd 3 j)
def d6a(e:b7):Reg:=xA (wC 0 (e 1)) fun a=>xA (wA none a) fun b=>xC (e.upd 12 b)
def d5C(e:b7):Reg:=xA (wE .eql (e 12) (.int .i64 1)) fun a=>xA (wB a) fun b=>xC (e.upd 13 b)
def d4a(e:b7):Reg:=xA (wE .eql (e 12) (.int .i64 2)) fun a=>xA (wB a) fun b=>xC (e.upd 15 b)
def d2G(e:b7):Reg:=xA (wE .eql (e 12) (.int .i64 4)) fun a=>xA (wB a) fun b=>xC (e.upd 17 b)
def b0z(e:b7)(h4:Heap)(a b c:Value):Reg:=xE none (some h4) (wA none b) c<|xA (.lenStr c) fun d=>xA (wO .u8 d) fun f=>xA (.buildSlice 5 1 [(.int .u8 0)] [(0,1,f)]) fun g=>xD fun h10=>xA (.append 5 1 1 a g) fun i=>xA (wB i) fun j=>xC (e.upd 3 j)
def d4J(e:b7):Reg:=xA (wB (e 3)) fun a=>xA (wC 2 (e 1)) fun b=>xA (wA none b) fun c=>xA (wO .u64 c) fun d=>xD fun h4=>xA (wD 44 [a,(.int .i64 4),d]) fun f=>xA (wC 3 (e 1)) fun g=>xA (wA none g) fun i=>b0z e h4 f g i
def d2M(e:b7):Reg:=xA (wB (e 3)) fun a=>xA (wC 3 (e 1)) fun b=>xA (wA none b) fun c=>xA (.append 5 1 1 a c) fun d=>xA (wB d) fun f=>xC (e.upd 3 f)
def d6w(e:b7):Reg:=xA (wB (e 3)) fun a=>xA (wC 4 (e 1)) fun b=>xA (wA none b) fun c=>xA (wO .u8 c) fun d=>xA (.buildSlice 5 1 [(.int .u8 0)] [(0,1,d)]) fun f=>xA (.append 5 1 1 a f) fun g=>xA (wB g) fun i=>xC (e.upd 3 i)
def d6X(e:b7):Reg:=xA (wB (e 3)) fun a=>xA (wD 45 [(.int .u8 167),a]) fun b=>xA (wB b) fun c=>xC (e.upd 2 c)
def R20:=an (ro d3h.eq_1)<|an (ro d2D.eq_1)<|an (ro d6a.eq_1)<|an (ro d5C.eq_1)<|an (ro d4a.eq_1)<|an (ro d2G.eq_1)<|an (ro4 b0z.eq_1)<|an (ro d4J.eq_1)<|an (ro d2M.eq_1)<|an (ro d6w.eq_1)<|ro d6X.eq_1
def c20:CFn:=⟨(.seq (.region d3h) (.seq (.region d2D) (.seq (.seq (.region d6a) (.block 0 (.seq (.block 3 (.seq (.block 2 (.block 1 (.seq (.seq (.seq (.region d5C) (.cond (fun e=>e 13) (.exit 1) .skip)) (.seq (.seq (.region d4a) (.cond (fun e=>e 15) (.exit 2) .skip)) (.seq (.region d2G) (.cond (fun e=>e 17) (.exit 3) .skip)))) (.exit 0)))) (.seq (.seq (.region d4J) (.region d2M)) (.exit 0)))) (.seq (.region d6w) (.exit 0))))) (.seq (.region d6X) .ret)))),[.t 2]⟩
def p20:Pers:=⟨4,[12,13,15,17],42,[]⟩
def d3F(e:b7):Reg:=xA (wH 66 [(.int .i64 0),(.int .i64 0),(.int .i64 0),(.int .i64 0),(.int .i64 0),(.int .i64 0),(.int .i64 0),(.int .i64 0),(.int .i64 0),(.int .i64 0),(.slice none 0 0),(.int .i64 0)]) fun a=>xA (wB (.int .i64 0)) fun b=>xA (wB (.bool false)) fun c=>xC (((e.upd 2 a).upd 3 b).upd 4 c)
def a9n(e:b7)(a b:Value):Reg:=xA (wK a (.bool true) b) fun c=>xA (wB c) fun d=>xB d false (wB (e 0)) fun f=>xB d false (wI 1 f (.int .i64 1)) fun g=>xB d false (wA none g) fun i=>xB d false (wE .neq i (.int .u8 1)) fun j=>xA (wK d (.bool true) j) fun k=>xC (e.upd 21 k)
def d8q(e:b7):Reg:=xA (wB (e 0)) fun a=>xA (wL a) fun b=>xA (wE .lss b (.int .i64 6)) fun c=>xA (wB c) fun d=>xB d false (wB (e 0)) fun f=>xB d false (wI 1 f (.int .i64 0)) fun g=>xB d false (wA none g) fun i=>xB d false (wE .neq i (.int .u8 168)) fun j=>a9n e d j
def d1W(e:b7):Reg:=xA (wM [(.int .i64 0),(.int .i64 0),(.int .i64 0),(.int .i64 0),(.int .i64 0),(.int .i64 0),(.int .i64 0),(.int .i64 0),(.int .i64 0),(.int .i64 0),(.slice none 0 0),(.int .i64 0)] []) fun a=>xA (wF 12 (e 2) a) fun _=>xA (wB (.int .i64 0)) fun b=>xA (wB (.bool false)) fun c=>xC ((e.upd 3 b).upd 4 c)
def d3A(e:b7):Reg:=xA (wB (e 0)) fun a=>xA (.slice 5 1 a (some (.int .i64 2)) (some (.int .i64 4))) fun b=>xA (wD 46 [b]) fun c=>xA (wO .i64 c) fun d=>xA (wE .add (.int .i64 4) d) fun f=>xA (wB f) fun g=>xC (e.upd 5 g)
def a8p(e:b7)(a:Value):Reg:=xA (wB a) fun b=>xB b false (wB (e 0)) fun c=>xB b false (wI 1 c (.int .i64 4)) fun d=>xB b false (wA none d) fun f=>xB b false (wE .lss f (.int .u8 128)) fun g=>xA (wK b (.bool true) g) fun i=>xC (e.upd 41 i)
def d2L(e:b7):Reg:=xA (wB (e 5)) fun a=>xA (wE .lss a (.int .i64 6)) fun b=>xA (wB b) fun c=>xB c false (wB (e 0)) fun d=>xB c false (wL d) fun f=>xB c false (wB (e 5)) fun g=>xB c false (wE .lss f g) fun i=>xA (wK c (.bool true) i) fun j=>a8p e j
def d4O(e:b7):Reg:=xA (wM [(.int .i64 0),(.int .i64 0),(.int .i64 0),(.int .i64 0),(.int .i64 0),(.int .i64 0),(.int .i64 0),(.int .i64 0),(.int .i64 0),(.int .i64 0),(.slice none 0 0),(.int .i64 0)] []) fun a=>xA (wF 12 (e 2) a) fun _=>xA (wB (.int .i64 0)) fun b=>xA (wB (.bool false)) fun c=>xC ((e.upd 3 b).upd 4 c)
def d8P(e:b7):Reg:=xA (wB (e 0)) fun a=>xA (wI 1 a (.int .i64 4)) fun b=>xA (wA none b) fun c=>xA (wE .and c (.int .u8 127)) fun d=>xA (wO .i64 d) fun f=>xA (wM [(.int .i64 0),(.int .i64 0),(.int .i64 0),(.int .i64 0),(.int .i64 0),(.int .i64 0),(.int .i64 0),(.int .i64 0),(.int .i64 0),(.int .i64 0),(.slice none 0 0),(.int .i64 0)] [(0,1,f)]) fun g=>xA (wH 66 [(.int .i64 0),(.int .i64 0),(.int .i64 0),(.int .i64 0),(.int .i64 0),(.int .i64 0),(.int .i64 0),(.int .i64 0),(.int .i64 0),(.int .i64 0),(.slice none 0 0),(.int .i64 0)]) fun i=>xA (wF 12 i g) fun _=>xC (e.upd 6 i)
def d5N(e:b7):Reg:=xA (wB (e 0)) fun a=>xA (wB (e 5)) fun b=>xA (.slice 5 1 a (some (.int .i64 5)) (some b)) fun c=>xA (wD 47 [(e 6),c]) fun d=>xA (wP .not d) fun f=>xC (e.upd 53 f)
def d0a(e:b7):Reg:=xA (wM [(.int .i64 0),(.int .i64 0),(.int .i64 0),(.int .i64 0),(.int .i64 0),(.int .i64 0),(.int .i64 0),(.int .i64 0),(.int .i64 0),(.int .i64 0),(.slice none 0 0),(.int .i64 0)] []) fun a=>xA (wF 12 (e 2) a) fun _=>xA (wB (.int .i64 0)) fun b=>xA (wB (.bool false)) fun c=>xC ((e.upd 3 b).upd 4 c)
def d7g(e:b7):Reg:=xA (wA (some 12) (e 6)) fun a=>xA (wB (e 5)) fun b=>xA (wF 12 (e 2) a) fun _=>xA (wB b) fun c=>xA (wB (.bool true)) fun d=>xC ((e.upd 3 c).upd 4 d)
def R21:=an (ro d3F.eq_1)<|an (O5 a9n.eq_1)<|an (ro d8q.eq_1)<|an (ro d1W.eq_1)<|an (ro d3A.eq_1)<|an (ro1 a8p.eq_1)<|an (ro d2L.eq_1)<|an (ro d4O.eq_1)<|an (ro d8P.eq_1)<|an (ro d5N.eq_1)<|an (ro d0a.eq_1)<|ro d7g.eq_1
def c21:CFn:=⟨(.seq (.region d3F) (.seq (.seq (.region d8q) (.cond (fun e=>e 21) (.seq (.region d1W) .ret) .skip)) (.seq (.region d3A) (.seq (.seq (.region d2L) (.cond (fun e=>e 41) (.seq (.region d4O) .ret) .skip)) (.seq (.region d8P) (.seq (.seq (.region d5N) (.cond (fun e=>e 53) (.seq (.region d0a) .ret) .skip)) (.seq (.region d7g) .ret))))))),[.c 2 (some 12),.t 3,.t 4]⟩
def p21:Pers:=⟨7,[21,41,53],57,[]⟩
def c9n(e:b7):Reg:=xA (wB (.int .i64 0)) fun a=>xC (e.upd 2 a)
def c9P(e:b7):Reg:=xA (wB (e 0)) fun a=>xA (wJ a) fun b=>xA (wC 0 b) fun c=>xA (wA none c) fun d=>xA (wB d) fun f=>xC (e.upd 2 f)
def R26:=an (ro c9n.eq_1)<|ro c9P.eq_1
def c26:CFn:=⟨(.seq (.region c9n) (.seq (.region c9P) .ret)),[.t 2]⟩
def p26:Pers:=⟨3,[],7,[]⟩
def e1h(e:b7):Reg:=xA (wB (.pointer none)) fun a=>xC (e.upd 4 a)
def c7b(e:b7)(a b:Value):Reg:=xB a false (wB (e 0)) fun c=>xB a false (wJ c) fun d=>xB a false (wC 9 d) fun f=>xB a false (wA none f) fun g=>xB a false (wL g) fun i=>xB a false (wE .geq b i) fun j=>xA (wK a (.bool true) j) fun k=>xC (e.upd 19 k)
def e2A(e:b7):Reg:=xA (wB (e 0)) fun a=>xA (.eqK .ptr false a (.pointer none)) fun b=>xA (wB b) fun c=>xB c false (wB (e 1)) fun d=>xB c false (wE .lss d (.int .i64 0)) fun f=>xA (wK c (.bool true) f) fun g=>xA (wB g) fun i=>xB i false (wB (e 1)) fun j=>c7b e i j
def e1q(e:b7):Reg:=xA (wB (.pointer none)) fun a=>xC (e.upd 4 a)
def e2h(e:b7):Reg:=xA (wB (e 0)) fun a=>xA (wJ a) fun b=>xA (wC 9 b) fun c=>xA (wA none c) fun d=>xA (wB (e 1)) fun f=>xA (wI 1 d f) fun g=>xA (wA none g) fun i=>xA (wB i) fun j=>xC (e.upd 4 j)
def c27:CFn:=⟨(.seq (.region e1h) (.seq (.seq (.region e2A) (.cond (fun e=>e 19) (.seq (.region e1q) .ret) .skip)) (.seq (.region e2h) .ret))),[.t 4]⟩
def p27:Pers:=⟨5,[19],27,[]⟩
def e2t(e:b7):Reg:=xA (wH 63 [(.int .i64 0),(.int .i64 0),(.int .i64 0),(.int .i64 0),(.int .i64 0)]) fun a=>xC (e.upd 2 a)
def e2a(e:b7):Reg:=xA (wB (e 0)) fun a=>xA (wJ a) fun b=>xA (wC 16 b) fun c=>xA (wA (some 5) c) fun d=>xA (wH 63 [(.int .i64 0),(.int .i64 0),(.int .i64 0),(.int .i64 0),(.int .i64 0)]) fun f=>xA (wF 5 f d) fun _=>xC (e.upd 3 f)
def c7K(e:b7)(a:Value):Reg:=xA (wC 4 (e 3)) fun b=>xD fun h13=>xA (wF 1 b a) fun _=>xC e
def c6X(e:b7)(h4:Heap)(a b:Value):Reg:=xA (wC 15 b) fun c=>xA (wA none c) fun d=>xE none (some h4) (wA none c) d<|xD fun h9=>xA (wD 50 [d]) fun f=>xA (wC 3 (e 3)) fun g=>xD fun h11=>xA (wF 1 g a) fun _=>c7K e f
def e1S(e:b7):Reg:=xA (wB (e 0)) fun a=>xA (wJ a) fun b=>xA (wC 13 b) fun c=>xA (wA none c) fun d=>xD fun h4=>xA (wD 49 [d]) fun f=>xA (wB (e 0)) fun g=>xA (wJ g) fun i=>c6X e h4 f i
def e1f(e:b7):Reg:=xA (wA (some 5) (e 3)) fun a=>xA (wF 5 (e 2) a) fun _=>xC e
def c28:CFn:=⟨(.seq (.region e2t) (.seq (.region e2a) (.seq (.region e1S) (.seq (.region e1f) .ret)))),[.c 2 (some 5)]⟩
def p28:Pers:=⟨4,[],21,[]⟩
def d8S(e:b7):Reg:=xA (wN 23 (e 0)) fun a=>xA (wH 34 [(.int .i64 0),(.int .i64 0),(.int .i64 0),(.int .i64 0),(.int .i64 0),(.int .i64 0),(.int .i64 0),(.int .i64 0),(.bool false)]) fun b=>xC ((e.upd 1 a).upd 2 b)
def d2p(e:b7):Reg:=xA (wC 0 (e 1)) fun a=>xA (wA none a) fun b=>xA (wE .and b (.int .i64 31)) fun c=>xA (wE .add c (.int .i64 1)) fun d=>xA (wB d) fun f=>xC (e.upd 3 f)
def d7H(e:b7):Reg:=xA (wC 3 (e 1)) fun a=>xA (wA none a) fun b=>xA (wE .and b (.int .i64 7)) fun c=>xA (wE .add c (.int .i64 1)) fun d=>xA (wB d) fun f=>xC (e.upd 4 f)
def a9g(e:b7)(a b c d f g i:Value):Reg:=xA (wE .and i (.int .i64 15)) fun j=>xA (wE .add j (.int .i64 1)) fun k=>xA (wC 7 (e 1)) fun m=>xA (wA none m) fun n=>xA (wE .and n (.int .i64 7)) fun o=>xA (wE .add o (.int .i64 1)) fun p=>xA (wM [(.int .i64 0),(.int .i64 0),(.int .i64 0),(.int .i64 0),(.int .i64 0),(.int .i64 0),(.int .i64 0),(.int .i64 0),(.bool false)] [(0,1,a),(1,1,b),(2,1,c),(3,1,d),(4,1,f),(5,1,g),(6,1,k),(7,1,p)]) fun q=>xA (wH 34 [(.int .i64 0),(.int .i64 0),(.int .i64 0),(.int .i64 0),(.int .i64 0),(.int .i64 0),(.int .i64 0),(.int .i64 0),(.bool false)]) fun r=>xD fun h32=>xA (wF 9 r q) fun _=>xC (e.upd 5 r)
def a9y(e:b7)(a b c d f:Value):Reg:=xA (wE .and f (.int .i64 7)) fun g=>xA (wE .add g (.int .i64 1)) fun i=>xA (wC 5 (e 1)) fun j=>xA (wA none j) fun k=>xA (wE .and k (.int .i64 3)) fun m=>xA (wE .add m (.int .i64 1)) fun n=>xA (wC 6 (e 1)) fun o=>xA (wA none o) fun p=>a9g e a b c d i n p
def a9z(e:b7)(a b c:Value):Reg:=xA (wA none c) fun d=>xA (wE .and d (.int .i64 31)) fun f=>xA (wB (e 3)) fun g=>xA (wE .rem f g) fun i=>xA (wE .add i (.int .i64 1)) fun j=>xA (wB (e 4)) fun k=>xA (wC 4 (e 1)) fun m=>xA (wA none m) fun n=>a9y e a b j k n
def d4I(e:b7):Reg:=xA (wB (e 3)) fun a=>xA (wC 1 (e 1)) fun b=>xA (wA none b) fun c=>xA (wE .and c (.int .i64 31)) fun d=>xA (wE .add d (.int .i64 1)) fun f=>xA (wB (e 4)) fun g=>xA (wE .mul f g) fun i=>xA (wC 2 (e 1)) fun j=>a9z e a i j
def d2f(e:b7):Reg:=xA (wC 8 (e 1)) fun a=>xA (wA none a) fun b=>xA (wB b) fun c=>xB c true (wB (e 4)) fun d=>xB c true (wE .gtr d (.int .i64 1)) fun f=>xA (wK c f (.bool false)) fun g=>xA (wC 8 (e 5)) fun i=>xA (wF 1 i g) fun _=>xC e
def c9F(e:b7):Reg:=xA (wA (some 9) (e 5)) fun a=>xA (wF 9 (e 2) a) fun _=>xC e
def R30:=an (ro d8S.eq_1)<|an (ro d2p.eq_1)<|an (ro d7H.eq_1)<|an (ro7 a9g.eq_1)<|an (ro5 a9y.eq_1)<|an (W3 a9z.eq_1)<|an (ro d4I.eq_1)<|an (ro d2f.eq_1)<|ro c9F.eq_1
def c30:CFn:=⟨(.seq (.region d8S) (.seq (.region d2p) (.seq (.region d7H) (.seq (.region d4I) (.seq (.region d2f) (.seq (.region c9F) .ret)))))),[.c 2 (some 9)]⟩
def p30:Pers:=⟨6,[],53,[]⟩
def d5h(e:b7):Reg:=xA (wN 30 (e 0)) fun a=>xA (wB (.bool false)) fun b=>xC ((e.upd 1 a).upd 2 b)
def a9s(e:b7)(a b:Value):Reg:=xA (wK a (.bool true) b) fun c=>xA (wB c) fun d=>xB d false (wC 2 (e 1)) fun f=>xB d false (wA none f) fun g=>xB d false (wE .gtr g (.int .i64 65536)) fun i=>xA (wK d (.bool true) i) fun j=>xC (e.upd 26 j)
def b0E(e:b7)(a b:Value):Reg:=xB a false (wD 54 [b,(.int .i64 8)]) fun c=>xB a false (wP .not c) fun d=>xA (wK a (.bool true) d) fun f=>xA (wB f) fun g=>xB g false (wC 0 (e 1)) fun i=>xB g false (wA none i) fun j=>xB g false (wD 54 [j,(.int .i64 4294967296)]) fun k=>xB g false (wP .not k) fun m=>a9s e g m
def d5M(e:b7):Reg:=xA (wC 1 (e 1)) fun a=>xA (wA none a) fun b=>xA (wD 54 [b,(.int .i64 16)]) fun c=>xA (wP .not c) fun d=>xA (wB d) fun f=>xB f false (wC 3 (e 1)) fun g=>xB f false (wA none g) fun i=>xB f false (wL i) fun j=>b0E e f j
def d1P(e:b7):Reg:=xA (wB (.bool false)) fun a=>xC (e.upd 2 a)
def d4y(e:b7):Reg:=xA (wC 3 (e 1)) fun a=>xA (wA none a) fun b=>xA (wL b) fun c=>xA (wB (.int .i64 0)) fun d=>xC (((e.upd 28 b).upd 29 c).upd 30 d)
def c8A(e:b7):Reg:=xA (wE .lss (e 30) (e 29)) fun a=>xC (e.upd 31 a)
def d7a(e:b7):Reg:=xA (wI 9 (e 28) (e 30)) fun a=>xA (wA (some 9) a) fun b=>xA (wH 34 [(.int .i64 0),(.int .i64 0),(.int .i64 0),(.int .i64 0),(.int .i64 0),(.int .i64 0),(.int .i64 0),(.int .i64 0),(.bool false)]) fun c=>xA (wF 9 c b) fun _=>xC (e.upd 4 c)
def d3H(e:b7):Reg:=xA (wA (some 9) (e 4)) fun a=>xA (wD 55 [a]) fun b=>xA (wP .not b) fun c=>xC (e.upd 36 c)
def d5g(e:b7):Reg:=xA (wB (.bool false)) fun a=>xC (e.upd 2 a)
def d3R(e:b7):Reg:=xA (wE .add (e 30) (.int .i64 1)) fun a=>xA (wB a) fun b=>xC (e.upd 30 b)
def a6D:CC:=(.seq (.region c8A) (.seq (.cond (fun e=>e 31) .skip (.exit 0)) (.seq (.block 1 (.seq (.region d7a) (.seq (.region d3H) (.cond (fun e=>e 36) (.seq (.region d5g) .ret) .skip)))) (.region d3R))))
def a8D(e:b7)(a:Value):Reg:=xB a true (wA (some 4) (e 1)) fun b=>xD fun h7=>xB a true (wD 57 [b]) fun c=>xB a true (wC 0 (e 1)) fun d=>xB a true (wA none d) fun f=>xE (some (a,true)) (some h7) (.load none d) f<|xB a true (wE .leq c f) fun g=>xA (wK a g (.bool false)) fun i=>xA (wB i) fun j=>xC (e.upd 2 j)
def d4R(e:b7):Reg:=xA (wC 2 (e 1)) fun a=>xA (wA none a) fun b=>xA (wA (some 4) (e 1)) fun c=>xD fun h3=>xA (wD 56 [c]) fun d=>xE none none (wA none a) b<|xA (wE .geq b d) fun f=>xA (wB f) fun g=>a8D e g
def R31:=an (ro d5h.eq_1)<|an (O5 a9s.eq_1)<|an (O5 b0E.eq_1)<|an (ro d5M.eq_1)<|an (ro d1P.eq_1)<|an (ro d4y.eq_1)<|an (ro c8A.eq_1)<|an (ro d7a.eq_1)<|an (ro d3H.eq_1)<|an (ro d5g.eq_1)<|an (ro d3R.eq_1)<|an (ro1 a8D.eq_1)<|ro d4R.eq_1
def c31:CFn:=⟨(.seq (.region d5h) (.seq (.seq (.region d5M) (.cond (fun e=>e 26) (.seq (.region d1P) .ret) .skip)) (.seq (.seq (.region d4y) (.block 0 (.loop a6D))) (.seq (.region d4R) .ret)))),[.t 2]⟩
def p31:Pers:=⟨5,[26,28,29,30,31,36],50,[]⟩
def d1H(e:b7):Reg:=xA (wB (e 0)) fun a=>xA (wB (e 0)) fun b=>xA (wJ a) fun c=>xA (wC 8 c) fun d=>xA (wF 1 d (.slice none 0 0)) fun _=>xA (wJ b) fun f=>xA (wC 9 f) fun g=>xA (wF 1 g (.slice none 0 0)) fun _=>xC e
def d1f(e:b7):Reg:=xA (wB (e 0)) fun a=>xA (wJ a) fun b=>xA (wC 4 b) fun c=>xA (wC 1 c) fun d=>xA (wA none d) fun f=>xA (wB (.int .i64 0)) fun g=>xC ((e.upd 17 f).upd 18 g)
def d3z(e:b7):Reg:=xA (wE .lss (e 18) (e 17)) fun a=>xC (e.upd 19 a)
def b0f(e:b7)(a b c d f:Value):Reg:=xD fun h16=>xA (wD 58 [d,f]) fun g=>xE none none (wA none b) c<|xA (.buildSlice 110 1 [(.pointer none)] [(0,1,g)]) fun i=>xD fun h18=>xA (.append 110 1 8 c i) fun j=>xA (wJ a) fun k=>xA (wC 8 k) fun m=>xD fun h21=>xA (wF 1 m j) fun _=>xC e
def a9e(e:b7)(a b c d:Value):Reg:=xA (wC 3 d) fun f=>xA (wA none f) fun g=>xA (wL g) fun i=>xA (wB (e 0)) fun j=>xA (wJ j) fun k=>xA (wC 4 k) fun m=>xA (wC 2 m) fun n=>xA (wA none n) fun o=>b0f e a b c i o
def d7W(e:b7):Reg:=xA (wB (e 0)) fun a=>xA (wB (e 0)) fun b=>xA (wJ b) fun c=>xA (wC 8 c) fun d=>xA (wA none d) fun f=>xA (wB (e 0)) fun g=>xA (wJ g) fun i=>xA (wC 4 i) fun j=>a9e e a d f j
def d0T(e:b7):Reg:=xA (wE .add (e 18) (.int .i64 1)) fun a=>xA (wB a) fun b=>xC (e.upd 18 b)
def b2a:CC:=(.seq (.region d3z) (.seq (.cond (fun e=>e 19) .skip (.exit 0)) (.seq (.block 1 (.region d7W)) (.region d0T))))
def d0g(e:b7):Reg:=xA (wB (e 0)) fun a=>xA (wJ a) fun b=>xA (wC 4 b) fun c=>xA (wC 3 c) fun d=>xA (wA none d) fun f=>xA (wL f) fun g=>xA (wB (.int .i64 0)) fun i=>xC (((e.upd 46 f).upd 47 g).upd 48 i)
def d3j(e:b7):Reg:=xA (wE .lss (e 48) (e 47)) fun a=>xC (e.upd 49 a)
def d2u(e:b7):Reg:=xA (wB (e 48)) fun a=>xA (wI 9 (e 46) (e 48)) fun b=>xA (wA (some 9) b) fun c=>xA (wH 34 [(.int .i64 0),(.int .i64 0),(.int .i64 0),(.int .i64 0),(.int .i64 0),(.int .i64 0),(.int .i64 0),(.int .i64 0),(.bool false)]) fun d=>xA (wB a) fun f=>xA (wF 9 d c) fun _=>xC ((e.upd 5 d).upd 4 f)
def d5k(e:b7):Reg:=xA (wC 5 (e 5)) fun a=>xA (wA none a) fun b=>xA (wE .add b (.int .i64 1)) fun c=>xA (wE .mul (.int .i64 3) c) fun d=>xA (wB d) fun f=>xC (e.upd 6 f)
def a8T(e:b7)(a b c:Value):Reg:=xA (.buildSlice 94 1 [(.pointer none)] [(0,1,c)]) fun d=>xD fun h12=>xA (.append 94 1 8 b d) fun f=>xA (wJ a) fun g=>xA (wC 9 g) fun i=>xD fun h15=>xA (wF 1 i f) fun _=>xC e
def a9P(e:b7)(a b c d f g:Value):Reg:=xA (wB (e 6)) fun i=>xD fun h9=>xA (wD 60 [f,g,i]) fun j=>xE none none (wA (some 9) (e 5)) d<|xE none none (wA none b) c<|xD fun h10=>xA (wD 59 [d,j]) fun k=>xE none none (wA none b) c<|a8T e a c k
def d7w(e:b7):Reg:=xA (wB (e 0)) fun a=>xA (wB (e 0)) fun b=>xA (wJ b) fun c=>xA (wC 9 c) fun d=>xA (wA none d) fun f=>xA (wA (some 9) (e 5)) fun g=>xA (wB (e 1)) fun i=>xA (wB (e 4)) fun j=>a9P e a d f g i j
def c5N(e:b7):Reg:=xA (wE .add (e 48) (.int .i64 1)) fun a=>xA (wB a) fun b=>xC (e.upd 48 b)
def b1h:CC:=(.seq (.region d3j) (.seq (.cond (fun e=>e 49) .skip (.exit 2)) (.seq (.block 3 (.seq (.region d2u) (.seq (.region d5k) (.region d7w)))) (.region c5N))))
def R32:=an (ro d1H.eq_1)<|an (ro d1f.eq_1)<|an (ro d3z.eq_1)<|an (ro5 b0f.eq_1)<|an (ro4 a9e.eq_1)<|an (ro d7W.eq_1)<|an (ro d0T.eq_1)<|an (ro d0g.eq_1)<|an (ro d3j.eq_1)<|an (ro d2u.eq_1)<|an (ro d5k.eq_1)<|an (W3 a8T.eq_1)<|an (ro6 a9P.eq_1)<|an (ro d7w.eq_1)<|ro c5N.eq_1
def c32:CFn:=⟨(.seq (.region d1H) (.seq (.seq (.region d1f) (.block 0 (.loop b2a))) (.seq (.region d0g) (.block 2 (.loop b1h))))),[]⟩
def p32:Pers:=⟨7,[17,18,19,46,47,48,49],73,[]⟩
def d4q(e:b7):Reg:=xA (wB (.int .i64 0)) fun a=>xC (e.upd 4 a)
def d0X(e:b7):Reg:=xA (wB (e 0)) fun a=>xA (wB (e 0)) fun b=>xA (wJ b) fun c=>xA (wC 0 c) fun d=>xA (wA none d) fun f=>xA (wB (e 1)) fun g=>xA (.minmax true [f,g,(.int .i64 0)]) fun i=>xA (wJ a) fun j=>xA (wC 0 j) fun k=>xA (wF 1 k i) fun _=>xC e
def c9e(e:b7):Reg:=xA (wB (e 0)) fun a=>xA (wJ a) fun b=>xA (wC 3 b) fun c=>xA (wA none c) fun d=>xA (wP .not d) fun f=>xC (e.upd 18 f)
def a9D(e:b7)(a b c:Value):Reg:=xA (wF 1 c b) fun _=>xA (wJ a) fun d=>xA (wC 3 d) fun f=>xA (wF 1 f (.bool true)) fun _=>xC e
def c9d(e:b7):Reg:=xA (wB (e 0)) fun a=>xA (wB (e 0)) fun b=>xA (wB (e 0)) fun c=>xA (wJ c) fun d=>xA (wC 0 d) fun f=>xA (wA none f) fun g=>xA (wJ a) fun i=>xA (wC 1 i) fun j=>a9D e b g j
def d7A(e:b7):Reg:=xA (wB (e 0)) fun a=>xA (wJ a) fun b=>xA (wC 0 b) fun c=>xA (wA none c) fun d=>xA (wB d) fun f=>xC (e.upd 4 f)
def R34:=an (ro d4q.eq_1)<|an (ro d0X.eq_1)<|an (ro c9e.eq_1)<|an (W3 a9D.eq_1)<|an (ro c9d.eq_1)<|ro d7A.eq_1
def c34:CFn:=⟨(.seq (.region d4q) (.seq (.region d0X) (.seq (.seq (.region c9e) (.cond (fun e=>e 18) (.region c9d) .skip)) (.seq (.region d7A) .ret)))),[.t 4]⟩
def p34:Pers:=⟨5,[18],33,[]⟩
def c8B(e:b7):Reg:=xA (wA none (e 0)) fun a=>xA (wJ a) fun b=>xA (wC 10 b) fun c=>xA (wF 1 c (.slice none 0 0)) fun _=>xC e
def R35:=ro c8B.eq_1
def c35:CFn:=⟨(.region c8B),[]⟩
def p35:Pers:=⟨0,[0],4,[]⟩
def d6v(e:b7):Reg:=xA (wB (.bool false)) fun a=>xC (e.upd 2 a)
def c9J(e:b7):Reg:=xA (wB (e 0)) fun a=>xA (.eqK .ptr false a (.pointer none)) fun b=>xA (wB b) fun c=>xB c false (wB (e 0)) fun d=>xB c false (wJ d) fun f=>xB c false (wC 80 f) fun g=>xB c false (wA none g) fun i=>xA (wK c (.bool true) i) fun j=>xC (e.upd 10 j)
def d7L(e:b7):Reg:=xA (wB (.bool false)) fun a=>xC (e.upd 2 a)
def a9v(e:b7)(a b c:Value):Reg:=xA (wC 0 c) fun d=>xA (wF 78 d b) fun _=>xA (wJ a) fun f=>xA (wC 80 f) fun g=>xA (wF 1 g (.bool true)) fun _=>xC e
def d1S(e:b7):Reg:=xA (wB (e 0)) fun a=>xA (wB (e 0)) fun b=>xA (wB (e 0)) fun c=>xA (wJ c) fun d=>xA (wC 79 d) fun f=>xA (wA none f) fun g=>xA (wD 51 [g]) fun i=>xA (wJ a) fun j=>a9v e b i j
def d5u(e:b7):Reg:=xA (wB (e 0)) fun a=>xA (wJ a) fun b=>xA (wC 78 b) fun c=>xA (wA none c) fun d=>xA (wD 61 [d]) fun f=>xC e
def d6W(e:b7):Reg:=xA (wB (.bool true)) fun a=>xC (e.upd 2 a)
def R36:=an (ro d6v.eq_1)<|an (ro c9J.eq_1)<|an (ro d7L.eq_1)<|an (W3 a9v.eq_1)<|an (ro d1S.eq_1)<|an (ro d5u.eq_1)<|ro d6W.eq_1
def c36:CFn:=⟨(.seq (.region d6v) (.seq (.seq (.region c9J) (.cond (fun e=>e 10) (.seq (.region d7L) .ret) .skip)) (.seq (.region d1S) (.seq (.region d5u) (.seq (.region d6W) .ret))))),[.t 2]⟩
def p36:Pers:=⟨3,[10],27,[]⟩
def d2g(e:b7):Reg:=xA (wB (.bool false)) fun a=>xC (e.upd 2 a)
def c9B(e:b7):Reg:=xA (wB (e 0)) fun a=>xA (.eqK .ptr true a (.pointer none)) fun b=>xA (wB b) fun c=>xB c true (wB (e 0)) fun d=>xB c true (wJ d) fun f=>xB c true (wC 80 f) fun g=>xB c true (wA none g) fun i=>xA (wK c i (.bool false)) fun j=>xA (wB j) fun k=>xC (e.upd 2 k)
def R38:=an (ro d2g.eq_1)<|ro c9B.eq_1
def c38:CFn:=⟨(.seq (.region d2g) (.seq (.region c9B) .ret)),[.t 2]⟩
def p38:Pers:=⟨3,[],11,[]⟩
def c8x(e:b7):Reg:=xA (wB (.int .i64 0)) fun a=>xC (e.upd 6 a)
def d0D(e:b7):Reg:=xA (wB (e 0)) fun a=>xA (wD 38 [a]) fun b=>xA (wP .not b) fun c=>xC (e.upd 16 c)
def d1r(e:b7):Reg:=xA (wB (.int .i64 0)) fun a=>xC (e.upd 6 a)
def d4A(e:b7):Reg:=xA (wB (e 1)) fun a=>xA (wL a) fun b=>xA (wB (.int .i64 0)) fun c=>xC (((e.upd 17 a).upd 18 b).upd 19 c)
def d1B(e:b7):Reg:=xA (wE .lss (e 19) (e 18)) fun a=>xC (e.upd 20 a)
def c7U(e:b7):Reg:=xA (wB (e 19)) fun a=>xA (wI 1 (e 17) (e 19)) fun b=>xA (wA none b) fun c=>xA (wB a) fun d=>xA (wB c) fun f=>xC ((e.upd 7 d).upd 8 f)
def d4b(e:b7):Reg:=xA (wB (e 0)) fun a=>xA (wJ a) fun b=>xA (wC 0 b) fun c=>xA (wD 62 [c]) fun d=>xA (wE .neq d (.int .i64 0)) fun f=>xC (e.upd 28 f)
def d3e(e:b7):Reg:=xA (wB (e 7)) fun a=>xA (wB a) fun b=>xC (e.upd 6 b)
def a8H(e:b7)(a b c:Value):Reg:=xA (wG a 2) fun d=>xA (wH 61 [(.int .i64 0),(.int .i64 0),(.int .u32 0),(.string ⟨#[]⟩),(.int .i64 0)]) fun f=>xA (wF 5 f b) fun _=>xA (wB c) fun g=>xA (wB d) fun i=>xC (((e.upd 9 f).upd 10 g).upd 11 i)
def d3W(e:b7):Reg:=xA (wB (e 0)) fun a=>xA (wJ a) fun b=>xA (wC 0 b) fun c=>xA (wB (e 8)) fun d=>xA (wD 52 [c,d]) fun f=>xA (wB f) fun g=>xA (wG g 0) fun i=>xA (wG g 1) fun j=>a8H e g i j
def d5l(e:b7):Reg:=xA (wB (e 11)) fun a=>xA (wE .neq a (.int .i64 0)) fun b=>xA (wB b) fun c=>xC (e.upd 39 c)
def c2f(e:b7):Reg:=xA (wB (e 0)) fun a=>xA (wJ a) fun b=>xA (wC 78 b) fun c=>xA (wA none c) fun d=>xA (wD 63 [d]) fun f=>xA (wE .lss f (.int .i64 6)) fun g=>xC (e.upd 47 g)
def c2A(e:b7):Reg:=xA (wB (e 7)) fun a=>xA (wB a) fun b=>xC (e.upd 6 b)
def b9a(e:b7):Reg:=xA (wB (e 0)) fun a=>xA (wJ a) fun b=>xA (wC 78 b) fun c=>xA (wA none c) fun d=>xA (wB (e 11)) fun f=>xD fun h5=>xA (wD 65 [f]) fun g=>xE none none (wA none c) d<|xD fun h6=>xA (wD 64 [d,g]) fun i=>xC e
def b7c(e:b7):Reg:=xA (wB (e 10)) fun a=>xA (wB a) fun b=>xC (e.upd 56 b)
def a4P(e:b7)(h4:Heap)(a b c:Value):Reg:=xE none (some h4) (wA (some 5) (e 9)) c<|xD fun h7=>xA (.callv (a1Z [(35,118)] b) [c]) fun d=>xA (wE .lss a d) fun f=>xC (e.upd 66 f)
def b8g(e:b7):Reg:=xA (wB (e 0)) fun a=>xA (wJ a) fun b=>xA (wC 78 b) fun c=>xA (wA none c) fun d=>xD fun h4=>xA (wD 63 [d]) fun f=>xA (wB (e 2)) fun g=>xA (wA (some 5) (e 9)) fun i=>a4P e h4 f g i
def c0K(e:b7):Reg:=xA (wB (e 7)) fun a=>xA (wB a) fun b=>xC (e.upd 6 b)
def a7M(e:b7)(a b c:Value):Reg:=xE none none (wA none a) b<|xD fun h7=>xA (wD 64 [b,c]) fun d=>xC e
def c4P(e:b7):Reg:=xA (wB (e 0)) fun a=>xA (wJ a) fun b=>xA (wC 78 b) fun c=>xA (wA none c) fun d=>xA (wB (e 2)) fun f=>xA (wA (some 5) (e 9)) fun g=>xD fun h6=>xA (.callv (a1Z [(35,117)] f) [g]) fun i=>a7M e c d i
def c3G(e:b7):Reg:=xA (wB (e 2)) fun a=>xA (.assertI 291 [] .nilIface a) fun b=>xA (wB b) fun c=>xA (wG c 0) fun d=>xA (wG c 1) fun f=>xA (wB d) fun g=>xA (wB f) fun i=>xC ((e.upd 12 g).upd 13 i)
def b9h(e:b7):Reg:=xA (wB (e 13)) fun a=>xC (e.upd 81 a)
def c1j(e:b7):Reg:=xA (wB (e 12)) fun a=>xA (wA (some 5) (e 9)) fun b=>xA (.callv (a1Z [] a) [b]) fun c=>xC e
def c0y(e:b7):Reg:=xA (wB (e 0)) fun a=>xA (wJ a) fun b=>xA (wC 0 b) fun c=>xA (wB (e 8)) fun d=>xA (wD 53 [c,d]) fun f=>xC e
def c2h(e:b7):Reg:=xA (wE .add (e 19) (.int .i64 1)) fun a=>xA (wB a) fun b=>xC (e.upd 19 b)
def a5A:CC:=(.seq (.region d1B) (.seq (.cond (fun e=>e 20) .skip (.exit 0)) (.seq (.block 1 (.seq (.region c7U) (.seq (.seq (.region d4b) (.cond (fun e=>e 28) (.seq (.region d3e) .ret) .skip)) (.seq (.region d3W) (.seq (.block 2 (.seq (.region d5l) (.cond (fun e=>e 39) (.seq (.seq (.region c2f) (.cond (fun e=>e 47) (.seq (.region c2A) .ret) .skip)) (.region b9a)) (.seq (.region b7c) (.cond (fun e=>e 56) (.seq (.seq (.region b8g) (.cond (fun e=>e 66) (.seq (.region c0K) .ret) .skip)) (.seq (.region c4P) (.seq (.region c3G) (.seq (.region b9h) (.cond (fun e=>e 81) (.region c1j) .skip))))) .skip))))) (.region c0y)))))) (.region c2h))))
def c1p(e:b7):Reg:=xA (wB (e 1)) fun a=>xA (wL a) fun b=>xA (wB b) fun c=>xC (e.upd 6 c)
def R39:=an (ro c8x.eq_1)<|an (ro d0D.eq_1)<|an (ro d1r.eq_1)<|an (ro d4A.eq_1)<|an (ro d1B.eq_1)<|an (ro c7U.eq_1)<|an (ro d4b.eq_1)<|an (ro d3e.eq_1)<|an (W3 a8H.eq_1)<|an (ro d3W.eq_1)<|an (ro d5l.eq_1)<|an (ro c2f.eq_1)<|an (ro c2A.eq_1)<|an (ro b9a.eq_1)<|an (ro b7c.eq_1)<|an (ro4 a4P.eq_1)<|an (ro b8g.eq_1)<|an (ro c0K.eq_1)<|an (W3 a7M.eq_1)<|an (ro c4P.eq_1)<|an (ro c3G.eq_1)<|an (ro b9h.eq_1)<|an (ro c1j.eq_1)<|an (ro c0y.eq_1)<|an (ro c2h.eq_1)<|ro c1p.eq_1
def c39:CFn:=⟨(.seq (.region c8x) (.seq (.seq (.region d0D) (.cond (fun e=>e 16) (.seq (.region d1r) .ret) .skip)) (.seq (.seq (.region d4A) (.block 0 (.loop a5A))) (.seq (.region c1p) .ret)))),[.t 6]⟩
def p39:Pers:=⟨14,[16,17,18,19,20,28,39,47,56,66,81],93,[]⟩
def d4w(e:b7):Reg:=xA (wB (.slice none 0 0)) fun a=>xC (e.upd 4 a)
def c8a(e:b7):Reg:=xA (wB (e 0)) fun a=>xA (wD 38 [a]) fun b=>xA (wP .not b) fun c=>xC (e.upd 7 c)
def d5w(e:b7):Reg:=xA (wB (.slice none 0 0)) fun a=>xC (e.upd 4 a)
def d5E(e:b7):Reg:=xA (wB (e 0)) fun a=>xA (wJ a) fun b=>xA (wC 78 b) fun c=>xA (wA none c) fun d=>xA (wB (e 1)) fun f=>xA (wD 66 [d,f]) fun g=>xA (wB g) fun i=>xC (e.upd 4 i)
def R40:=an (ro d4w.eq_1)<|an (ro c8a.eq_1)<|an (ro d5w.eq_1)<|ro d5E.eq_1
def c40:CFn:=⟨(.seq (.region d4w) (.seq (.seq (.region c8a) (.cond (fun e=>e 7) (.seq (.region d5w) .ret) .skip)) (.seq (.region d5E) .ret))),[.t 4]⟩
def p40:Pers:=⟨5,[7],14,[]⟩
def c9V(e:b7):Reg:=xA (wN 34 (e 0)) fun a=>xA (wB (.int .i64 0)) fun b=>xC ((e.upd 1 a).upd 2 b)
def d5I(e:b7):Reg:=xA (wC 0 (e 1)) fun a=>xA (wA none a) fun b=>xA (wE .add b (.int .i64 1)) fun c=>xA (wC 2 (e 1)) fun d=>xA (wA none d) fun f=>xA (wE .sub c f) fun g=>xA (wB g) fun i=>xC (e.upd 3 i)
def d5K(e:b7):Reg:=xA (wC 1 (e 1)) fun a=>xA (wA none a) fun b=>xA (wB (e 3)) fun c=>xA (wE .quo b c) fun d=>xA (wB d) fun f=>xC (e.upd 4 f)
def d1n(e:b7):Reg:=xA (wB (e 4)) fun a=>xA (wB (e 3)) fun b=>xA (wE .mul a b) fun c=>xA (wC 1 (e 1)) fun d=>xA (wA none d) fun f=>xA (wE .lss c f) fun g=>xC (e.upd 20 g)
def d8Y(e:b7):Reg:=xA (wB (e 4)) fun a=>xA (wE .add a (.int .i64 1)) fun b=>xA (wB b) fun c=>xC (e.upd 4 c)
def d8g(e:b7):Reg:=xA (wB (e 4)) fun a=>xA (wB a) fun b=>xC (e.upd 2 b)
def R41:=an (ro c9V.eq_1)<|an (ro d5I.eq_1)<|an (ro d5K.eq_1)<|an (ro d1n.eq_1)<|an (ro d8Y.eq_1)<|ro d8g.eq_1
def c41:CFn:=⟨(.seq (.region c9V) (.seq (.region d5I) (.seq (.region d5K) (.seq (.seq (.region d1n) (.cond (fun e=>e 20) (.region d8Y) .skip)) (.seq (.region d8g) .ret))))),[.t 2]⟩
def p41:Pers:=⟨5,[20],24,[]⟩
def d0h(e:b7):Reg:=xA (wN 34 (e 1)) fun a=>xA (wB (.bool false)) fun b=>xC ((e.upd 4 a).upd 6 b)
def d5i(e:b7):Reg:=xA (wC 2 (e 4)) fun a=>xA (wA none a) fun b=>xA (wE .sub b (.int .i64 1)) fun c=>xA (wA (some 9) (e 4)) fun d=>xD fun h4=>xA (wD 41 [d]) fun f=>xE none none (wA none a) b<|xA (wE .mul c f) fun g=>xA (wB g) fun i=>xC (e.upd 7 i)
def d7p(e:b7):Reg:=xA (wB (e 0)) fun a=>xA (wJ a) fun b=>xA (wC 0 b) fun c=>xA (wA none c) fun d=>xA (wB d) fun f=>xC (e.upd 8 f)
def c8b(e:b7):Reg:=xA (wB (e 8)) fun a=>xA (wB (e 2)) fun b=>xA (wE .lss a b) fun c=>xC (e.upd 21 c)
def d1Y(e:b7):Reg:=xA (wB (e 2)) fun a=>xA (wB a) fun b=>xC (e.upd 8 b)
def d6M(e:b7):Reg:=xA (wB (e 8)) fun a=>xA (wB (e 2)) fun b=>xA (wB (e 7)) fun c=>xA (wE .add b c) fun d=>xA (wE .gtr a d) fun f=>xC (e.upd 27 f)
def d2A(e:b7):Reg:=xA (wB (.bool false)) fun a=>xC (e.upd 6 a)
def d8O(e:b7):Reg:=xA (wB (e 0)) fun a=>xA (wB (e 8)) fun b=>xA (wA (some 9) (e 4)) fun c=>xA (wD 41 [c]) fun d=>xA (wE .add b d) fun f=>xA (wJ a) fun g=>xA (wC 0 g) fun i=>xA (wF 1 i f) fun _=>xC e
def d1s(e:b7):Reg:=xA (wB (.bool true)) fun a=>xC (e.upd 6 a)
def R42:=an (ro d0h.eq_1)<|an (ro d5i.eq_1)<|an (ro d7p.eq_1)<|an (ro c8b.eq_1)<|an (ro d1Y.eq_1)<|an (ro d6M.eq_1)<|an (ro d2A.eq_1)<|an (ro d8O.eq_1)<|ro d1s.eq_1
def c42:CFn:=⟨(.seq (.region d0h) (.seq (.region d5i) (.seq (.region d7p) (.seq (.seq (.region c8b) (.cond (fun e=>e 21) (.region d1Y) .skip)) (.seq (.seq (.region d6M) (.cond (fun e=>e 27) (.seq (.region d2A) .ret) .skip)) (.seq (.region d8O) (.seq (.region d1s) .ret))))))),[.t 6]⟩
def p42:Pers:=⟨9,[21,27],35,[]⟩
def d6S(e:b7):Reg:=xA (wN 52 (e 0)) fun a=>xA (wN 34 (e 1)) fun b=>xA (wB (.bool false)) fun c=>xC (((e.upd 3 a).upd 4 b).upd 6 c)
def d2J(e:b7):Reg:=xA (wB (e 2)) fun a=>xA (wC 1 (e 3)) fun b=>xA (wA none b) fun c=>xA (wE .sub a c) fun d=>xA (wC 1 (e 4)) fun f=>xA (wA none f) fun g=>xA (wE .lss d g) fun i=>xA (wB i) fun j=>xC (e.upd 6 j)
def R43:=an (ro d6S.eq_1)<|ro d2J.eq_1
def c43:CFn:=⟨(.seq (.region d6S) (.seq (.region d2J) .ret)),[.t 6]⟩
def p43:Pers:=⟨7,[],14,[]⟩
def d7S(e:b7):Reg:=xA (wB (.slice none 0 0)) fun a=>xC (e.upd 6 a)
def d6N(e:b7):Reg:=xA (wB (e 1)) fun a=>xA (wE .sub a (.int .i64 1)) fun b=>xA (wB b) fun c=>xC (e.upd 7 c)
def c9u(e:b7):Reg:=xA (wB (e 7)) fun a=>xA (wE .geq a (.int .i64 0)) fun b=>xC (e.upd 11 b)
def c8o(e:b7):Reg:=xA (wB (e 0)) fun a=>xA (wB (e 2)) fun b=>xA (wB (e 7)) fun c=>xA (wE .mul (.int .i64 8) c) fun d=>xA (wE .shr b d) fun f=>xA (wO .u8 f) fun g=>xA (.buildSlice 5 1 [(.int .u8 0)] [(0,1,g)]) fun i=>xA (.append 5 1 1 a i) fun j=>xA (wB j) fun k=>xC (e.upd 0 k)
def d8G(e:b7):Reg:=xA (wB (e 7)) fun a=>xA (wE .sub a (.int .i64 1)) fun b=>xA (wB b) fun c=>xC (e.upd 7 c)
def b1E:CC:=(.seq (.seq (.region c9u) (.cond (fun e=>e 11) .skip (.exit 0))) (.seq (.block 1 (.region c8o)) (.region d8G)))
def d8E(e:b7):Reg:=xA (wB (e 0)) fun a=>xA (wB a) fun b=>xC (e.upd 6 b)
def R44:=an (ro d7S.eq_1)<|an (ro d6N.eq_1)<|an (ro c9u.eq_1)<|an (ro c8o.eq_1)<|an (ro d8G.eq_1)<|ro d8E.eq_1
def c44:CFn:=⟨(.seq (.region d7S) (.seq (.seq (.region d6N) (.block 0 (.loop b1E))) (.seq (.region d8E) .ret))),[.t 6]⟩
def p44:Pers:=⟨8,[11],23,[]⟩
def c9o(e:b7):Reg:=xA (wB (.slice none 0 0)) fun a=>xC (e.upd 4 a)
def a8F(e:b7)(a b c:Value):Reg:=xA (.buildSlice 5 4 [(.int .u8 0)] [(0,1,a),(1,1,(.int .u8 1)),(2,1,b),(3,1,c)]) fun d=>xA (wB (e 1)) fun f=>xA (.append 5 1 1 d f) fun g=>xA (wB g) fun i=>xC (e.upd 4 i)
def d8N(e:b7):Reg:=xA (wB (e 0)) fun a=>xA (wB (e 1)) fun b=>xA (wL b) fun c=>xA (wE .shr c (.int .u64 8)) fun d=>xA (wO .u8 d) fun f=>xA (wB (e 1)) fun g=>xA (wL g) fun i=>xA (wO .u8 i) fun j=>a8F e a f j
def R45:=an (ro c9o.eq_1)<|an (W3 a8F.eq_1)<|ro d8N.eq_1
def c45:CFn:=⟨(.seq (.region c9o) (.seq (.region d8N) .ret)),[.t 4]⟩
def p45:Pers:=⟨5,[],16,[]⟩
def d0z(e:b7):Reg:=xA (wB (.int .u64 0)) fun a=>xC (e.upd 2 a)
def d0p(e:b7):Reg:=xA (wB (.int .u64 0)) fun a=>xC (e.upd 3 a)
def c9O(e:b7):Reg:=xA (wB (e 0)) fun a=>xA (wL a) fun b=>xA (wB (.int .i64 0)) fun c=>xC (((e.upd 6 a).upd 7 b).upd 8 c)
def d3m(e:b7):Reg:=xA (wE .lss (e 8) (e 7)) fun a=>xC (e.upd 9 a)
def d1m(e:b7):Reg:=xA (wI 1 (e 6) (e 8)) fun a=>xA (wA none a) fun b=>xA (wB b) fun c=>xC (e.upd 5 c)
def d8I(e:b7):Reg:=xA (wB (e 3)) fun a=>xA (wE .shl a (.int .u64 8)) fun b=>xA (wB (e 5)) fun c=>xA (wO .u64 c) fun d=>xA (wE .or b d) fun f=>xA (wB f) fun g=>xC (e.upd 3 g)
def d8Q(e:b7):Reg:=xA (wE .add (e 8) (.int .i64 1)) fun a=>xA (wB a) fun b=>xC (e.upd 8 b)
def b0R:CC:=(.seq (.region d3m) (.seq (.cond (fun e=>e 9) .skip (.exit 0)) (.seq (.block 1 (.seq (.region d1m) (.region d8I))) (.region d8Q))))
def d0H(e:b7):Reg:=xA (wB (e 3)) fun a=>xA (wB a) fun b=>xC (e.upd 2 b)
def R46:=an (ro d0z.eq_1)<|an (ro d0p.eq_1)<|an (ro c9O.eq_1)<|an (ro d3m.eq_1)<|an (ro d1m.eq_1)<|an (ro d8I.eq_1)<|an (ro d8Q.eq_1)<|ro d0H.eq_1
def c46:CFn:=⟨(.seq (.region d0z) (.seq (.region d0p) (.seq (.seq (.region c9O) (.block 0 (.loop b0R))) (.seq (.region d0H) .ret)))),[.t 2]⟩
def p46:Pers:=⟨6,[6,7,8,9],19,[]⟩
def d8K(e:b7):Reg:=xA (wN 39 (e 1)) fun a=>xA (wB (.bool false)) fun b=>xC ((e.upd 3 a).upd 4 b)
def a8Z(e:b7)(a:Value):Reg:=xB a true (wA none (e 3)) fun b=>xB a true (wI 1 b (.int .i64 0)) fun c=>xB a true (wA none c) fun d=>xB a true (wE .leq d (.int .u8 3)) fun f=>xA (wK a f (.bool false)) fun g=>xA (wB g) fun i=>xC (e.upd 6 i)
def a8n(e:b7)(a b:Value):Reg:=xA (wK a b (.bool false)) fun c=>xA (wB c) fun d=>xB d true (wA none (e 3)) fun f=>xB d true (wI 1 f (.int .i64 0)) fun g=>xB d true (wA none g) fun i=>xB d true (wE .geq i (.int .u8 1)) fun j=>xA (wK d j (.bool false)) fun k=>xA (wB k) fun m=>a8Z e m
def b0e(e:b7)(a b:Value):Reg:=xB a false (wC 0 b) fun c=>xB a false (wA none c) fun d=>xB a false (wE .eql d (.int .i64 2)) fun f=>xA (wK a (.bool true) f) fun g=>xA (wB g) fun i=>xB i true (wA none (e 3)) fun j=>xB i true (wL j) fun k=>xB i true (wE .eql k (.int .i64 17)) fun m=>a8n e i m
def c9K(e:b7):Reg:=xA (wB (e 0)) fun a=>xA (wJ a) fun b=>xA (wC 0 b) fun c=>xA (wA none c) fun d=>xA (wE .eql d (.int .i64 1)) fun f=>xA (wB f) fun g=>xB g false (wB (e 0)) fun i=>xB g false (wJ i) fun j=>b0e e g j
def b0y(e:b7)(a b c d f g i:Value):Reg:=xD fun h11=>xA (wD 46 [i]) fun j=>xE none none (wA none c) d<|xE none none (wA none (e 3)) b<|xA (wO .i64 j) fun k=>xA (wM [(.int .i64 0),(.int .i64 0),(.int .i64 0)] [(0,1,f),(1,1,g),(2,1,k)]) fun m=>xA (wJ a) fun n=>xA (wC 2 n) fun o=>xD fun h16=>xA (wF 3 o m) fun _=>xC e
def b0m(e:b7)(a b c d f g:Value)(h7:Heap):Reg:=xA (wD 46 [g]) fun i=>xE none none (wA none c) d<|xE none none (wA none (e 3)) b<|xA (wO .i64 i) fun j=>xA (wA none (e 3)) fun k=>xE none (some h7) (wA none (e 3)) k<|xA (.slice 5 1 k (some (.int .i64 9)) none) fun m=>xE none (some h7) (.slice 5 1 k (some (.int .i64 9)) none) m<|b0y e a b c d f j m
def d4i(e:b7):Reg:=xA (wB (e 0)) fun a=>xA (wA none (e 3)) fun b=>xA (wI 1 b (.int .i64 0)) fun c=>xA (wA none c) fun d=>xA (wO .i64 d) fun f=>xA (wA none (e 3)) fun g=>xA (.slice 5 1 g (some (.int .i64 1)) (some (.int .i64 9))) fun i=>xD fun h7=>b0m e a b c d f i h7
def a8O(e:b7)(a b:Value):Reg:=xB a true (wE .eql b (.int .i64 41)) fun c=>xA (wK a c (.bool false)) fun d=>xA (wB d) fun f=>xC (e.upd 52 f)
def d5X(e:b7):Reg:=xA (wB (e 0)) fun a=>xA (wJ a) fun b=>xA (wC 0 b) fun c=>xA (wA none c) fun d=>xA (wE .eql d (.int .i64 3)) fun f=>xA (wB f) fun g=>xB g true (wA none (e 3)) fun i=>xB g true (wL i) fun j=>a8O e g j
def d7l(e:b7):Reg:=xA (wB (e 0)) fun a=>xA (wA none (e 3)) fun b=>xA (wI 1 b (.int .i64 0)) fun c=>xA (wA none c) fun d=>xA (wO .i64 d) fun f=>xA (wJ a) fun g=>xA (wC 1 g) fun i=>xA (wF 1 i f) fun _=>xC e
def d5j(e:b7):Reg:=xA (.makeFunc 67 [] [(e 3)]) fun a=>xA (wB a) fun b=>xC (e.upd 5 b)
def b0r(e:b7)(a b c d f:Value):Reg:=xA (.callv f [(.int .i64 3)]) fun g=>xA (wB (e 5)) fun i=>xA (.callv i [(.int .i64 4)]) fun j=>xA (wM [(.int .i64 0),(.int .i64 0),(.int .i64 0),(.int .i64 0),(.int .i64 0)] [(0,1,b),(1,1,c),(2,1,d),(3,1,g),(4,1,j)]) fun k=>xA (wJ a) fun m=>xA (wC 5 m) fun n=>xA (wF 5 n k) fun _=>xC e
def c7Z(e:b7):Reg:=xA (wB (e 0)) fun a=>xA (wB (e 5)) fun b=>xA (.callv b [(.int .i64 0)]) fun c=>xA (wB (e 5)) fun d=>xA (.callv d [(.int .i64 1)]) fun f=>xA (wB (e 5)) fun g=>xA (.callv g [(.int .i64 2)]) fun i=>xA (wB (e 5)) fun j=>b0r e a c f i j
def a8r(e:b7)(a b:Value):Reg:=xB a true (wE .geq b (.int .i64 2)) fun c=>xA (wK a c (.bool false)) fun d=>xA (wB d) fun f=>xC (e.upd 85 f)
def d0n(e:b7):Reg:=xA (wB (e 0)) fun a=>xA (wJ a) fun b=>xA (wC 0 b) fun c=>xA (wA none c) fun d=>xA (wE .eql d (.int .i64 4)) fun f=>xA (wB f) fun g=>xB g true (wA none (e 3)) fun i=>xB g true (wL i) fun j=>a8r e g j
def c8S(e:b7):Reg:=xA (wB (e 0)) fun a=>xA (wA none (e 3)) fun b=>xA (wI 1 b (.int .i64 0)) fun c=>xA (wA none c) fun d=>xA (wO .i64 d) fun f=>xA (wJ a) fun g=>xA (wC 1 g) fun i=>xA (wF 1 i f) fun _=>xC e
def b7b(e:b7):Reg:=xA (wB (e 0)) fun a=>xA (wA none (e 3)) fun b=>xA (.slice 5 1 b (some (.int .i64 2)) none) fun c=>xA (wA none (e 3)) fun d=>xA (wI 1 d (.int .i64 1)) fun f=>xA (wA none f) fun g=>xA (wO .i64 g) fun i=>xD fun h7=>xA (wD 68 [a,c,i]) fun j=>xA (wB j) fun k=>xC (e.upd 4 k)
def a7m(e:b7)(a b:Value):Reg:=xB a true (wE .eql b (.int .i64 1)) fun c=>xA (wK a c (.bool false)) fun d=>xA (wB d) fun f=>xB f true (wA none (e 3)) fun g=>xB f true (wI 1 g (.int .i64 0)) fun i=>xB f true (wA none i) fun j=>xB f true (wE .gtr j (.int .u8 0)) fun k=>xA (wK f k (.bool false)) fun m=>xA (wB m) fun n=>xC (e.upd 111 n)
def c2y(e:b7):Reg:=xA (wB (e 0)) fun a=>xA (wJ a) fun b=>xA (wC 0 b) fun c=>xA (wA none c) fun d=>xA (wE .eql d (.int .i64 127)) fun f=>xA (wB f) fun g=>xB g true (wA none (e 3)) fun i=>xB g true (wL i) fun j=>a7m e g j
def b7F(e:b7):Reg:=xA (wB (e 0)) fun a=>xA (wA none (e 3)) fun b=>xA (wI 1 b (.int .i64 0)) fun c=>xA (wA none c) fun d=>xA (wO .i64 d) fun f=>xA (wJ a) fun g=>xA (wC 11 g) fun i=>xA (wF 1 i f) fun _=>xC e
def d7O(e:b7):Reg:=xA (wB (.bool false)) fun a=>xC (e.upd 4 a)
def c2I(e:b7):Reg:=xA (wB (.bool true)) fun a=>xC (e.upd 4 a)
def R47:=an (ro d8K.eq_1)<|an (ro1 a8Z.eq_1)<|an (O5 a8n.eq_1)<|an (O5 b0e.eq_1)<|an (ro c9K.eq_1)<|an (ro7 b0y.eq_1)<|an (ro7 b0m.eq_1)<|an (ro d4i.eq_1)<|an (O5 a8O.eq_1)<|an (ro d5X.eq_1)<|an (ro d7l.eq_1)<|an (ro d5j.eq_1)<|an (ro5 b0r.eq_1)<|an (ro c7Z.eq_1)<|an (O5 a8r.eq_1)<|an (ro d0n.eq_1)<|an (ro c8S.eq_1)<|an (ro b7b.eq_1)<|an (O5 a7m.eq_1)<|an (ro c2y.eq_1)<|an (ro b7F.eq_1)<|an (ro d7O.eq_1)<|ro c2I.eq_1
def c47:CFn:=⟨(.seq (.region d8K) (.seq (.block 0 (.seq (.region c9K) (.cond (fun e=>e 6) (.region d4i) (.seq (.region d5X) (.cond (fun e=>e 52) (.seq (.region d7l) (.seq (.region d5j) (.region c7Z))) (.seq (.region d0n) (.cond (fun e=>e 85) (.seq (.region c8S) (.seq (.region b7b) .ret)) (.seq (.region c2y) (.cond (fun e=>e 111) (.region b7F) (.seq (.region d7O) .ret)))))))))) (.seq (.region c2I) .ret))),[.t 4]⟩
def p47:Pers:=⟨6,[6,52,85,111],135,[]⟩
def c8Z(e:b7):Reg:=xA (wB (.int .i64 0)) fun a=>xC (e.upd 2 a)
def d8Z(e:b7):Reg:=xA (wB (e 0)) fun a=>xA (.eqK .ptr false a (.pointer none)) fun b=>xC (e.upd 4 b)
def d5m(e:b7):Reg:=xA (wB (.int .i64 0)) fun a=>xC (e.upd 2 a)
def d6m(e:b7):Reg:=xA (wB (e 0)) fun a=>xA (wJ a) fun b=>xA (wC 0 b) fun c=>xA (wA none c) fun d=>xA (wD 70 [d]) fun f=>xA (wB f) fun g=>xC (e.upd 2 g)
def R49:=an (ro c8Z.eq_1)<|an (ro d8Z.eq_1)<|an (ro d5m.eq_1)<|ro d6m.eq_1
def c49:CFn:=⟨(.seq (.region c8Z) (.seq (.seq (.region d8Z) (.cond (fun e=>e 4) (.seq (.region d5m) .ret) .skip)) (.seq (.region d6m) .ret))),[.t 2]⟩
def p49:Pers:=⟨3,[4],10,[]⟩
def e2o(e:b7):Reg:=xA (wB (.int .i64 0)) fun a=>xC (e.upd 2 a)
def e1j(e:b7):Reg:=xA (wB (e 0)) fun a=>xA (.eqK .ptr false a (.pointer none)) fun b=>xC (e.upd 4 b)
def e1K(e:b7):Reg:=xA (wB (.int .i64 0)) fun a=>xC (e.upd 2 a)
def e2x(e:b7):Reg:=xA (wB (e 0)) fun a=>xA (wJ a) fun b=>xA (wC 6 b) fun c=>xA (wA none c) fun d=>xA (wB d) fun f=>xC (e.upd 2 f)
def c50:CFn:=⟨(.seq (.region e2o) (.seq (.seq (.region e1j) (.cond (fun e=>e 4) (.seq (.region e1K) .ret) .skip)) (.seq (.region e2x) .ret))),[.t 2]⟩
def p50:Pers:=⟨3,[4],9,[]⟩
def d0U(e:b7):Reg:=xA (wH 135 [(.int .u8 0),(.int .u8 0),(.int .u8 0),(.int .u8 0),(.int .u8 0),(.int .u8 0),(.int .u8 0),(.int .u8 0),(.int .u8 0),(.int .u8 0),(.int .u8 0),(.int .u8 0),(.int .u8 0),(.int .u8 0),(.int .u8 0),(.int .u8 0),(.int .u8 0),(.int .u8 0),(.int .u8 0),(.int .u8 0),(.int .u8 0),(.int .u8 0),(.int .u8 0),(.int .u8 0),(.int .u8 0),(.int .u8 0),(.int .u8 0),(.int .u8 0),(.int .u8 0),(.int .u8 0),(.int .u8 0),(.int .u8 0),(.int .u8 0),(.int .u8 0),(.int .u8 0),(.int .u8 0),(.int .u8 0),(.int .u8 0),(.int .u8 0),(.int .u8 0),(.int .u8 0),(.int .u8 0),(.int .u8 0),(.int .u8 0),(.int .u8 0),(.int .u8 0),(.int .u8 0),(.int .u8 0),(.int .u8 0),(.int .u8 0),(.int .u8 0),(.int .u8 0),(.int .u8 0),(.int .u8 0),(.int .u8 0),(.int .u8 0),(.int .u8 0),(.int .u8 0),(.int .u8 0),(.int .u8 0),(.int .u8 0),(.int .u8 0),(.int .u8 0),(.int .u8 0),(.int .u8 0),(.int .u8 0),(.int .u8 0),(.int .u8 0),(.int .u8 0),(.int .u8 0),(.int .u8 0),(.int .u8 0),(.int .u8 0),(.int .u8 0),(.int .u8 0),(.int .i64 0),(.int .i64 0),(.int .i64 0)]) fun a=>xC (e.upd 2 a)
def c8y(e:b7):Reg:=xA (wB (e 0)) fun a=>xA (wM [(.int .u8 0),(.int .u8 0),(.int .u8 0),(.int .u8 0),(.int .u8 0),(.int .u8 0),(.int .u8 0),(.int .u8 0),(.int .u8 0),(.int .u8 0),(.int .u8 0),(.int .u8 0),(.int .u8 0),(.int .u8 0),(.int .u8 0),(.int .u8 0),(.int .u8 0),(.int .u8 0),(.int .u8 0),(.int .u8 0),(.int .u8 0),(.int .u8 0),(.int .u8 0),(.int .u8 0),(.int .u8 0),(.int .u8 0),(.int .u8 0),(.int .u8 0),(.int .u8 0),(.int .u8 0),(.int .u8 0),(.int .u8 0),(.int .u8 0),(.int .u8 0),(.int .u8 0),(.int .u8 0),(.int .u8 0),(.int .u8 0),(.int .u8 0),(.int .u8 0),(.int .u8 0),(.int .u8 0),(.int .u8 0),(.int .u8 0),(.int .u8 0),(.int .u8 0),(.int .u8 0),(.int .u8 0),(.int .u8 0),(.int .u8 0),(.int .u8 0),(.int .u8 0),(.int .u8 0),(.int .u8 0),(.int .u8 0),(.int .u8 0),(.int .u8 0),(.int .u8 0),(.int .u8 0),(.int .u8 0),(.int .u8 0),(.int .u8 0),(.int .u8 0),(.int .u8 0),(.int .u8 0),(.int .u8 0),(.int .u8 0),(.int .u8 0),(.int .u8 0),(.int .u8 0),(.int .u8 0),(.int .u8 0),(.int .u8 0),(.int .u8 0),(.int .u8 0),(.int .i64 0),(.int .i64 0),(.int .i64 0)] [(76,1,a)]) fun b=>xA (wF 78 (e 2) b) fun _=>xC e
def R51:=an (ro d0U.eq_1)<|ro c8y.eq_1
def c51:CFn:=⟨(.seq (.region d0U) (.seq (.region c8y) .ret)),[.c 2 (some 78)]⟩
def p51:Pers:=⟨3,[],5,[]⟩
def d3E(e:b7):Reg:=xA (wH 61 [(.int .i64 0),(.int .i64 0),(.int .u32 0),(.string ⟨#[]⟩),(.int .i64 0)]) fun a=>xA (wB (.bool false)) fun b=>xA (wB (.int .i64 0)) fun c=>xC (((e.upd 4 a).upd 5 b).upd 6 c)
def c9G(e:b7):Reg:=xA (wB (e 0)) fun a=>xA (wJ a) fun b=>xA (wC 77 b) fun c=>xA (wA none c) fun d=>xA (wE .neq d (.int .i64 0)) fun f=>xC (e.upd 15 f)
def d1g(e:b7):Reg:=xA (wM [(.int .i64 0),(.int .i64 0),(.int .u32 0),(.string ⟨#[]⟩),(.int .i64 0)] []) fun a=>xA (wB (e 0)) fun b=>xA (wJ b) fun c=>xA (wC 77 c) fun d=>xA (wA none d) fun f=>xD fun h5=>xA (wF 5 (e 4) a) fun _=>xE none none (wA none d) f<|xA (wB (.bool false)) fun g=>xA (wB f) fun i=>xC ((e.upd 5 g).upd 6 i)
def d7j(e:b7):Reg:=xA (wB (e 0)) fun a=>xA (wB (e 0)) fun b=>xA (wJ b) fun c=>xA (wC 75 c) fun d=>xA (wA none d) fun f=>xA (wJ a) fun g=>xA (wC 0 g) fun i=>xA (.indexArr 75 1 i f) fun j=>xA (wA none j) fun k=>xA (wB k) fun m=>xC (e.upd 7 m)
def a9t(e:b7)(a b c:Value):Reg:=xA (.indexArr 75 1 c a) fun d=>xD fun h9=>xA (wF 1 d b) fun _=>xC e
def d3q(e:b7):Reg:=xA (wB (e 0)) fun a=>xA (wB (e 0)) fun b=>xA (wJ b) fun c=>xA (wC 75 c) fun d=>xA (wA none d) fun f=>xA (wB (e 1)) fun g=>xA (wJ a) fun i=>xA (wC 0 i) fun j=>a9t e f g j
def a8N(e:b7)(a b c:Value):Reg:=xA (wH 61 [(.int .i64 0),(.int .i64 0),(.int .u32 0),(.string ⟨#[]⟩),(.int .i64 0)]) fun d=>xD fun h24=>xA (wF 5 d a) fun _=>xA (wB b) fun f=>xA (wB c) fun g=>xC (((e.upd 8 d).upd 9 f).upd 10 g)
def a8s(e:b7)(a b:Value):Reg:=xA (wC 76 b) fun c=>xA (wA none c) fun d=>xD fun h18=>xA (wD 71 [a,d]) fun f=>xA (wB f) fun g=>xA (wG g 0) fun i=>xA (wG g 1) fun j=>xA (wG g 2) fun k=>a8N e i j k
def b0u(e:b7)(a b:Value):Reg:=xA (wB (e 0)) fun c=>xA (wJ c) fun d=>xA (wC 75 d) fun f=>xA (wA none f) fun g=>xA (wE .add g (.int .i64 1)) fun i=>xA (.sliceArr3 75 1 a none (some b) i) fun j=>xA (wB (e 0)) fun k=>xA (wJ k) fun m=>a8s e j m
def d5O(e:b7):Reg:=xA (wB (e 0)) fun a=>xA (wJ a) fun b=>xA (wC 0 b) fun c=>xA (wB (e 0)) fun d=>xA (wJ d) fun f=>xA (wC 75 f) fun g=>xA (wA none g) fun i=>xA (wE .add i (.int .i64 1)) fun j=>b0u e c j
def a9G(e:b7)(a b c:Value):Reg:=xA (.indexArr 75 1 c a) fun d=>xD fun h9=>xA (wF 1 d b) fun _=>xC e
def d8L(e:b7):Reg:=xA (wB (e 0)) fun a=>xA (wB (e 0)) fun b=>xA (wJ b) fun c=>xA (wC 75 c) fun d=>xA (wA none d) fun f=>xA (wB (e 7)) fun g=>xA (wJ a) fun i=>xA (wC 0 i) fun j=>a9G e f g j
def d7K(e:b7):Reg:=xA (wA (some 5) (e 8)) fun a=>xA (wB (e 9)) fun b=>xA (wE .gtr b (.int .i64 0)) fun c=>xA (wB (e 10)) fun d=>xA (wF 5 (e 4) a) fun _=>xA (wB c) fun f=>xA (wB d) fun g=>xC ((e.upd 5 f).upd 6 g)
def R52:=an (ro d3E.eq_1)<|an (ro c9G.eq_1)<|an (ro d1g.eq_1)<|an (ro d7j.eq_1)<|an (W3 a9t.eq_1)<|an (ro d3q.eq_1)<|an (W3 a8N.eq_1)<|an (O5 a8s.eq_1)<|an (O5 b0u.eq_1)<|an (ro d5O.eq_1)<|an (W3 a9G.eq_1)<|an (ro d8L.eq_1)<|ro d7K.eq_1
def c52:CFn:=⟨(.seq (.region d3E) (.seq (.seq (.region c9G) (.cond (fun e=>e 15) (.seq (.region d1g) .ret) .skip)) (.seq (.region d7j) (.seq (.region d3q) (.seq (.region d5O) (.seq (.region d8L) (.seq (.region d7K) .ret))))))),[.c 4 (some 5),.t 5,.t 6]⟩
def p52:Pers:=⟨11,[15],75,[]⟩
def d7o(e:b7):Reg:=xA (wH 61 [(.int .i64 0),(.int .i64 0),(.int .u32 0),(.string ⟨#[]⟩),(.int .i64 0)]) fun a=>xA (wB (.bool false)) fun b=>xA (wB (.int .i64 0)) fun c=>xC (((e.upd 4 a).upd 5 b).upd 6 c)
def a8S(e:b7)(a b c d:Value):Reg:=xA (wF 5 d a) fun _=>xA (wB b) fun f=>xA (wB c) fun g=>xC (((e.upd 7 d).upd 8 f).upd 9 g)
def d5S(e:b7):Reg:=xA (wB (e 0)) fun a=>xA (wB (e 1)) fun b=>xA (wD 52 [a,b]) fun c=>xA (wB c) fun d=>xA (wG d 0) fun f=>xA (wG d 1) fun g=>xA (wG d 2) fun i=>xA (wH 61 [(.int .i64 0),(.int .i64 0),(.int .u32 0),(.string ⟨#[]⟩),(.int .i64 0)]) fun j=>a8S e f g i j
def c9j(e:b7):Reg:=xA (wB (e 9)) fun a=>xA (wE .neq a (.int .i64 0)) fun b=>xA (wB b) fun c=>xC (e.upd 33 c)
def d3b(e:b7):Reg:=xA (wB (e 0)) fun a=>xA (wB (e 0)) fun b=>xA (wB (e 9)) fun c=>xA (wJ a) fun d=>xA (wC 77 d) fun f=>xA (wF 1 f c) fun _=>xA (wJ b) fun g=>xA (wC 75 g) fun i=>xA (wF 1 i (.int .i64 0)) fun _=>xC e
def d8X(e:b7):Reg:=xA (wB (e 8)) fun a=>xA (wB a) fun b=>xC (e.upd 43 b)
def d5p(e:b7):Reg:=xA (wB (e 0)) fun a=>xA (wJ a) fun b=>xA (wC 75 b) fun c=>xA (wF 1 c (.int .i64 0)) fun _=>xC e
def a9c(e:b7)(a b c:Value):Reg:=xA (.indexArr 75 1 c a) fun d=>xD fun h9=>xA (wF 1 d b) fun _=>xC e
def d1q(e:b7):Reg:=xA (wB (e 0)) fun a=>xA (wB (e 0)) fun b=>xA (wJ b) fun c=>xA (wC 75 c) fun d=>xA (wA none d) fun f=>xA (wB (e 1)) fun g=>xA (wJ a) fun i=>xA (wC 0 i) fun j=>a9c e f g j
def c8I(e:b7):Reg:=xA (wB (e 0)) fun a=>xA (wJ a) fun b=>xA (wC 75 b) fun c=>xA (wA none c) fun d=>xA (wE .add d (.int .i64 1)) fun f=>xA (wJ a) fun g=>xA (wC 75 g) fun i=>xA (wF 1 i f) fun _=>xC e
def d6Y(e:b7):Reg:=xA (wA (some 5) (e 7)) fun a=>xA (wB (e 8)) fun b=>xA (wB (e 9)) fun c=>xA (wF 5 (e 4) a) fun _=>xA (wB b) fun d=>xA (wB c) fun f=>xC ((e.upd 5 d).upd 6 f)
def R53:=an (ro d7o.eq_1)<|an (ro4 a8S.eq_1)<|an (ro d5S.eq_1)<|an (ro c9j.eq_1)<|an (ro d3b.eq_1)<|an (ro d8X.eq_1)<|an (ro d5p.eq_1)<|an (W3 a9c.eq_1)<|an (ro d1q.eq_1)<|an (ro c8I.eq_1)<|ro d6Y.eq_1
def c53:CFn:=⟨(.seq (.region d7o) (.seq (.region d5S) (.seq (.block 0 (.seq (.region c9j) (.cond (fun e=>e 33) (.region d3b) (.seq (.region d8X) (.cond (fun e=>e 43) (.region d5p) (.seq (.region d1q) (.region c8I))))))) (.seq (.region d6Y) .ret)))),[.c 4 (some 5),.t 5,.t 6]⟩
def p53:Pers:=⟨10,[33,43],51,[]⟩
def d1c(e:b7):Reg:=xA (wB (.bool false)) fun a=>xC (e.upd 4 a)
def d8t(e:b7):Reg:=xA (wB (e 0)) fun a=>xA (wE .geq a (.int .i64 1)) fun b=>xA (wB b) fun c=>xB c true (wB (e 0)) fun d=>xB c true (wB (e 1)) fun f=>xB c true (wE .leq d f) fun g=>xA (wK c g (.bool false)) fun i=>xA (wB i) fun j=>xC (e.upd 4 j)
def R54:=an (ro d1c.eq_1)<|ro d8t.eq_1
def c54:CFn:=⟨(.seq (.region d1c) (.seq (.region d8t) .ret)),[.t 4]⟩
def p54:Pers:=⟨5,[],12,[]⟩
def d0Z(e:b7):Reg:=xA (wN 34 (e 0)) fun a=>xA (wB (.bool false)) fun b=>xC ((e.upd 1 a).upd 2 b)
def d2r(e:b7):Reg:=xA (wA (some 9) (e 1)) fun a=>xA (wM [(.int .i64 0),(.int .i64 0),(.int .i64 0),(.int .i64 0),(.int .i64 0),(.int .i64 0),(.int .i64 0),(.int .i64 0),(.bool false)] []) fun b=>xA (.eqAgg false [.int,.int,.int,.int,.int,.int,.int,.int,.bool] a b) fun c=>xC (e.upd 7 c)
def c8V(e:b7):Reg:=xA (wB (.bool false)) fun a=>xC (e.upd 2 a)
def b0g(e:b7)(a:Value):Reg:=xA (wB a) fun b=>xB b false (wC 1 (e 1)) fun c=>xB b false (wA none c) fun d=>xB b false (wC 3 (e 1)) fun f=>xB b false (wA none f) fun g=>xB b false (wE .rem d g) fun i=>xB b false (wE .neq i (.int .i64 0)) fun j=>xA (wK b (.bool true) j) fun k=>xC (e.upd 39 k)
def a8u(e:b7)(a b:Value):Reg:=xB a false (wP .not b) fun c=>xA (wK a (.bool true) c) fun d=>xA (wB d) fun f=>xB f false (wC 3 (e 1)) fun g=>xB f false (wA none g) fun i=>xB f false (wD 54 [i,(.int .i64 64)]) fun j=>xB f false (wP .not j) fun k=>xA (wK f (.bool true) k) fun m=>b0g e m
def a8J(e:b7)(a b:Value):Reg:=xB a false (wP .not b) fun c=>xA (wK a (.bool true) c) fun d=>xA (wB d) fun f=>xB f false (wC 2 (e 1)) fun g=>xB f false (wA none g) fun i=>xB f false (wC 0 (e 1)) fun j=>xB f false (wA none j) fun k=>xB f false (wD 54 [i,k]) fun m=>a8u e f m
def d5P(e:b7):Reg:=xA (wC 0 (e 1)) fun a=>xA (wA none a) fun b=>xA (wD 54 [b,(.int .i64 2147483648)]) fun c=>xA (wP .not c) fun d=>xA (wB d) fun f=>xB f false (wC 1 (e 1)) fun g=>xB f false (wA none g) fun i=>xB f false (wD 54 [i,(.int .i64 1099511627776)]) fun j=>a8J e f j
def d4K(e:b7):Reg:=xA (wB (.bool false)) fun a=>xC (e.upd 2 a)
def a8z(e:b7)(a b:Value):Reg:=xB a false (wA none b) fun c=>xB a false (wB c) fun d=>xB d true (wC 3 (e 1)) fun f=>xB d true (wA none f) fun g=>xB d true (wE .lss g (.int .i64 2)) fun i=>xB a false (wK d i (.bool false)) fun j=>xA (wK a (.bool true) j) fun k=>xC (e.upd 70 k)
def b0F(e:b7)(a:Value):Reg:=xA (wB a) fun b=>xB b false (wC 7 (e 1)) fun c=>xB b false (wA none c) fun d=>xB b false (wD 54 [d,(.int .i64 64)]) fun f=>xB b false (wP .not f) fun g=>xA (wK b (.bool true) g) fun i=>xA (wB i) fun j=>xB j false (wC 8 (e 1)) fun k=>a8z e j k
def a9j(e:b7)(a b:Value):Reg:=xB a false (wP .not b) fun c=>xA (wK a (.bool true) c) fun d=>xA (wB d) fun f=>xB f false (wC 6 (e 1)) fun g=>xB f false (wA none g) fun i=>xB f false (wD 54 [i,(.int .i64 4096)]) fun j=>xB f false (wP .not j) fun k=>xA (wK f (.bool true) k) fun m=>b0F e m
def d2y(e:b7):Reg:=xA (wC 4 (e 1)) fun a=>xA (wA none a) fun b=>xA (wD 54 [b,(.int .i64 1024)]) fun c=>xA (wP .not c) fun d=>xA (wB d) fun f=>xB f false (wC 5 (e 1)) fun g=>xB f false (wA none g) fun i=>xB f false (wD 54 [i,(.int .i64 8)]) fun j=>a9j e f j
def d8e(e:b7):Reg:=xA (wB (.bool false)) fun a=>xC (e.upd 2 a)
def a9Y(e:b7)(a:Value):Reg:=xA (wG a 0) fun b=>xA (wG a 1) fun c=>xA (wB b) fun d=>xA (wB c) fun f=>xC ((e.upd 3 d).upd 4 f)
def a9A(e:b7)(a b c d f:Value):Reg:=xA (wA none f) fun g=>xA (wE .sub d g) fun i=>xD fun h10=>xA (wD 73 [c,i]) fun j=>xE none none (wA none a) b<|xD fun h11=>xA (wD 72 [b,j]) fun k=>xA (wB k) fun m=>a9Y e m
def d0L(e:b7):Reg:=xA (wC 2 (e 1)) fun a=>xA (wA none a) fun b=>xA (wC 1 (e 1)) fun c=>xA (wA none c) fun d=>xA (wC 0 (e 1)) fun f=>xA (wA none f) fun g=>xA (wE .add g (.int .i64 1)) fun i=>xA (wC 2 (e 1)) fun j=>a9A e a b d i j
def d3x(e:b7):Reg:=xA (wB (e 4)) fun a=>xA (wB a) fun b=>xB b true (wB (e 3)) fun c=>xB b true (wE .leq c (.int .i64 1152921504606846976)) fun d=>xA (wK b d (.bool false)) fun f=>xA (wB f) fun g=>xC (e.upd 2 g)
def R55:=an (ro d0Z.eq_1)<|an (ro d2r.eq_1)<|an (ro c8V.eq_1)<|an (ro1 b0g.eq_1)<|an (O5 a8u.eq_1)<|an (O5 a8J.eq_1)<|an (ro d5P.eq_1)<|an (ro d4K.eq_1)<|an (O5 a8z.eq_1)<|an (ro1 b0F.eq_1)<|an (O5 a9j.eq_1)<|an (ro d2y.eq_1)<|an (ro d8e.eq_1)<|an (ro1 a9Y.eq_1)<|an (ro5 a9A.eq_1)<|an (ro d0L.eq_1)<|ro d3x.eq_1
def c55:CFn:=⟨(.seq (.region d0Z) (.seq (.seq (.region d2r) (.cond (fun e=>e 7) (.seq (.region c8V) .ret) .skip)) (.seq (.seq (.region d5P) (.cond (fun e=>e 39) (.seq (.region d4K) .ret) .skip)) (.seq (.seq (.region d2y) (.cond (fun e=>e 70) (.seq (.region d8e) .ret) .skip)) (.seq (.region d0L) (.seq (.region d3x) .ret)))))),[.t 2]⟩
def p55:Pers:=⟨5,[7,39,70],91,[]⟩
def d5J(e:b7):Reg:=xA (wN 30 (e 0)) fun a=>xA (wB (.int .i64 0)) fun b=>xC ((e.upd 1 a).upd 2 b)
def d3t(e:b7):Reg:=xA (wB (.int .i64 6)) fun a=>xC (e.upd 3 a)
def d7M(e:b7):Reg:=xA (wC 3 (e 1)) fun a=>xA (wA none a) fun b=>xA (wL b) fun c=>xA (wB (.int .i64 0)) fun d=>xC (((e.upd 9 b).upd 10 c).upd 11 d)
def d3P(e:b7):Reg:=xA (wE .lss (e 11) (e 10)) fun a=>xC (e.upd 12 a)
def d7y(e:b7):Reg:=xA (wI 9 (e 9) (e 11)) fun a=>xA (wA (some 9) a) fun b=>xA (wH 34 [(.int .i64 0),(.int .i64 0),(.int .i64 0),(.int .i64 0),(.int .i64 0),(.int .i64 0),(.int .i64 0),(.int .i64 0),(.bool false)]) fun c=>xA (wF 9 c b) fun _=>xC (e.upd 5 c)
def c8U(e:b7):Reg:=xA (wM [(.int .i64 0),(.int .i64 0),(.int .i64 0)] [(0,1,(.int .i64 1)),(1,1,(.int .i64 3)),(2,1,(.int .i64 4))]) fun a=>xA (wB (.int .i64 0)) fun b=>xC ((e.upd 15 a).upd 16 b)
def d4m(e:b7):Reg:=xA (wE .lss (e 16) (.int .i64 3)) fun a=>xC (e.upd 17 a)
def d4Q(e:b7):Reg:=xA (.indexAgg 3 1 none (e 15) (e 16)) fun a=>xA (wB a) fun b=>xC (e.upd 7 b)
def d8R(e:b7):Reg:=xA (wB (e 3)) fun a=>xA (wB (e 7)) fun b=>xA (wC 7 (e 5)) fun c=>xA (wA none c) fun d=>xA (wM [(.int .i64 0),(.int .i64 0),(.int .u32 0),(.string ⟨#[]⟩),(.int .i64 0)] [(0,1,b),(4,1,d)]) fun f=>xA (wC 7 (e 5)) fun g=>xA (wA none g) fun i=>xA (wD 74 [f,i]) fun j=>xA (.minmax true [a,j]) fun k=>xA (wB k) fun m=>xC (e.upd 3 m)
def d7e(e:b7):Reg:=xA (wE .add (e 16) (.int .i64 1)) fun a=>xA (wB a) fun b=>xC (e.upd 16 b)
def d2i:CC:=(.seq (.region d4m) (.seq (.cond (fun e=>e 17) .skip (.exit 2)) (.seq (.block 3 (.seq (.region d4Q) (.region d8R))) (.region d7e))))
def b7R(e:b7):Reg:=xA (wE .add (e 11) (.int .i64 1)) fun a=>xA (wB a) fun b=>xC (e.upd 11 b)
def b1z:CC:=(.seq (.region d3P) (.seq (.cond (fun e=>e 12) .skip (.exit 0)) (.seq (.block 1 (.seq (.region d7y) (.seq (.region c8U) (.block 2 (.loop d2i))))) (.region b7R))))
def b6P(e:b7):Reg:=xA (wB (e 3)) fun a=>xA (wB a) fun b=>xC (e.upd 2 b)
def R56:=an (ro d5J.eq_1)<|an (ro d3t.eq_1)<|an (ro d7M.eq_1)<|an (ro d3P.eq_1)<|an (ro d7y.eq_1)<|an (ro c8U.eq_1)<|an (ro d4m.eq_1)<|an (ro d4Q.eq_1)<|an (ro d8R.eq_1)<|an (ro d7e.eq_1)<|an (ro b7R.eq_1)<|ro b6P.eq_1
def c56:CFn:=⟨(.seq (.region d5J) (.seq (.region d3t) (.seq (.seq (.region d7M) (.block 0 (.loop b1z))) (.seq (.region b6P) .ret)))),[.t 2]⟩
def p56:Pers:=⟨8,[9,10,11,12,15,16,17],31,[]⟩
def d4L(e:b7):Reg:=xA (wN 30 (e 0)) fun a=>xA (wB (.int .i64 0)) fun b=>xC ((e.upd 1 a).upd 2 b)
def d3Y(e:b7):Reg:=xA (wC 1 (e 1)) fun a=>xA (wA none a) fun b=>xA (wC 2 (e 1)) fun c=>xA (wA none c) fun d=>xD fun h4=>xA (wD 75 [d]) fun f=>xE none none (wA none a) b<|xA (wE .mul b f) fun g=>xA (wB g) fun i=>xC (e.upd 3 i)
def c8k(e:b7):Reg:=xA (wC 3 (e 1)) fun a=>xA (wA none a) fun b=>xA (wL b) fun c=>xA (wB (.int .i64 0)) fun d=>xC (((e.upd 13 b).upd 14 c).upd 15 d)
def d6n(e:b7):Reg:=xA (wE .lss (e 15) (e 14)) fun a=>xC (e.upd 16 a)
def d2x(e:b7):Reg:=xA (wI 9 (e 13) (e 15)) fun a=>xA (wA (some 9) a) fun b=>xA (wH 34 [(.int .i64 0),(.int .i64 0),(.int .i64 0),(.int .i64 0),(.int .i64 0),(.int .i64 0),(.int .i64 0),(.int .i64 0),(.bool false)]) fun c=>xA (wF 9 c b) fun _=>xC (e.upd 5 c)
def d7G(e:b7):Reg:=xA (wB (e 3)) fun a=>xA (wA (some 9) (e 5)) fun b=>xA (wD 76 [b]) fun c=>xA (wE .add a c) fun d=>xA (wB d) fun f=>xC (e.upd 3 f)
def d3n(e:b7):Reg:=xA (wE .add (e 15) (.int .i64 1)) fun a=>xA (wB a) fun b=>xC (e.upd 15 b)
def b1m:CC:=(.seq (.region d6n) (.seq (.cond (fun e=>e 16) .skip (.exit 0)) (.seq (.block 1 (.seq (.region d2x) (.region d7G))) (.region d3n))))
def d4e(e:b7):Reg:=xA (wB (e 3)) fun a=>xA (wB a) fun b=>xC (e.upd 2 b)
def R57:=an (ro d4L.eq_1)<|an (ro d3Y.eq_1)<|an (ro c8k.eq_1)<|an (ro d6n.eq_1)<|an (ro d2x.eq_1)<|an (ro d7G.eq_1)<|an (ro d3n.eq_1)<|ro d4e.eq_1
def c57:CFn:=⟨(.seq (.region d4L) (.seq (.region d3Y) (.seq (.seq (.region c8k) (.block 0 (.loop b1m))) (.seq (.region d4e) .ret)))),[.t 2]⟩
def p57:Pers:=⟨6,[13,14,15,16],25,[]⟩
def d0e(e:b7):Reg:=xA (wB (.pointer none)) fun a=>xC (e.upd 4 a)
def d3i(e:b7):Reg:=xA (wB (e 1)) fun a=>xA (wD 77 [a]) fun b=>xA (wB b) fun c=>xC (e.upd 5 c)
def d1y(e:b7):Reg:=xA (wB (e 5)) fun a=>xA (.eqK .ptr false a (.pointer none)) fun b=>xC (e.upd 9 b)
def d3X(e:b7):Reg:=xA (wB (.pointer none)) fun a=>xC (e.upd 4 a)
def d3w(e:b7):Reg:=xA (wB (e 5)) fun a=>xA (wB (e 0)) fun b=>xA (wM [(.int .u8 0),(.int .u8 0),(.int .u8 0),(.int .u8 0),(.int .u8 0),(.int .u8 0),(.int .u8 0),(.int .u8 0),(.int .u8 0),(.int .u8 0),(.int .u8 0),(.int .u8 0),(.int .u8 0),(.int .u8 0),(.int .u8 0),(.int .u8 0),(.int .u8 0),(.int .u8 0),(.int .u8 0),(.int .u8 0),(.int .u8 0),(.int .u8 0),(.int .u8 0),(.int .u8 0),(.int .u8 0),(.int .u8 0),(.int .u8 0),(.int .u8 0),(.int .u8 0),(.int .u8 0),(.int .u8 0),(.int .u8 0),(.int .u8 0),(.int .u8 0),(.int .u8 0),(.int .u8 0),(.int .u8 0),(.int .u8 0),(.int .u8 0),(.int .u8 0),(.int .u8 0),(.int .u8 0),(.int .u8 0),(.int .u8 0),(.int .u8 0),(.int .u8 0),(.int .u8 0),(.int .u8 0),(.int .u8 0),(.int .u8 0),(.int .u8 0),(.int .u8 0),(.int .u8 0),(.int .u8 0),(.int .u8 0),(.int .u8 0),(.int .u8 0),(.int .u8 0),(.int .u8 0),(.int .u8 0),(.int .u8 0),(.int .u8 0),(.int .u8 0),(.int .u8 0),(.int .u8 0),(.int .u8 0),(.int .u8 0),(.int .u8 0),(.int .u8 0),(.int .u8 0),(.int .u8 0),(.int .u8 0),(.int .u8 0),(.int .u8 0),(.int .u8 0),(.int .i64 0),(.int .i64 0),(.int .i64 0),(.pointer none),(.int .i64 0),(.bool false)] [(78,1,a),(79,1,b)]) fun c=>xA (wN 149 c) fun d=>xA (wB d) fun f=>xC (e.upd 4 f)
def R58:=an (ro d0e.eq_1)<|an (ro d3i.eq_1)<|an (ro d1y.eq_1)<|an (ro d3X.eq_1)<|ro d3w.eq_1
def c58:CFn:=⟨(.seq (.region d0e) (.seq (.region d3i) (.seq (.seq (.region d1y) (.cond (fun e=>e 9) (.seq (.region d3X) .ret) .skip)) (.seq (.region d3w) .ret)))),[.t 4]⟩
def p58:Pers:=⟨6,[9],14,[]⟩
def d7X(e:b7):Reg:=xA (wN 34 (e 0)) fun a=>xA (wB (.pointer none)) fun b=>xC ((e.upd 2 a).upd 4 b)
def c9t(e:b7):Reg:=xA (wB (e 1)) fun a=>xA (wC 5 (e 2)) fun b=>xA (wA none b) fun c=>xA (wE .add c (.int .i64 1)) fun d=>xA (wD 78 [a,d]) fun f=>xA (wB f) fun g=>xC (e.upd 5 g)
def d3u(e:b7):Reg:=xA (wB (e 5)) fun a=>xA (wB (e 5)) fun b=>xA (wL b) fun c=>xA (wE .sub c (.int .i64 1)) fun d=>xA (wI 3 a d) fun f=>xA (wA (some 3) f) fun g=>xA (wH 182 [(.int .u64 0),(.int .u64 0),(.int .u64 0)]) fun i=>xA (wF 3 i g) fun _=>xC (e.upd 6 i)
def b0o(e:b7)(a:Value)(h2:Heap)(b:Value)(h6:Heap)(c:Value)(h12:Heap)(d f:Value):Reg:=xA (wA (some 3) (e 6)) fun g=>xE none (some h12) (wA (some 3) (e 6)) g<|xE none (some h6) (wA (some 3) (e 6)) g<|xE none (some h2) (wA (some 3) (e 6)) g<|xD fun h16=>xA (wD 82 [f,g]) fun i=>xE none none (wA (some 9) (e 2)) a<|xA (wM [(.int .i64 0),(.int .i64 0),(.int .i64 0),(.int .i64 0),(.int .i64 0),(.int .i64 0),(.int .i64 0),(.int .i64 0),(.bool false),(.int .i64 0),(.int .i64 0),(.int .i64 0),(.int .i64 0),(.pointer none),(.pointer none),(.pointer none),(.int .i64 0),(.int .i64 0),(.int .i64 0),(.int .i64 0),(.int .i64 0)] [(0,9,a),(9,4,b),(13,1,c),(14,1,d),(15,1,i)]) fun j=>xA (wN 131 j) fun k=>xA (wB k) fun m=>xC (e.upd 4 m)
def a9h(e:b7)(a:Value)(h2:Heap)(b:Value)(h6:Heap)(c d f:Value):Reg:=xD fun h12=>xA (wD 81 [d,f]) fun g=>xE none none (wA (some 9) (e 2)) a<|xA (wC 7 (e 2)) fun i=>xA (wA none i) fun j=>xE none (some h12) (wA none i) j<|xE none (some h6) (wA none i) j<|xE none (some h2) (wA none i) j<|b0o e a h2 b h6 c h12 g j
def a9U(e:b7)(a:Value)(h2:Heap)(b:Value)(h6:Heap)(c d:Value):Reg:=xA (wB (e 5)) fun f=>xA (wC 5 (e 2)) fun g=>xA (wA none g) fun i=>xE none (some h6) (wA none g) i<|xE none (some h2) (wA none g) i<|xA (.slice 182 3 f none (some i)) fun j=>xE none (some h6) (.slice 182 3 f none (some i)) j<|xE none (some h2) (.slice 182 3 f none (some i)) j<|a9h e a h2 b h6 c d j
def a9x(e:b7)(a:Value)(h2:Heap)(b c:Value):Reg:=xA (wA (some 3) (e 6)) fun d=>xE none (some h2) (wA (some 3) (e 6)) d<|xD fun h6=>xA (wD 80 [c,d]) fun f=>xE none none (wA (some 9) (e 2)) a<|xA (wA (some 9) (e 2)) fun g=>xE none (some h6) (wA (some 9) (e 2)) g<|xE none (some h2) (wA (some 9) (e 2)) g<|a9U e a h2 b h6 f g
def d3d(e:b7):Reg:=xA (wA (some 9) (e 2)) fun a=>xA (wA (some 9) (e 2)) fun b=>xD fun h2=>xA (wD 79 [b]) fun c=>xE none none (wA (some 9) (e 2)) a<|xA (wC 4 (e 2)) fun d=>xA (wA none d) fun f=>xE none (some h2) (wA none d) f<|a9x e a h2 c f
def R59:=an (ro d7X.eq_1)<|an (ro c9t.eq_1)<|an (ro d3u.eq_1)<|an (ro8 b0o.eq_1)<|an (ro7 a9h.eq_1)<|an (ro6 a9U.eq_1)<|an (ro4 a9x.eq_1)<|ro d3d.eq_1
def c59:CFn:=⟨(.seq (.region d7X) (.seq (.region c9t) (.seq (.region d3u) (.seq (.region d3d) .ret)))),[.t 4]⟩
def p59:Pers:=⟨7,[],37,[]⟩
def d5F(e:b7):Reg:=xA (wB (.slice none 0 0)) fun a=>xC (e.upd 6 a)
def c8z(e:b7):Reg:=xA (wB (e 2)) fun a=>xA (.makeSlice 78 1 8 [(.int .u64 0)] a a) fun b=>xA (wB b) fun c=>xC (e.upd 7 c)
def d8p(e:b7):Reg:=xA (wB (e 7)) fun a=>xA (wL a) fun b=>xA (wB (.int .i64 0)) fun c=>xC ((e.upd 12 b).upd 13 c)
def d3D(e:b7):Reg:=xA (wE .lss (e 13) (e 12)) fun a=>xC (e.upd 14 a)
def d6z(e:b7):Reg:=xA (wB (e 13)) fun a=>xA (wB a) fun b=>xC (e.upd 8 b)
def d0P(e:b7):Reg:=xA (wB (e 0)) fun a=>xA (wL a) fun b=>xA (wE .gtr b (.int .i64 0)) fun c=>xC (e.upd 18 c)
def a9q(e:b7)(a b c d:Value):Reg:=xA (wO .u64 d) fun f=>xA (wE .mul f (.int .u64 11400714819323198485)) fun g=>xA (wE .xor c g) fun i=>xA (wI 1 a b) fun j=>xA (wF 1 j i) fun _=>xC e
def b0x(e:b7)(a b c d f:Value):Reg:=xA (wE .rem d f) fun g=>xA (wI 1 c g) fun i=>xA (wA none i) fun j=>xA (wB (e 1)) fun k=>xA (wO .u64 k) fun m=>xA (wE .shl m (.int .u64 56)) fun n=>xA (wE .xor j n) fun o=>xA (wB (e 8)) fun p=>a9q e a b o p
def d1o(e:b7):Reg:=xA (wB (e 7)) fun a=>xA (wB (e 8)) fun b=>xA (wB (e 0)) fun c=>xA (wB (e 1)) fun d=>xA (wB (e 8)) fun f=>xA (wE .add d f) fun g=>xA (wB (e 0)) fun i=>xA (wL i) fun j=>b0x e a b c g j
def d1G(e:b7):Reg:=xA (wE .add (e 13) (.int .i64 1)) fun a=>xA (wB a) fun b=>xC (e.upd 13 b)
def a4Y:CC:=(.seq (.region d3D) (.seq (.cond (fun e=>e 14) .skip (.exit 0)) (.seq (.block 1 (.seq (.region d6z) (.seq (.region d0P) (.cond (fun e=>e 18) (.region d1o) .skip)))) (.region d1G))))
def c8C(e:b7):Reg:=xA (wB (e 7)) fun a=>xA (wB a) fun b=>xC (e.upd 6 b)
def R60:=an (ro d5F.eq_1)<|an (ro c8z.eq_1)<|an (ro d8p.eq_1)<|an (ro d3D.eq_1)<|an (ro d6z.eq_1)<|an (ro d0P.eq_1)<|an (ro4 a9q.eq_1)<|an (ro5 b0x.eq_1)<|an (ro d1o.eq_1)<|an (ro d1G.eq_1)<|ro c8C.eq_1
def c60:CFn:=⟨(.seq (.region d5F) (.seq (.region c8z) (.seq (.seq (.region d8p) (.block 0 (.loop a4Y))) (.seq (.region c8C) .ret)))),[.t 6]⟩
def p60:Pers:=⟨9,[12,13,14,18],41,[]⟩
def d3c(e:b7):Reg:=xA (wB (e 0)) fun a=>xA (.eqK .ptr true a (.pointer none)) fun b=>xC (e.upd 3 b)
def d1j(e:b7):Reg:=xA (wB (e 0)) fun a=>xA (wB (e 0)) fun b=>xA (wJ a) fun c=>xA (wC 1 c) fun d=>xA (wF 1 d (.int .i64 0)) fun _=>xA (wJ b) fun f=>xA (wC 2 f) fun g=>xA (wF 1 g (.int .i64 0)) fun _=>xC e
def R61:=an (ro d3c.eq_1)<|ro d1j.eq_1
def c61:CFn:=⟨(.seq (.region d3c) (.cond (fun e=>e 3) (.region d1j) .skip)),[]⟩
def p61:Pers:=⟨2,[3],10,[]⟩
def d7u(e:b7):Reg:=xA (wB (.int .i64 0)) fun a=>xC (e.upd 2 a)
def d7P(e:b7):Reg:=xA (wB (e 0)) fun a=>xA (wJ a) fun b=>xA (wC 77 b) fun c=>xA (wA none c) fun d=>xA (wB d) fun f=>xC (e.upd 2 f)
def R62:=an (ro d7u.eq_1)<|ro d7P.eq_1
def c62:CFn:=⟨(.seq (.region d7u) (.seq (.region d7P) .ret)),[.t 2]⟩
def p62:Pers:=⟨3,[],7,[]⟩
def c8E(e:b7):Reg:=xA (wB (.int .i64 0)) fun a=>xC (e.upd 2 a)
def d5V(e:b7):Reg:=xA (wB (e 0)) fun a=>xA (.eqK .ptr false a (.pointer none)) fun b=>xC (e.upd 4 b)
def d1L(e:b7):Reg:=xA (wB (.int .i64 0)) fun a=>xC (e.upd 2 a)
def a9K(e:b7)(a b:Value):Reg:=xA (wA none b) fun c=>xA (wE .sub a c) fun d=>xA (wB d) fun f=>xC (e.upd 2 f)
def d0O(e:b7):Reg:=xA (wB (e 0)) fun a=>xA (wJ a) fun b=>xA (wC 0 b) fun c=>xA (wA none c) fun d=>xA (wL d) fun f=>xA (wB (e 0)) fun g=>xA (wJ g) fun i=>xA (wC 2 i) fun j=>a9K e f j
def R63:=an (ro c8E.eq_1)<|an (ro d5V.eq_1)<|an (ro d1L.eq_1)<|an (O5 a9K.eq_1)<|ro d0O.eq_1
def c63:CFn:=⟨(.seq (.region c8E) (.seq (.seq (.region d5V) (.cond (fun e=>e 4) (.seq (.region d1L) .ret) .skip)) (.seq (.region d0O) .ret))),[.t 2]⟩
def p63:Pers:=⟨3,[4],15,[]⟩
def d6r(e:b7):Reg:=xA (wB (.bool false)) fun a=>xC (e.upd 4 a)
def d8F(e:b7):Reg:=xA (wB (e 1)) fun a=>xA (wL a) fun b=>xA (wB (e 0)) fun c=>xA (wD 63 [c]) fun d=>xA (wE .gtr b d) fun f=>xC (e.upd 11 f)
def d0A(e:b7):Reg:=xA (wB (.bool false)) fun a=>xC (e.upd 4 a)
def c8d(e:b7):Reg:=xA (wB (e 1)) fun a=>xA (wL a) fun b=>xA (wB (.int .i64 0)) fun c=>xC (((e.upd 12 a).upd 13 b).upd 14 c)
def c8c(e:b7):Reg:=xA (wE .lss (e 14) (e 13)) fun a=>xC (e.upd 15 a)
def d7I(e:b7):Reg:=xA (wI 1 (e 12) (e 14)) fun a=>xA (wA none a) fun b=>xA (wB b) fun c=>xC (e.upd 6 c)
def a8G(e:b7)(a b c:Value):Reg:=xA (wA none c) fun d=>xA (wL d) fun f=>xA (wE .rem b f) fun g=>xA (wB (e 6)) fun i=>xA (wI 1 a g) fun j=>xD fun h21=>xA (wF 1 j i) fun _=>xC e
def a9E(e:b7)(a b:Value):Reg:=xA (wB (e 0)) fun c=>xA (wJ c) fun d=>xA (wC 2 d) fun f=>xA (wA none f) fun g=>xA (wE .add b g) fun i=>xA (wB (e 0)) fun j=>xA (wJ j) fun k=>xA (wC 0 k) fun m=>a8G e a i m
def c9L(e:b7):Reg:=xA (wB (e 0)) fun a=>xA (wJ a) fun b=>xA (wC 0 b) fun c=>xA (wA none c) fun d=>xA (wB (e 0)) fun f=>xA (wJ f) fun g=>xA (wC 1 g) fun i=>xA (wA none i) fun j=>a9E e d j
def c9X(e:b7):Reg:=xA (wB (e 0)) fun a=>xA (wJ a) fun b=>xA (wC 2 b) fun c=>xA (wA none c) fun d=>xA (wE .add d (.int .i64 1)) fun f=>xA (wJ a) fun g=>xA (wC 2 g) fun i=>xA (wF 1 i f) fun _=>xC e
def d4k(e:b7):Reg:=xA (wE .add (e 14) (.int .i64 1)) fun a=>xA (wB a) fun b=>xC (e.upd 14 b)
def b1G:CC:=(.seq (.region c8c) (.seq (.cond (fun e=>e 15) .skip (.exit 0)) (.seq (.block 1 (.seq (.region d7I) (.seq (.region c9L) (.region c9X)))) (.region d4k))))
def c9T(e:b7):Reg:=xA (wB (.bool true)) fun a=>xC (e.upd 4 a)
def R64:=an (ro d6r.eq_1)<|an (ro d8F.eq_1)<|an (ro d0A.eq_1)<|an (ro c8d.eq_1)<|an (ro c8c.eq_1)<|an (ro d7I.eq_1)<|an (W3 a8G.eq_1)<|an (O5 a9E.eq_1)<|an (ro c9L.eq_1)<|an (ro c9X.eq_1)<|an (ro d4k.eq_1)<|ro c9T.eq_1
def c64:CFn:=⟨(.seq (.region d6r) (.seq (.seq (.region d8F) (.cond (fun e=>e 11) (.seq (.region d0A) .ret) .skip)) (.seq (.seq (.region c8d) (.block 0 (.loop b1G))) (.seq (.region c9T) .ret)))),[.t 4]⟩
def p64:Pers:=⟨7,[11,12,13,14,15],47,[]⟩
def c8f(e:b7):Reg:=xA (wB (.slice none 0 0)) fun a=>xC (e.upd 2 a)
def d0j(e:b7):Reg:=xA (wB (e 0)) fun a=>xA (wO .u8 a) fun b=>xA (.buildSlice 5 2 [(.int .u8 0)] [(0,1,(.int .u8 255)),(1,1,b)]) fun c=>xA (wD 45 [(.int .u8 168),c]) fun d=>xA (wB d) fun f=>xC (e.upd 2 f)
def R65:=an (ro c8f.eq_1)<|ro d0j.eq_1
def c65:CFn:=⟨(.seq (.region c8f) (.seq (.region d0j) .ret)),[.t 2]⟩
def p65:Pers:=⟨3,[],7,[]⟩
def d4c(e:b7):Reg:=xA (wB (.slice none 0 0)) fun a=>xC (e.upd 4 a)
def d4f(e:b7):Reg:=xA (wB (.slice none 0 0)) fun a=>xC (e.upd 5 a)
def d2s(e:b7):Reg:=xA (wB (e 1)) fun a=>xA (.minmax true [a,(.int .i64 0)]) fun b=>xA (wB (e 0)) fun c=>xA (wD 83 [c]) fun d=>xA (.minmax false [b,d]) fun f=>xA (wB (.int .i64 0)) fun g=>xC ((e.upd 10 f).upd 11 g)
def d4B(e:b7):Reg:=xA (wE .lss (e 11) (e 10)) fun a=>xC (e.upd 12 a)
def a8X(e:b7)(a b c:Value):Reg:=xA (wA none c) fun d=>xA (wI 1 b d) fun f=>xA (wA none f) fun g=>xA (.buildSlice 5 1 [(.int .u8 0)] [(0,1,g)]) fun i=>xD fun h12=>xA (.append 5 1 1 a i) fun j=>xA (wB j) fun k=>xC (e.upd 5 k)
def d8w(e:b7):Reg:=xA (wB (e 5)) fun a=>xA (wB (e 0)) fun b=>xA (wJ b) fun c=>xA (wC 0 c) fun d=>xA (wA none d) fun f=>xA (wB (e 0)) fun g=>xA (wJ g) fun i=>xA (wC 1 i) fun j=>a8X e a f j
def a8x(e:b7)(a b c:Value):Reg:=xA (wC 0 c) fun d=>xA (wA none d) fun f=>xA (wL f) fun g=>xA (wE .rem b g) fun i=>xA (wJ a) fun j=>xA (wC 1 j) fun k=>xD fun h14=>xA (wF 1 k i) fun _=>xC e
def d2E(e:b7):Reg:=xA (wB (e 0)) fun a=>xA (wB (e 0)) fun b=>xA (wJ b) fun c=>xA (wC 1 c) fun d=>xA (wA none d) fun f=>xA (wE .add f (.int .i64 1)) fun g=>xA (wB (e 0)) fun i=>xA (wJ i) fun j=>a8x e a g j
def d6t(e:b7):Reg:=xA (wB (e 0)) fun a=>xA (wJ a) fun b=>xA (wC 2 b) fun c=>xA (wA none c) fun d=>xA (wE .sub d (.int .i64 1)) fun f=>xA (wJ a) fun g=>xA (wC 2 g) fun i=>xA (wF 1 i f) fun _=>xC e
def c9c(e:b7):Reg:=xA (wE .add (e 11) (.int .i64 1)) fun a=>xA (wB a) fun b=>xC (e.upd 11 b)
def b1L:CC:=(.seq (.region d4B) (.seq (.cond (fun e=>e 12) .skip (.exit 0)) (.seq (.block 1 (.seq (.region d8w) (.seq (.region d2E) (.region d6t)))) (.region c9c))))
def d1J(e:b7):Reg:=xA (wB (e 5)) fun a=>xA (wB a) fun b=>xC (e.upd 4 b)
def R66:=an (ro d4c.eq_1)<|an (ro d4f.eq_1)<|an (ro d2s.eq_1)<|an (ro d4B.eq_1)<|an (W3 a8X.eq_1)<|an (ro d8w.eq_1)<|an (W3 a8x.eq_1)<|an (ro d2E.eq_1)<|an (ro d6t.eq_1)<|an (ro c9c.eq_1)<|ro d1J.eq_1
def c66:CFn:=⟨(.seq (.region d4c) (.seq (.region d4f) (.seq (.seq (.region d2s) (.block 0 (.loop b1L))) (.seq (.region d1J) .ret)))),[.t 4]⟩
def p66:Pers:=⟨6,[10,11,12],49,[]⟩
def c7V(e:b7):Reg:=xA (wB (.int .i64 0)) fun a=>xC (e.upd 2 a)
def d0y(e:b7):Reg:=xA (wB (e 0)) fun a=>xA (.eqK .ptr false a (.pointer none)) fun b=>xC (e.upd 4 b)
def c8M(e:b7):Reg:=xA (wB (.int .i64 0)) fun a=>xC (e.upd 2 a)
def d5U(e:b7):Reg:=xA (wB (e 0)) fun a=>xA (wJ a) fun b=>xA (wC 4 b) fun c=>xA (wA none c) fun d=>xA (wB d) fun f=>xC (e.upd 2 f)
def R70:=an (ro c7V.eq_1)<|an (ro d0y.eq_1)<|an (ro c8M.eq_1)<|ro d5U.eq_1
def c70:CFn:=⟨(.seq (.region c7V) (.seq (.seq (.region d0y) (.cond (fun e=>e 4) (.seq (.region c8M) .ret) .skip)) (.seq (.region d5U) .ret))),[.t 2]⟩
def p70:Pers:=⟨3,[4],9,[]⟩
def d8v(e:b7):Reg:=xA (wH 61 [(.int .i64 0),(.int .i64 0),(.int .u32 0),(.string ⟨#[]⟩),(.int .i64 0)]) fun a=>xA (wB (.int .i64 0)) fun b=>xA (wB (.int .i64 0)) fun c=>xC (((e.upd 4 a).upd 5 b).upd 6 c)
def d5Q(e:b7):Reg:=xA (wB (e 0)) fun a=>xA (wB (e 1)) fun b=>xA (wD 84 [a,b]) fun c=>xA (wB c) fun d=>xC (e.upd 7 d)
def d3a(e:b7):Reg:=xA (wB (e 7)) fun a=>xA (wE .neq a (.int .i64 0)) fun b=>xC (e.upd 14 b)
def d8o(e:b7):Reg:=xA (wM [(.int .i64 0),(.int .i64 0),(.int .u32 0),(.string ⟨#[]⟩),(.int .i64 0)] []) fun a=>xA (wB (e 7)) fun b=>xA (wF 5 (e 4) a) fun _=>xA (wB (.int .i64 0)) fun c=>xA (wB b) fun d=>xC ((e.upd 5 c).upd 6 d)
def a9i(e:b7)(a b c:Value):Reg:=xB a false (wA none c) fun d=>xB a false (wO .i64 d) fun f=>xB a false (wE .add (.int .i64 4) f) fun g=>xB a false (wE .lss b g) fun i=>xA (wK a (.bool true) i) fun j=>xC (e.upd 29 j)
def d0C(e:b7):Reg:=xA (wB (e 0)) fun a=>xA (wL a) fun b=>xA (wE .lss b (.int .i64 4)) fun c=>xA (wB c) fun d=>xB d false (wB (e 0)) fun f=>xB d false (wL f) fun g=>xB d false (wB (e 0)) fun i=>xB d false (wI 1 i (.int .i64 3)) fun j=>a9i e d g j
def d3v(e:b7):Reg:=xA (wM [(.int .i64 0),(.int .i64 0),(.int .u32 0),(.string ⟨#[]⟩),(.int .i64 0)] []) fun a=>xA (wF 5 (e 4) a) fun _=>xA (wB (.int .i64 0)) fun b=>xA (wB (.int .i64 0)) fun c=>xC ((e.upd 5 b).upd 6 c)
def d6s(e:b7):Reg:=xA (wB (e 0)) fun a=>xA (wI 1 a (.int .i64 3)) fun b=>xA (wA none b) fun c=>xA (wO .i64 c) fun d=>xA (wE .add (.int .i64 4) d) fun f=>xA (wB f) fun g=>xC (e.upd 8 g)
def b0h(e:b7)(a b:Value):Reg:=xA (wM [(.int .i64 0),(.int .i64 0),(.int .u32 0),(.string ⟨#[]⟩),(.int .i64 0)] [(0,1,a),(1,1,b)]) fun c=>xA (wH 61 [(.int .i64 0),(.int .i64 0),(.int .u32 0),(.string ⟨#[]⟩),(.int .i64 0)]) fun d=>xD fun h10=>xA (wF 5 d c) fun _=>xC (e.upd 9 d)
def c8F(e:b7):Reg:=xA (wB (e 0)) fun a=>xA (wI 1 a (.int .i64 4)) fun b=>xA (wA none b) fun c=>xA (wO .i64 c) fun d=>xA (wB (e 0)) fun f=>xA (wI 1 f (.int .i64 5)) fun g=>xA (wA none g) fun i=>xA (wO .i64 i) fun j=>b0h e d j
def d5x(e:b7):Reg:=xA (wC 0 (e 9)) fun a=>xA (wA none a) fun b=>xC (e.upd 46 b)
def d6R(e:b7):Reg:=xA (wE .eql (e 46) (.int .i64 1)) fun a=>xA (wB a) fun b=>xC (e.upd 47 b)
def b8N(e:b7):Reg:=xA (wE .eql (e 46) (.int .i64 2)) fun a=>xA (wB a) fun b=>xC (e.upd 47 b)
def a6K(e:b7)(a:Value):Reg:=xA (wC 3 (e 9)) fun b=>xD fun h11=>xA (wF 1 b a) fun _=>xC e
def a5X(e:b7)(h2:Heap)(a b c d:Value):Reg:=xE none (some h2) (.slice 5 1 b (some (.int .i64 11)) (some c)) d<|xA (.toStr d) fun f=>xE none (some h2) (.toStr d) f<|xA (wC 2 (e 9)) fun g=>xD fun h9=>xA (wF 1 g a) fun _=>xE none none (.toStr d) f<|xE none none (.slice 5 1 b (some (.int .i64 11)) (some c)) d<|a6K e f
def c2E(e:b7):Reg:=xA (wB (e 0)) fun a=>xA (.slice 5 1 a (some (.int .i64 6)) (some (.int .i64 10))) fun b=>xD fun h2=>xA (wD 46 [b]) fun c=>xA (wO .u32 c) fun d=>xA (wB (e 0)) fun f=>xA (wB (e 8)) fun g=>xA (.slice 5 1 f (some (.int .i64 11)) (some g)) fun i=>a5X e h2 d f g i
def c0I(e:b7):Reg:=xA (wE .eql (e 46) (.int .i64 4)) fun a=>xA (wB a) fun b=>xC (e.upd 60 b)
def b8E(e:b7):Reg:=xA (wB (e 0)) fun a=>xA (wI 1 a (.int .i64 6)) fun b=>xA (wA none b) fun c=>xA (wO .i64 c) fun d=>xA (wC 4 (e 9)) fun f=>xA (wF 1 f d) fun _=>xC e
def c1o(e:b7):Reg:=xA (wA (some 5) (e 9)) fun a=>xA (wB (e 8)) fun b=>xA (wF 5 (e 4) a) fun _=>xA (wB b) fun c=>xA (wB (.int .i64 0)) fun d=>xC ((e.upd 5 c).upd 6 d)
def R71:=an (ro d8v.eq_1)<|an (ro d5Q.eq_1)<|an (ro d3a.eq_1)<|an (ro d8o.eq_1)<|an (W3 a9i.eq_1)<|an (ro d0C.eq_1)<|an (ro d3v.eq_1)<|an (ro d6s.eq_1)<|an (O5 b0h.eq_1)<|an (ro c8F.eq_1)<|an (ro d5x.eq_1)<|an (ro d6R.eq_1)<|an (ro b8N.eq_1)<|an (ro1 a6K.eq_1)<|an (ro5 a5X.eq_1)<|an (ro c2E.eq_1)<|an (ro c0I.eq_1)<|an (ro b8E.eq_1)<|ro c1o.eq_1
def c71:CFn:=⟨(.seq (.region d8v) (.seq (.seq (.region d5Q) (.seq (.region d3a) (.cond (fun e=>e 14) (.seq (.region d8o) .ret) .skip))) (.seq (.seq (.region d0C) (.cond (fun e=>e 29) (.seq (.region d3v) .ret) .skip)) (.seq (.region d6s) (.seq (.region c8F) (.seq (.seq (.region d5x) (.block 0 (.seq (.seq (.region d6R) (.cond (fun e=>e 47) .skip (.region b8N))) (.cond (fun e=>e 47) (.region c2E) (.seq (.region c0I) (.cond (fun e=>e 60) (.region b8E) .skip)))))) (.seq (.region c1o) .ret))))))),[.c 4 (some 5),.t 5,.t 6]⟩
def p71:Pers:=⟨10,[14,29,46,47,60],69,[]⟩
def d5q(e:b7):Reg:=xA (wB (.int .i64 0)) fun a=>xA (wB (.bool false)) fun b=>xC ((e.upd 4 a).upd 5 b)
def d5a(e:b7):Reg:=xA (wB (e 0)) fun a=>xA (wO .u64 a) fun b=>xA (wB (e 1)) fun c=>xA (wO .u64 c) fun d=>xA (wD 85 [b,d]) fun f=>xA (wB f) fun g=>xA (wG g 0) fun i=>xA (wG g 1) fun j=>xA (wB i) fun k=>xA (wB j) fun m=>xC ((e.upd 6 k).upd 7 m)
def c8q(e:b7):Reg:=xA (wB (e 6)) fun a=>xA (wO .i64 a) fun b=>xA (wB b) fun c=>xC (e.upd 8 c)
def c8g(e:b7):Reg:=xA (wB (e 0)) fun a=>xA (wE .lss a (.int .i64 0)) fun b=>xC (e.upd 20 b)
def d0N(e:b7):Reg:=xA (wB (e 8)) fun a=>xA (wB (e 1)) fun b=>xA (wE .sub a b) fun c=>xA (wB c) fun d=>xC (e.upd 8 d)
def d0K(e:b7):Reg:=xA (wB (e 1)) fun a=>xA (wE .lss a (.int .i64 0)) fun b=>xC (e.upd 25 b)
def d6U(e:b7):Reg:=xA (wB (e 8)) fun a=>xA (wB (e 0)) fun b=>xA (wE .sub a b) fun c=>xA (wB c) fun d=>xC (e.upd 8 d)
def c9b(e:b7):Reg:=xA (wB (e 7)) fun a=>xA (wO .i64 a) fun b=>xA (wB (e 8)) fun c=>xA (wB (e 7)) fun d=>xA (wO .i64 d) fun f=>xA (wE .shr f (.int .u64 63)) fun g=>xA (wE .eql c g) fun i=>xA (wB b) fun j=>xA (wB i) fun k=>xC ((e.upd 4 j).upd 5 k)
def R72:=an (ro d5q.eq_1)<|an (ro d5a.eq_1)<|an (ro c8q.eq_1)<|an (ro c8g.eq_1)<|an (ro d0N.eq_1)<|an (ro d0K.eq_1)<|an (ro d6U.eq_1)<|ro c9b.eq_1
def c72:CFn:=⟨(.seq (.region d5q) (.seq (.region d5a) (.seq (.region c8q) (.seq (.seq (.region c8g) (.cond (fun e=>e 20) (.region d0N) .skip)) (.seq (.seq (.region d0K) (.cond (fun e=>e 25) (.region d6U) .skip)) (.seq (.region c9b) .ret)))))),[.t 4,.t 5]⟩
def p72:Pers:=⟨9,[20,25],36,[]⟩
def c7Y(e:b7):Reg:=xA (wB (.int .i64 0)) fun a=>xC (e.upd 4 a)
def d1d(e:b7):Reg:=xA (wB (e 0)) fun a=>xA (wE .lss a (.int .i64 0)) fun b=>xA (wB b) fun c=>xB c false (wB (e 1)) fun d=>xB c false (wE .lss d (.int .i64 1)) fun f=>xA (wK c (.bool true) f) fun g=>xC (e.upd 11 g)
def d4l(e:b7):Reg:=xA (wB (.int .i64 0)) fun a=>xC (e.upd 4 a)
def d2v(e:b7):Reg:=xA (wB (e 0)) fun a=>xA (wB (e 1)) fun b=>xA (wE .quo a b) fun c=>xA (wB c) fun d=>xC (e.upd 5 d)
def d0W(e:b7):Reg:=xA (wB (e 0)) fun a=>xA (wB (e 1)) fun b=>xA (wE .rem a b) fun c=>xA (wE .gtr c (.int .i64 0)) fun d=>xC (e.upd 18 d)
def c9m(e:b7):Reg:=xA (wB (e 5)) fun a=>xA (wE .add a (.int .i64 1)) fun b=>xA (wB b) fun c=>xC (e.upd 5 c)
def c9Q(e:b7):Reg:=xA (wB (e 5)) fun a=>xA (wB a) fun b=>xC (e.upd 4 b)
def R73:=an (ro c7Y.eq_1)<|an (ro d1d.eq_1)<|an (ro d4l.eq_1)<|an (ro d2v.eq_1)<|an (ro d0W.eq_1)<|an (ro c9m.eq_1)<|ro c9Q.eq_1
def c73:CFn:=⟨(.seq (.region c7Y) (.seq (.seq (.region d1d) (.cond (fun e=>e 11) (.seq (.region d4l) .ret) .skip)) (.seq (.region d2v) (.seq (.seq (.region d0W) (.cond (fun e=>e 18) (.region c9m) .skip)) (.seq (.region c9Q) .ret))))),[.t 4]⟩
def p73:Pers:=⟨6,[11,18],22,[]⟩
def d4G(e:b7):Reg:=xA (wN 61 (e 0)) fun a=>xA (wB (.int .i64 0)) fun b=>xC ((e.upd 2 a).upd 4 b)
def d5R(e:b7):Reg:=xA (wC 0 (e 2)) fun a=>xA (wA none a) fun b=>xC (e.upd 6 b)
def d0t(e:b7):Reg:=xA (wE .eql (e 6) (.int .i64 3)) fun a=>xA (wB a) fun b=>xC (e.upd 7 b)
def d4v(e:b7):Reg:=xA (wB (.int .i64 46)) fun a=>xC (e.upd 4 a)
def d1D(e:b7):Reg:=xA (wE .eql (e 6) (.int .i64 4)) fun a=>xA (wB a) fun b=>xC (e.upd 9 b)
def c8J(e:b7):Reg:=xA (wC 4 (e 2)) fun a=>xA (wA none a) fun b=>xA (.minmax true [b,(.int .i64 1)]) fun c=>xA (wB (e 1)) fun d=>xA (.minmax false [c,d]) fun f=>xA (wE .mul f (.int .i64 81)) fun g=>xA (wE .add (.int .i64 7) g) fun i=>xA (wB i) fun j=>xC (e.upd 4 j)
def c8h(e:b7):Reg:=xA (wB (.int .i64 22)) fun a=>xC (e.upd 4 a)
def R74:=an (ro d4G.eq_1)<|an (ro d5R.eq_1)<|an (ro d0t.eq_1)<|an (ro d4v.eq_1)<|an (ro d1D.eq_1)<|an (ro c8J.eq_1)<|ro c8h.eq_1
def c74:CFn:=⟨(.seq (.region d4G) (.seq (.seq (.region d5R) (.block 0 (.seq (.region d0t) (.cond (fun e=>e 7) (.seq (.region d4v) .ret) (.seq (.region d1D) (.cond (fun e=>e 9) (.seq (.region c8J) .ret) .skip)))))) (.seq (.region c8h) .ret))),[.t 4]⟩
def p74:Pers:=⟨5,[6,7,9],18,[]⟩
def d3f(e:b7):Reg:=xA (wB (.int .i64 0)) fun a=>xC (e.upd 2 a)
def c9q(e:b7):Reg:=xA (wB (e 0)) fun a=>xA (wB a) fun b=>xC (e.upd 2 b)
def R75:=an (ro d3f.eq_1)<|ro c9q.eq_1
def c75:CFn:=⟨(.seq (.region d3f) (.seq (.region c9q) .ret)),[.t 2]⟩
def p75:Pers:=⟨3,[],4,[]⟩
def d8b(e:b7):Reg:=xA (wN 34 (e 0)) fun a=>xA (wB (.int .i64 0)) fun b=>xC ((e.upd 1 a).upd 2 b)
def a8C(e:b7)(h2 h4 h8:Heap)(a:Value):Reg:=xA (wC 5 (e 1)) fun b=>xA (wA none b) fun c=>xE none (some h8) (wA none b) c<|xE none (some h4) (wA none b) c<|xE none (some h2) (wA none b) c<|xA (wE .add c (.int .i64 1)) fun d=>xA (wE .mul (.int .i64 24) d) fun f=>xA (wE .add a f) fun g=>xA (wB g) fun i=>xC (e.upd 2 i)
def a8l(e:b7)(h2:Heap)(a:Value)(h4:Heap)(b:Value):Reg:=xA (wE .add a b) fun c=>xA (wC 7 (e 1)) fun d=>xA (wA none d) fun f=>xE none (some h4) (wA none d) f<|xE none (some h2) (wA none d) f<|xD fun h8=>xA (wD 88 [f]) fun g=>xA (wE .add c g) fun i=>a8C e h2 h4 h8 i
def d8U(e:b7):Reg:=xA (wC 4 (e 1)) fun a=>xA (wA none a) fun b=>xD fun h2=>xA (wD 86 [b]) fun c=>xA (wA (some 9) (e 1)) fun d=>xE none (some h2) (wA (some 9) (e 1)) d<|xD fun h4=>xA (wD 87 [d]) fun f=>a8l e h2 c h4 f
def R76:=an (ro d8b.eq_1)<|an (ro4 a8C.eq_1)<|an (ro4 a8l.eq_1)<|ro d8U.eq_1
def c76:CFn:=⟨(.seq (.region d8b) (.seq (.region d8U) .ret)),[.t 2]⟩
def p76:Pers:=⟨3,[],18,[]⟩
def d6F(e:b7):Reg:=xA (wB (.pointer none)) fun a=>xC (e.upd 2 a)
def d0E(e:b7):Reg:=xA (wB (e 0)) fun a=>xA (wE .lss a (.int .i64 1)) fun b=>xA (wB b) fun c=>xB c false (wB (e 0)) fun d=>xB c false (wE .gtr d (.int .i64 65536)) fun f=>xA (wK c (.bool true) f) fun g=>xC (e.upd 8 g)
def d1b(e:b7):Reg:=xA (wB (.pointer none)) fun a=>xC (e.upd 2 a)
def c7W(e:b7):Reg:=xA (wB (e 0)) fun a=>xA (.makeSlice 5 1 1 [(.int .u8 0)] a a) fun b=>xA (wM [(.slice none 0 0),(.int .i64 0),(.int .i64 0)] [(0,1,b)]) fun c=>xA (wN 188 c) fun d=>xA (wB d) fun f=>xC (e.upd 2 f)
def R77:=an (ro d6F.eq_1)<|an (ro d0E.eq_1)<|an (ro d1b.eq_1)<|ro c7W.eq_1
def c77:CFn:=⟨(.seq (.region d6F) (.seq (.seq (.region d0E) (.cond (fun e=>e 8) (.seq (.region d1b) .ret) .skip)) (.seq (.region c7W) .ret))),[.t 2]⟩
def p77:Pers:=⟨3,[8],13,[]⟩
def d8r(e:b7):Reg:=xA (wB (.slice none 0 0)) fun a=>xC (e.upd 4 a)
def d2m(e:b7):Reg:=xA (wB (.slice none 0 0)) fun a=>xC (e.upd 5 a)
def c8O(e:b7):Reg:=xA (wB (e 1)) fun a=>xA (.minmax true [a,(.int .i64 0)]) fun b=>xA (.minmax false [b,(.int .i64 9)]) fun c=>xA (wB (.int .i64 0)) fun d=>xC ((e.upd 9 c).upd 10 d)
def d6f(e:b7):Reg:=xA (wE .lss (e 10) (e 9)) fun a=>xC (e.upd 11 a)
def d4V(e:b7):Reg:=xA (wB (e 10)) fun a=>xA (wB a) fun b=>xC (e.upd 6 b)
def b0j(e:b7)(a b c d:Value):Reg:=xA (wM [(.int .u64 0),(.int .u64 0),(.int .u64 0)] [(0,1,b),(1,1,c),(2,1,d)]) fun f=>xA (.buildSlice 182 1 [(.int .u64 0),(.int .u64 0),(.int .u64 0)] [(0,3,f)]) fun g=>xA (.append 182 3 24 a g) fun i=>xA (wB i) fun j=>xC (e.upd 5 j)
def a9S(e:b7)(a b c d:Value):Reg:=xA (wE .add d (.int .i64 1)) fun f=>xA (wD 89 [c,f]) fun g=>xA (wB (e 0)) fun i=>xA (wB (e 6)) fun j=>xA (wE .mul (.int .i64 3) j) fun k=>xA (wE .add k (.int .i64 2)) fun m=>xA (wD 91 [i,m]) fun n=>xA (wD 90 [n]) fun o=>b0j e a b g o
def d8a(e:b7):Reg:=xA (wB (e 5)) fun a=>xA (wB (e 0)) fun b=>xA (wB (e 6)) fun c=>xA (wE .mul (.int .i64 3) c) fun d=>xA (wD 89 [b,d]) fun f=>xA (wB (e 0)) fun g=>xA (wB (e 6)) fun i=>xA (wE .mul (.int .i64 3) i) fun j=>a9S e a f g j
def d1Q(e:b7):Reg:=xA (wE .add (e 10) (.int .i64 1)) fun a=>xA (wB a) fun b=>xC (e.upd 10 b)
def b1q:CC:=(.seq (.region d6f) (.seq (.cond (fun e=>e 11) .skip (.exit 0)) (.seq (.block 1 (.seq (.region d4V) (.region d8a))) (.region d1Q))))
def d7i(e:b7):Reg:=xA (wB (e 5)) fun a=>xA (wB a) fun b=>xC (e.upd 4 b)
def R78:=an (ro d8r.eq_1)<|an (ro d2m.eq_1)<|an (ro c8O.eq_1)<|an (ro d6f.eq_1)<|an (ro d4V.eq_1)<|an (ro4 b0j.eq_1)<|an (ro4 a9S.eq_1)<|an (ro d8a.eq_1)<|an (ro d1Q.eq_1)<|ro d7i.eq_1
def c78:CFn:=⟨(.seq (.region d8r) (.seq (.region d2m) (.seq (.seq (.region c8O) (.block 0 (.loop b1q))) (.seq (.region d7i) .ret)))),[.t 4]⟩
def p78:Pers:=⟨7,[9,10,11],34,[]⟩
def c8i(e:b7):Reg:=xA (wN 34 (e 0)) fun a=>xA (wH 126 [(.int .i64 0),(.int .i64 0),(.int .i64 0),(.int .i64 0)]) fun b=>xC ((e.upd 1 a).upd 2 b)
def a8Y(e:b7)(h8:Heap)(a b c:Value):Reg:=xA (wC 0 (e 1)) fun d=>xA (wA none d) fun f=>xE none (some h8) (wA none d) f<|xA (wM [(.int .i64 0),(.int .i64 0),(.int .i64 0),(.int .i64 0)] [(0,1,a),(1,1,b),(2,1,c),(3,1,f)]) fun g=>xD fun h16=>xA (wF 4 (e 2) g) fun _=>xC e
def a8K(e:b7)(a b:Value):Reg:=xD fun h8=>xA (wD 73 [a,b]) fun c=>xA (wC 1 (e 1)) fun d=>xA (wA none d) fun f=>xE none (some h8) (wA none d) f<|xA (wC 2 (e 1)) fun g=>xA (wA none g) fun i=>xE none (some h8) (wA none g) i<|a8Y e h8 c f i
def d2o(e:b7):Reg:=xA (wC 1 (e 1)) fun a=>xA (wA none a) fun b=>xA (wC 0 (e 1)) fun c=>xA (wA none c) fun d=>xA (wE .add d (.int .i64 1)) fun f=>xA (wC 2 (e 1)) fun g=>xA (wA none g) fun i=>xA (wE .sub f i) fun j=>a8K e b j
def R79:=an (ro c8i.eq_1)<|an (ro4 a8Y.eq_1)<|an (O5 a8K.eq_1)<|ro d2o.eq_1
def c79:CFn:=⟨(.seq (.region c8i) (.seq (.region d2o) .ret)),[.c 2 (some 4)]⟩
def p79:Pers:=⟨3,[],19,[]⟩
def d4F(e:b7):Reg:=xA (wN 182 (e 1)) fun a=>xA (wB (.pointer none)) fun b=>xC ((e.upd 3 a).upd 4 b)
def d1v(e:b7):Reg:=xA (wB (e 0)) fun a=>xA (wE .lss a (.int .i64 1)) fun b=>xA (wB b) fun c=>xB c false (wB (e 0)) fun d=>xB c false (wE .gtr d (.int .i64 1024)) fun f=>xA (wK c (.bool true) f) fun g=>xC (e.upd 11 g)
def c9p(e:b7):Reg:=xA (wB (.pointer none)) fun a=>xC (e.upd 4 a)
def d7R(e:b7):Reg:=xA (wB (e 0)) fun a=>xD fun h1=>xA (wD 92 [a]) fun b=>xA (wB (e 0)) fun c=>xA (.makeSlice 250 4 32 [(.int .i64 0),(.int .i64 0),(.int .i64 0),(.int .i64 0)] c c) fun d=>xA (wM [(.pointer none),(.pointer none),(.slice none 0 0)] [(0,1,b),(2,1,d)]) fun f=>xA (wN 165 f) fun g=>xA (wB g) fun i=>xC (e.upd 5 i)
def b0s(e:b7)(a b:Value):Reg:=xA (wJ a) fun c=>xA (wC 1 c) fun d=>xD fun h9=>xA (wF 1 d b) fun _=>xC e
def c8L(e:b7):Reg:=xA (wB (e 5)) fun a=>xA (wB (e 5)) fun b=>xA (wJ b) fun c=>xA (wC 0 c) fun d=>xA (wA none d) fun f=>xA (wA (some 3) (e 3)) fun g=>xD fun h6=>xA (wD 93 [f,g]) fun i=>b0s e a i
def d0i(e:b7):Reg:=xA (wB (e 5)) fun a=>xA (wB a) fun b=>xC (e.upd 4 b)
def R80:=an (ro d4F.eq_1)<|an (ro d1v.eq_1)<|an (ro c9p.eq_1)<|an (ro d7R.eq_1)<|an (O5 b0s.eq_1)<|an (ro c8L.eq_1)<|ro d0i.eq_1
def c80:CFn:=⟨(.seq (.region d4F) (.seq (.seq (.region d1v) (.cond (fun e=>e 11) (.seq (.region c9p) .ret) .skip)) (.seq (.region d7R) (.seq (.region c8L) (.seq (.region d0i) .ret))))),[.t 4]⟩
def p80:Pers:=⟨6,[11],28,[]⟩
def d0B(e:b7):Reg:=xA (wN 34 (e 0)) fun a=>xA (wB (.pointer none)) fun b=>xC ((e.upd 2 a).upd 4 b)
def a8k(e:b7)(a:Value):Reg:=xA (wB a) fun b=>xB b false (wB (e 1)) fun c=>xB b false (wL c) fun d=>xB b false (wE .eql d (.int .i64 0)) fun f=>xA (wK b (.bool true) f) fun g=>xA (wB g) fun i=>xB i false (wC 6 (e 2)) fun j=>xB i false (wA none j) fun k=>xB i false (wE .lss k (.int .i64 1)) fun m=>xA (wK i (.bool true) m) fun n=>xC (e.upd 32 n)
def a9X(e:b7)(a:Value):Reg:=xA (wB a) fun b=>xB b false (wC 1 (e 2)) fun c=>xB b false (wA none c) fun d=>xB b false (wC 3 (e 2)) fun f=>xB b false (wA none f) fun g=>xB b false (wE .quo d g) fun i=>xB b false (wE .lss i (.int .i64 1)) fun j=>xA (wK b (.bool true) j) fun k=>a8k e k
def d5f(e:b7):Reg:=xA (wC 3 (e 2)) fun a=>xA (wA none a) fun b=>xA (wE .lss b (.int .i64 1)) fun c=>xA (wB c) fun d=>xB d false (wC 3 (e 2)) fun f=>xB d false (wA none f) fun g=>xB d false (wE .gtr g (.int .i64 64)) fun i=>xA (wK d (.bool true) i) fun j=>a9X e j
def c8m(e:b7):Reg:=xA (wB (.pointer none)) fun a=>xC (e.upd 4 a)
def a9F(e:b7)(a b c d f:Value):Reg:=xA (wA none f) fun g=>xA (wC 8 (e 2)) fun i=>xA (wA none i) fun j=>xA (wM [(.slice none 0 0),(.slice none 0 0),(.int .i64 0),(.int .i64 0),(.int .i64 0),(.bool false),(.int .i64 0)] [(0,1,a),(1,1,b),(2,1,c),(3,1,d),(4,1,g),(5,1,j)]) fun k=>xA (wN 201 k) fun m=>xA (wB m) fun n=>xC (e.upd 5 n)
def a8q(e:b7)(a b:Value):Reg:=xA (wC 1 (e 2)) fun c=>xA (wA none c) fun d=>xA (wC 3 (e 2)) fun f=>xA (wA none f) fun g=>xA (wE .quo d g) fun i=>xA (wB (e 1)) fun j=>xA (wL j) fun k=>xA (wC 0 (e 2)) fun m=>a9F e a b i k m
def d5W(e:b7):Reg:=xA (wC 3 (e 2)) fun a=>xA (wA none a) fun b=>xA (wE .add b (.int .i64 1)) fun c=>xA (.makeSlice 202 1 8 [(.pointer none)] c c) fun d=>xA (wC 3 (e 2)) fun f=>xA (wA none f) fun g=>xA (wE .add g (.int .i64 1)) fun i=>xA (.makeSlice 2 1 8 [(.int .i64 0)] i i) fun j=>a8q e d j
def c8j(e:b7):Reg:=xA (wB (e 5)) fun a=>xA (wJ a) fun b=>xA (wC 0 b) fun c=>xA (wA none c) fun d=>xA (wL d) fun f=>xA (wB (.int .i64 0)) fun g=>xC ((e.upd 58 f).upd 59 g)
def d5T(e:b7):Reg:=xA (wE .lss (e 59) (e 58)) fun a=>xC (e.upd 60 a)
def d4P(e:b7):Reg:=xA (wB (e 59)) fun a=>xA (wB a) fun b=>xC (e.upd 6 b)
def b0J(e:b7)(a b c d f:Value):Reg:=xD fun h8=>xA (wD 94 [d,f]) fun g=>xE none none (wA none a) b<|xA (wI 1 b c) fun i=>xD fun h10=>xA (wF 1 i g) fun _=>xC e
def d4t(e:b7):Reg:=xA (wB (e 5)) fun a=>xA (wJ a) fun b=>xA (wC 0 b) fun c=>xA (wA none c) fun d=>xA (wB (e 6)) fun f=>xA (wB (e 1)) fun g=>xA (wC 6 (e 2)) fun i=>xA (wA none i) fun j=>b0J e c d f g j
def d7E(e:b7):Reg:=xA (wE .add (e 59) (.int .i64 1)) fun a=>xA (wB a) fun b=>xC (e.upd 59 b)
def b1O:CC:=(.seq (.region d5T) (.seq (.cond (fun e=>e 60) .skip (.exit 0)) (.seq (.block 1 (.seq (.region d4P) (.region d4t))) (.region d7E))))
def d0I(e:b7):Reg:=xA (wB (e 5)) fun a=>xA (wB a) fun b=>xC (e.upd 4 b)
def R81:=an (ro d0B.eq_1)<|an (ro1 a8k.eq_1)<|an (ro1 a9X.eq_1)<|an (ro d5f.eq_1)<|an (ro c8m.eq_1)<|an (ro5 a9F.eq_1)<|an (O5 a8q.eq_1)<|an (ro d5W.eq_1)<|an (ro c8j.eq_1)<|an (ro d5T.eq_1)<|an (ro d4P.eq_1)<|an (ro5 b0J.eq_1)<|an (ro d4t.eq_1)<|an (ro d7E.eq_1)<|ro d0I.eq_1
def c81:CFn:=⟨(.seq (.region d0B) (.seq (.seq (.region d5f) (.cond (fun e=>e 32) (.seq (.region c8m) .ret) .skip)) (.seq (.region d5W) (.seq (.seq (.region c8j) (.block 0 (.loop b1O))) (.seq (.region d0I) .ret))))),[.t 4]⟩
def p81:Pers:=⟨7,[32,58,59,60],74,[]⟩
def d1M(e:b7):Reg:=xA (wN 182 (e 1)) fun a=>xA (wB (.pointer none)) fun b=>xC ((e.upd 3 a).upd 4 b)
def d1z(e:b7):Reg:=xA (wB (e 0)) fun a=>xA (wE .lss a (.int .i64 1)) fun b=>xA (wB b) fun c=>xB c false (wB (e 0)) fun d=>xB c false (wE .gtr d (.int .i64 64)) fun f=>xA (wK c (.bool true) f) fun g=>xC (e.upd 11 g)
def d6u(e:b7):Reg:=xA (wB (.pointer none)) fun a=>xC (e.upd 4 a)
def b0p(e:b7)(a b c d:Value):Reg:=xA (.makeSlice 21 1 4 [(.int .i32 0)] d d) fun f=>xA (wB (e 0)) fun g=>xA (.makeSlice 21 1 4 [(.int .i32 0)] g g) fun i=>xA (wM [(.pointer none),(.pointer none),(.slice none 0 0),(.slice none 0 0),(.slice none 0 0),(.slice none 0 0),(.int .i64 0)] [(0,1,a),(2,1,b),(3,1,c),(4,1,f),(5,1,i)]) fun j=>xA (wN 169 j) fun k=>xA (wB k) fun m=>xC (e.upd 5 m)
def d1a(e:b7):Reg:=xA (wB (e 0)) fun a=>xD fun h1=>xA (wD 92 [a]) fun b=>xA (wB (e 0)) fun c=>xA (.makeSlice 2 1 8 [(.int .i64 0)] c c) fun d=>xA (wB (e 0)) fun f=>xA (.makeSlice 2 1 8 [(.int .i64 0)] f f) fun g=>xA (wB (e 0)) fun i=>b0p e b d g i
def a9N(e:b7)(a b:Value):Reg:=xA (wJ a) fun c=>xA (wC 1 c) fun d=>xD fun h9=>xA (wF 1 d b) fun _=>xC e
def d3N(e:b7):Reg:=xA (wB (e 5)) fun a=>xA (wB (e 5)) fun b=>xA (wJ b) fun c=>xA (wC 0 c) fun d=>xA (wA none d) fun f=>xA (wA (some 3) (e 3)) fun g=>xD fun h6=>xA (wD 93 [f,g]) fun i=>a9N e a i
def d5A(e:b7):Reg:=xA (wB (e 5)) fun a=>xA (wB a) fun b=>xC (e.upd 4 b)
def R82:=an (ro d1M.eq_1)<|an (ro d1z.eq_1)<|an (ro d6u.eq_1)<|an (ro4 b0p.eq_1)<|an (ro d1a.eq_1)<|an (O5 a9N.eq_1)<|an (ro d3N.eq_1)<|ro d5A.eq_1
def c82:CFn:=⟨(.seq (.region d1M) (.seq (.seq (.region d1z) (.cond (fun e=>e 11) (.seq (.region d6u) .ret) .skip)) (.seq (.region d1a) (.seq (.region d3N) (.seq (.region d5A) .ret))))),[.t 4]⟩
def p82:Pers:=⟨6,[11],34,[]⟩
def d0o(e:b7):Reg:=xA (wB (.int .i64 0)) fun a=>xC (e.upd 2 a)
def c9N(e:b7):Reg:=xA (wB (e 0)) fun a=>xA (.eqK .ptr false a (.pointer none)) fun b=>xC (e.upd 4 b)
def d1t(e:b7):Reg:=xA (wB (.int .i64 0)) fun a=>xC (e.upd 2 a)
def c8G(e:b7):Reg:=xA (wB (e 0)) fun a=>xA (wJ a) fun b=>xA (wC 2 b) fun c=>xA (wA none c) fun d=>xA (wB d) fun f=>xC (e.upd 2 f)
def R83:=an (ro d0o.eq_1)<|an (ro c9N.eq_1)<|an (ro d1t.eq_1)<|ro c8G.eq_1
def c83:CFn:=⟨(.seq (.region d0o) (.seq (.seq (.region c9N) (.cond (fun e=>e 4) (.seq (.region d1t) .ret) .skip)) (.seq (.region c8G) .ret))),[.t 2]⟩
def p83:Pers:=⟨3,[4],9,[]⟩
def d2F(e:b7):Reg:=xA (wB (.int .i64 0)) fun a=>xC (e.upd 4 a)
def d5v(e:b7):Reg:=xA (wB (e 0)) fun a=>xA (wL a) fun b=>xA (wB (.int .i64 0)) fun c=>xC (((e.upd 8 a).upd 9 b).upd 10 c)
def c9C(e:b7):Reg:=xA (wE .lss (e 10) (e 9)) fun a=>xC (e.upd 11 a)
def d8y(e:b7):Reg:=xA (wB (e 10)) fun a=>xA (wI 1 (e 8) (e 10)) fun b=>xA (wA none b) fun c=>xA (wB a) fun d=>xA (wB c) fun f=>xC ((e.upd 5 d).upd 6 f)
def a8v(e:b7)(a b c:Value):Reg:=xB a true (wE .add (.int .i64 4) c) fun d=>xB a true (wE .geq b d) fun f=>xA (wK a f (.bool false)) fun g=>xC (e.upd 25 g)
def d7V(e:b7):Reg:=xA (wB (e 5)) fun a=>xA (wE .geq a (.int .i64 4)) fun b=>xA (wB b) fun c=>xB c true (wB (e 5)) fun d=>xB c true (wB (e 0)) fun f=>xB c true (wI 1 f (.int .i64 3)) fun g=>xB c true (wA none g) fun i=>xB c true (wO .i64 i) fun j=>a8v e c d j
def d8M(e:b7):Reg:=xA (wB (e 0)) fun a=>xA (wB (e 5)) fun b=>xA (wB (e 6)) fun c=>xA (wB (e 1)) fun d=>xA (wD 95 [a,b,c,d]) fun f=>xA (wB f) fun g=>xC (e.upd 7 g)
def d8x(e:b7):Reg:=xA (wB (e 7)) fun a=>xA (wE .neq a (.int .i64 0)) fun b=>xC (e.upd 32 b)
def d0x(e:b7):Reg:=xA (wB (e 7)) fun a=>xA (wB a) fun b=>xC (e.upd 4 b)
def d8j(e:b7):Reg:=xA (wE .add (e 10) (.int .i64 1)) fun a=>xA (wB a) fun b=>xC (e.upd 10 b)
def a0S:CC:=(.seq (.region c9C) (.seq (.cond (fun e=>e 11) .skip (.exit 0)) (.seq (.block 1 (.seq (.region d8y) (.seq (.seq (.region d7V) (.cond (fun e=>e 25) (.exit 0) .skip)) (.seq (.region d8M) (.seq (.region d8x) (.cond (fun e=>e 32) (.seq (.region d0x) .ret) .skip)))))) (.region d8j))))
def d2z(e:b7):Reg:=xA (wB (.int .i64 0)) fun a=>xC (e.upd 4 a)
def R84:=an (ro d2F.eq_1)<|an (ro d5v.eq_1)<|an (ro c9C.eq_1)<|an (ro d8y.eq_1)<|an (W3 a8v.eq_1)<|an (ro d7V.eq_1)<|an (ro d8M.eq_1)<|an (ro d8x.eq_1)<|an (ro d0x.eq_1)<|an (ro d8j.eq_1)<|ro d2z.eq_1
def c84:CFn:=⟨(.seq (.region d2F) (.seq (.seq (.region d5v) (.block 0 (.loop a0S))) (.seq (.region d2z) .ret))),[.t 4]⟩
def p84:Pers:=⟨8,[8,9,10,11,25,32],35,[]⟩
def d2c(e:b7):Reg:=xA (wB (.int .u64 0)) fun a=>xA (wB (.int .u64 0)) fun b=>xC ((e.upd 4 a).upd 5 b)
def d6x(e:b7):Reg:=xA (wB (e 0)) fun a=>xA (wE .and a (.int .u64 4294967295)) fun b=>xA (wB b) fun c=>xC (e.upd 6 c)
def d6o(e:b7):Reg:=xA (wB (e 0)) fun a=>xA (wE .shr a (.int .u64 32)) fun b=>xA (wB b) fun c=>xC (e.upd 7 c)
def d1k(e:b7):Reg:=xA (wB (e 1)) fun a=>xA (wE .and a (.int .u64 4294967295)) fun b=>xA (wB b) fun c=>xC (e.upd 8 c)
def d6Q(e:b7):Reg:=xA (wB (e 1)) fun a=>xA (wE .shr a (.int .u64 32)) fun b=>xA (wB b) fun c=>xC (e.upd 9 c)
def c9D(e:b7):Reg:=xA (wB (e 6)) fun a=>xA (wB (e 8)) fun b=>xA (wE .mul a b) fun c=>xA (wB c) fun d=>xC (e.upd 10 d)
def d8z(e:b7):Reg:=xA (wB (e 7)) fun a=>xA (wB (e 8)) fun b=>xA (wE .mul a b) fun c=>xA (wB (e 10)) fun d=>xA (wE .shr d (.int .u64 32)) fun f=>xA (wE .add c f) fun g=>xA (wB g) fun i=>xC (e.upd 11 i)
def d2T(e:b7):Reg:=xA (wB (e 11)) fun a=>xA (wE .and a (.int .u64 4294967295)) fun b=>xA (wB b) fun c=>xC (e.upd 12 c)
def c8D(e:b7):Reg:=xA (wB (e 11)) fun a=>xA (wE .shr a (.int .u64 32)) fun b=>xA (wB b) fun c=>xC (e.upd 13 c)
def d6L(e:b7):Reg:=xA (wB (e 12)) fun a=>xA (wB (e 6)) fun b=>xA (wB (e 9)) fun c=>xA (wE .mul b c) fun d=>xA (wE .add a d) fun f=>xA (wB f) fun g=>xC (e.upd 12 g)
def b6Q(e:b7):Reg:=xA (wB (e 7)) fun a=>xA (wB (e 9)) fun b=>xA (wE .mul a b) fun c=>xA (wB (e 13)) fun d=>xA (wE .add c d) fun f=>xA (wB (e 12)) fun g=>xA (wE .shr g (.int .u64 32)) fun i=>xA (wE .add f i) fun j=>xA (wB j) fun k=>xC (e.upd 4 k)
def c0P(e:b7):Reg:=xA (wB (e 0)) fun a=>xA (wB (e 1)) fun b=>xA (wE .mul a b) fun c=>xA (wB c) fun d=>xC (e.upd 5 d)
def R85:=an (ro d2c.eq_1)<|an (ro d6x.eq_1)<|an (ro d6o.eq_1)<|an (ro d1k.eq_1)<|an (ro d6Q.eq_1)<|an (ro c9D.eq_1)<|an (ro d8z.eq_1)<|an (ro d2T.eq_1)<|an (ro c8D.eq_1)<|an (ro d6L.eq_1)<|an (ro b6Q.eq_1)<|ro c0P.eq_1
def c85:CFn:=⟨(.seq (.region d2c) (.seq (.region d6x) (.seq (.region d6o) (.seq (.region d1k) (.seq (.region d6Q) (.seq (.region c9D) (.seq (.region d8z) (.seq (.region d2T) (.seq (.region c8D) (.seq (.region d6L) (.seq (.region b6Q) (.seq (.region c0P) .ret)))))))))))),[.t 4,.t 5]⟩
def p85:Pers:=⟨14,[],51,[]⟩
def d1O(e:b7):Reg:=xA (wB (.int .i64 0)) fun a=>xC (e.upd 2 a)
def d4h(e:b7):Reg:=xA (wB (e 0)) fun a=>xA (wD 96 [a]) fun b=>xA (wB (e 0)) fun c=>xA (wD 97 [c]) fun d=>xA (wE .add b d) fun f=>xA (wB (e 0)) fun g=>xA (wE .mul (.int .i64 32) g) fun i=>xA (wE .add f i) fun j=>xA (wB j) fun k=>xC (e.upd 2 k)
def R86:=an (ro d1O.eq_1)<|ro d4h.eq_1
def c86:CFn:=⟨(.seq (.region d1O) (.seq (.region d4h) .ret)),[.t 2]⟩
def p86:Pers:=⟨3,[],11,[]⟩
def c9H(e:b7):Reg:=xA (wN 34 (e 0)) fun a=>xA (wB (.int .i64 0)) fun b=>xC ((e.upd 1 a).upd 2 b)
def d2P(e:b7):Reg:=xA (wC 3 (e 1)) fun a=>xA (wA none a) fun b=>xA (wE .add b (.int .i64 1)) fun c=>xA (wB c) fun d=>xC (e.upd 3 d)
def d0r(e:b7):Reg:=xA (wB (e 3)) fun a=>xA (wC 5 (e 1)) fun b=>xA (wA none b) fun c=>xA (wC 6 (e 1)) fun d=>xA (wA none d) fun f=>xA (wD 98 [c,f]) fun g=>xA (wE .add (.int .i64 16) g) fun i=>xA (wE .mul a i) fun j=>xA (wB j) fun k=>xC (e.upd 2 k)
def R87:=an (ro c9H.eq_1)<|an (ro d2P.eq_1)<|ro d0r.eq_1
def c87:CFn:=⟨(.seq (.region c9H) (.seq (.region d2P) (.seq (.region d0r) .ret))),[.t 2]⟩
def p87:Pers:=⟨4,[],15,[]⟩
def d3S(e:b7):Reg:=xA (wB (.int .i64 0)) fun a=>xC (e.upd 2 a)
def d3C(e:b7):Reg:=xA (wB (e 0)) fun a=>xA (wD 96 [a]) fun b=>xA (wB (e 0)) fun c=>xA (wD 97 [c]) fun d=>xA (wE .add b d) fun f=>xA (wB (e 0)) fun g=>xA (wE .mul g (.int .i64 24)) fun i=>xA (wE .add f i) fun j=>xA (wB j) fun k=>xC (e.upd 2 k)
def R88:=an (ro d3S.eq_1)<|ro d3C.eq_1
def c88:CFn:=⟨(.seq (.region d3S) (.seq (.region d3C) .ret)),[.t 2]⟩
def p88:Pers:=⟨3,[],11,[]⟩
def d6e(e:b7):Reg:=xA (wB (.int .u64 0)) fun a=>xC (e.upd 4 a)
def d7Q(e:b7):Reg:=xA (wB (e 0)) fun a=>xA (wB (e 1)) fun b=>xA (wD 91 [a,b]) fun c=>xA (wE .rem c (.int .u64 2305843009213693950)) fun d=>xA (wE .add d (.int .u64 1)) fun f=>xA (wB f) fun g=>xC (e.upd 4 g)
def R89:=an (ro d6e.eq_1)<|ro d7Q.eq_1
def c89:CFn:=⟨(.seq (.region d6e) (.seq (.region d7Q) .ret)),[.t 4]⟩
def p89:Pers:=⟨5,[],10,[]⟩
def d6j(e:b7):Reg:=xA (wB (.int .u64 0)) fun a=>xC (e.upd 2 a)
def d5r(e:b7):Reg:=xA (wB (e 0)) fun a=>xA (wE .shr a (.int .u64 61)) fun b=>xA (wB (e 0)) fun c=>xA (wE .and c (.int .u64 2305843009213693951)) fun d=>xA (wE .add b d) fun f=>xA (wB f) fun g=>xC (e.upd 0 g)
def c9w(e:b7):Reg:=xA (wB (e 0)) fun a=>xA (wE .geq a (.int .u64 2305843009213693951)) fun b=>xC (e.upd 9 b)
def d6J(e:b7):Reg:=xA (wB (e 0)) fun a=>xA (wE .sub a (.int .u64 2305843009213693951)) fun b=>xA (wB b) fun c=>xC (e.upd 0 c)
def c8X(e:b7):Reg:=xA (wB (e 0)) fun a=>xA (wB a) fun b=>xC (e.upd 2 b)
def R90:=an (ro d6j.eq_1)<|an (ro d5r.eq_1)<|an (ro c9w.eq_1)<|an (ro d6J.eq_1)<|ro c8X.eq_1
def c90:CFn:=⟨(.seq (.region d6j) (.seq (.region d5r) (.seq (.seq (.region c9w) (.cond (fun e=>e 9) (.region d6J) .skip)) (.seq (.region c8X) .ret)))),[.t 2]⟩
def p90:Pers:=⟨3,[9],13,[]⟩
def c9l(e:b7):Reg:=xA (wB (.int .u64 0)) fun a=>xC (e.upd 4 a)
def d2N(e:b7):Reg:=xA (wB (e 1)) fun a=>xA (wB (e 0)) fun b=>xA (wL b) fun c=>xA (wE .geq a c) fun d=>xC (e.upd 8 d)
def c9Z(e:b7):Reg:=xA (wB (.int .u64 0)) fun a=>xC (e.upd 4 a)
def d0m(e:b7):Reg:=xA (wB (e 0)) fun a=>xA (wB (e 1)) fun b=>xA (wI 1 a b) fun c=>xA (wA none c) fun d=>xA (wB d) fun f=>xC (e.upd 4 f)
def R91:=an (ro c9l.eq_1)<|an (ro d2N.eq_1)<|an (ro c9Z.eq_1)<|ro d0m.eq_1
def c91:CFn:=⟨(.seq (.region c9l) (.seq (.seq (.region d2N) (.cond (fun e=>e 8) (.seq (.region c9Z) .ret) .skip)) (.seq (.region d0m) .ret))),[.t 4]⟩
def p91:Pers:=⟨5,[8],13,[]⟩
def d1V(e:b7):Reg:=xA (wB (.pointer none)) fun a=>xC (e.upd 2 a)
def d4r(e:b7):Reg:=xA (wB (e 0)) fun a=>xA (wE .lss a (.int .i64 0)) fun b=>xA (wB b) fun c=>xB c false (wB (e 0)) fun d=>xB c false (wE .gtr d (.int .i64 65536)) fun f=>xA (wK c (.bool true) f) fun g=>xC (e.upd 10 g)
def d6H(e:b7):Reg:=xA (wB (.pointer none)) fun a=>xC (e.upd 2 a)
def d1A(e:b7):Reg:=xA (wB (e 0)) fun a=>xA (wE .mul a (.int .i64 64)) fun b=>xA (.makeSlice 5 1 1 [(.int .u8 0)] b b) fun c=>xA (wB (e 0)) fun d=>xA (.makeSlice 206 1 1 [(.int .i8 0)] d d) fun f=>xA (wB (e 0)) fun g=>xA (.makeSlice 21 1 4 [(.int .i32 0)] g g) fun i=>xA (wM [(.slice none 0 0),(.slice none 0 0),(.slice none 0 0),(.int .i32 0),(.int .i64 0)] [(0,1,c),(1,1,f),(2,1,i),(3,1,(.int .i32 (-1)))]) fun j=>xA (wN 191 j) fun k=>xA (wB k) fun m=>xC (e.upd 3 m)
def d7T(e:b7):Reg:=xA (wB (e 0)) fun a=>xA (wE .sub a (.int .i64 1)) fun b=>xA (wB b) fun c=>xC (e.upd 4 c)
def c8Q(e:b7):Reg:=xA (wB (e 4)) fun a=>xA (wE .geq a (.int .i64 0)) fun b=>xC (e.upd 23 b)
def a8M(e:b7)(a b c d:Value):Reg:=xA (wF 1 d (.int .i8 (-1))) fun _=>xA (wI 1 a b) fun f=>xD fun h17=>xA (wF 1 f c) fun _=>xC e
def a9C(e:b7)(a b c:Value):Reg:=xA (wA none c) fun d=>xA (wB (e 4)) fun f=>xA (wB (e 3)) fun g=>xA (wJ g) fun i=>xA (wC 3 i) fun j=>xA (wA none j) fun k=>xA (wI 1 a b) fun m=>xD fun h15=>a8M e d f k m
def d7s(e:b7):Reg:=xA (wB (e 3)) fun a=>xA (wJ a) fun b=>xA (wC 1 b) fun c=>xA (wA none c) fun d=>xA (wB (e 4)) fun f=>xA (wB (e 3)) fun g=>xA (wJ g) fun i=>xA (wC 2 i) fun j=>a9C e d f j
def d8A(e:b7):Reg:=xA (wB (e 3)) fun a=>xA (wB (e 4)) fun b=>xA (wO .i32 b) fun c=>xA (wJ a) fun d=>xA (wC 3 d) fun f=>xA (wF 1 f c) fun _=>xC e
def c7X(e:b7):Reg:=xA (wB (e 4)) fun a=>xA (wE .sub a (.int .i64 1)) fun b=>xA (wB b) fun c=>xC (e.upd 4 c)
def b1U:CC:=(.seq (.seq (.region c8Q) (.cond (fun e=>e 23) .skip (.exit 0))) (.seq (.block 1 (.seq (.region d7s) (.region d8A))) (.region c7X)))
def d6G(e:b7):Reg:=xA (wB (e 3)) fun a=>xA (wB a) fun b=>xC (e.upd 2 b)
def R92:=an (ro d1V.eq_1)<|an (ro d4r.eq_1)<|an (ro d6H.eq_1)<|an (ro d1A.eq_1)<|an (ro d7T.eq_1)<|an (ro c8Q.eq_1)<|an (ro4 a8M.eq_1)<|an (W3 a9C.eq_1)<|an (ro d7s.eq_1)<|an (ro d8A.eq_1)<|an (ro c7X.eq_1)<|ro d6G.eq_1
def c92:CFn:=⟨(.seq (.region d1V) (.seq (.seq (.region d4r) (.cond (fun e=>e 10) (.seq (.region d6H) .ret) .skip)) (.seq (.region d1A) (.seq (.seq (.region d7T) (.block 0 (.loop b1U))) (.seq (.region d6G) .ret))))),[.t 2]⟩
def p92:Pers:=⟨5,[10,23],48,[]⟩
def c9A(e:b7):Reg:=xA (wN 182 (e 1)) fun a=>xA (wB (.pointer none)) fun b=>xC ((e.upd 3 a).upd 4 b)
def d7C(e:b7):Reg:=xA (wB (e 0)) fun a=>xA (.eqK .ptr false a (.pointer none)) fun b=>xC (e.upd 6 b)
def d2b(e:b7):Reg:=xA (wB (.pointer none)) fun a=>xC (e.upd 4 a)
def a9W(e:b7)(a b c:Value):Reg:=xE none none (wA (some 3) (e 3)) b<|xA (.makeSlice 21 1 4 [(.int .i32 0)] c c) fun d=>xA (wM [(.pointer none),(.int .u64 0),(.int .u64 0),(.int .u64 0),(.slice none 0 0)] [(0,1,a),(1,3,b),(4,1,d)]) fun f=>xA (wN 209 f) fun g=>xA (wB g) fun i=>xC (e.upd 4 i)
def d9c(e:b7):Reg:=xA (wB (e 0)) fun a=>xA (wA (some 3) (e 3)) fun b=>xA (wB (e 0)) fun c=>xD fun h3=>xA (wD 100 [c]) fun d=>xE none none (wA (some 3) (e 3)) b<|xD fun h4=>xA (wD 99 [d]) fun f=>a9W e a b f
def R93:=an (ro c9A.eq_1)<|an (ro d7C.eq_1)<|an (ro d2b.eq_1)<|an (W3 a9W.eq_1)<|ro d9c.eq_1
def c93:CFn:=⟨(.seq (.region c9A) (.seq (.seq (.region d7C) (.cond (fun e=>e 6) (.seq (.region d2b) .ret) .skip)) (.seq (.region d9c) .ret))),[.t 4]⟩
def p93:Pers:=⟨5,[6],15,[]⟩
def d8W(e:b7):Reg:=xA (wB (.pointer none)) fun a=>xC (e.upd 4 a)
def c8K(e:b7):Reg:=xA (wB (e 0)) fun a=>xA (wL a) fun b=>xA (wE .eql b (.int .i64 0)) fun c=>xA (wB c) fun d=>xB d false (wB (e 1)) fun f=>xB d false (wE .lss f (.int .i64 1)) fun g=>xA (wK d (.bool true) g) fun i=>xC (e.upd 11 i)
def d3T(e:b7):Reg:=xA (wB (.pointer none)) fun a=>xC (e.upd 4 a)
def d0l(e:b7):Reg:=xA (wB (e 0)) fun a=>xA (wB (e 1)) fun b=>xA (wB (e 0)) fun c=>xA (wL c) fun d=>xA (wB (e 1)) fun f=>xA (wE .mul d f) fun g=>xA (.makeSlice 2 1 8 [(.int .i64 0)] g g) fun i=>xA (wM [(.slice none 0 0),(.int .i64 0),(.slice none 0 0)] [(0,1,a),(1,1,b),(2,1,i)]) fun j=>xA (wN 211 j) fun k=>xA (wB k) fun m=>xC (e.upd 4 m)
def R94:=an (ro d8W.eq_1)<|an (ro c8K.eq_1)<|an (ro d3T.eq_1)<|ro d0l.eq_1
def c94:CFn:=⟨(.seq (.region d8W) (.seq (.seq (.region c8K) (.cond (fun e=>e 11) (.seq (.region d3T) .ret) .skip)) (.seq (.region d0l) .ret))),[.t 4]⟩
def p94:Pers:=⟨5,[11],21,[]⟩
def c9W(e:b7):Reg:=xA (wB (.int .i64 0)) fun a=>xC (e.upd 8 a)
def d1e(e:b7):Reg:=xA (wB (e 1)) fun a=>xA (wE .eql a (.int .i64 0)) fun b=>xA (wB b) fun c=>xB c true (wB (e 2)) fun d=>xB c true (wE .neq d (.int .u8 167)) fun f=>xA (wK c f (.bool false)) fun g=>xA (wB g) fun i=>xC (e.upd 9 i)
def d6g(e:b7):Reg:=xA (wB (.int .i64 5)) fun a=>xC (e.upd 8 a)
def d5G(e:b7):Reg:=xA (wB (e 1)) fun a=>xA (wE .eql a (.int .i64 1)) fun b=>xA (wB b) fun c=>xB c true (wB (e 2)) fun d=>xB c true (wE .neq d (.int .u8 1)) fun f=>xA (wK c f (.bool false)) fun g=>xA (wB g) fun i=>xC (e.upd 16 i)
def d2d(e:b7):Reg:=xA (wB (.int .i64 6)) fun a=>xC (e.upd 8 a)
def d4n(e:b7):Reg:=xA (wB (e 1)) fun a=>xA (wE .eql a (.int .i64 2)) fun b=>xA (wB b) fun c=>xB c true (wB (e 2)) fun d=>xB c true (wE .neq d (.int .u8 0)) fun f=>xA (wK c f (.bool false)) fun g=>xA (wB g) fun i=>xC (e.upd 23 i)
def d5e(e:b7):Reg:=xA (wB (.int .i64 7)) fun a=>xC (e.upd 8 a)
def b0n(e:b7)(a b c:Value):Reg:=xB a true (wK b (.bool true) c) fun d=>xA (wK a d (.bool false)) fun f=>xA (wB f) fun g=>xC (e.upd 30 g)
def b0d(e:b7)(a b:Value):Reg:=xB a true (wE .neq b (.int .u8 3)) fun c=>xA (wK a c (.bool false)) fun d=>xA (wB d) fun f=>xB f true (wB (e 2)) fun g=>xB f true (wE .lss g (.int .u8 7)) fun i=>xB f true (wB i) fun j=>xB j false (wB (e 2)) fun k=>xB j false (wE .gtr k (.int .u8 71)) fun m=>b0n e f j m
def d3Q(e:b7):Reg:=xA (wB (e 1)) fun a=>xA (wE .eql a (.int .i64 3)) fun b=>xA (wB b) fun c=>xB c true (wB (e 2)) fun d=>xB c true (wE .neq d (.int .u8 2)) fun f=>xA (wK c f (.bool false)) fun g=>xA (wB g) fun i=>xB i true (wB (e 2)) fun j=>b0d e i j
def c9v(e:b7):Reg:=xA (wB (.int .i64 7)) fun a=>xC (e.upd 8 a)
def b0t(e:b7)(a b:Value):Reg:=xB a true (wP .not b) fun c=>xA (wK a c (.bool false)) fun d=>xA (wB d) fun f=>xC (e.upd 49 f)
def d7h(e:b7):Reg:=xA (wB (e 1)) fun a=>xA (wE .eql a (.int .i64 4)) fun b=>xA (wB b) fun c=>xB c true (wB (e 2)) fun d=>xB c true (wB (e 0)) fun f=>xB c true (wI 1 f (.int .i64 3)) fun g=>xB c true (wA none g) fun i=>xB c true (wD 101 [d,i]) fun j=>b0t e c j
def c5K(e:b7):Reg:=xA (wB (.int .i64 8)) fun a=>xC (e.upd 8 a)
def b7N(e:b7):Reg:=xA (wB (e 1)) fun a=>xA (wE .eql a (.int .i64 5)) fun b=>xA (wB b) fun c=>xB c true (wB (e 2)) fun d=>xB c true (wO .i64 d) fun f=>xB c true (wB (e 3)) fun g=>xB c true (wE .geq f g) fun i=>xA (wK c i (.bool false)) fun j=>xA (wB j) fun k=>xC (e.upd 60 k)
def c3P(e:b7):Reg:=xA (wB (.int .i64 9)) fun a=>xC (e.upd 8 a)
def a6c(e:b7)(a b c:Value):Reg:=xB a true (wO .i64 c) fun d=>xB a true (wE .sub d (.int .i64 7)) fun f=>xB a true (wE .neq b f) fun g=>xA (wK a g (.bool false)) fun i=>xA (wB i) fun j=>xC (e.upd 69 j)
def c2D(e:b7):Reg:=xA (wB (e 1)) fun a=>xA (wE .eql a (.int .i64 10)) fun b=>xA (wB b) fun c=>xB c true (wB (e 2)) fun d=>xB c true (wO .i64 d) fun f=>xB c true (wB (e 0)) fun g=>xB c true (wI 1 g (.int .i64 3)) fun i=>xB c true (wA none i) fun j=>a6c e c f j
def b7d(e:b7):Reg:=xA (wB (.int .i64 10)) fun a=>xC (e.upd 8 a)
def b8T(e:b7):Reg:=xA (wB (.int .i64 0)) fun a=>xC (e.upd 8 a)
def R95:=an (ro c9W.eq_1)<|an (ro d1e.eq_1)<|an (ro d6g.eq_1)<|an (ro d5G.eq_1)<|an (ro d2d.eq_1)<|an (ro d4n.eq_1)<|an (ro d5e.eq_1)<|an (W3 b0n.eq_1)<|an (O5 b0d.eq_1)<|an (ro d3Q.eq_1)<|an (ro c9v.eq_1)<|an (O5 b0t.eq_1)<|an (ro d7h.eq_1)<|an (ro c5K.eq_1)<|an (ro b7N.eq_1)<|an (ro c3P.eq_1)<|an (W3 a6c.eq_1)<|an (ro c2D.eq_1)<|an (ro b7d.eq_1)<|ro b8T.eq_1
def c95:CFn:=⟨(.seq (.region c9W) (.seq (.block 0 (.seq (.region d1e) (.cond (fun e=>e 9) (.seq (.region d6g) .ret) (.seq (.region d5G) (.cond (fun e=>e 16) (.seq (.region d2d) .ret) (.seq (.region d4n) (.cond (fun e=>e 23) (.seq (.region d5e) .ret) (.seq (.region d3Q) (.cond (fun e=>e 30) (.seq (.region c9v) .ret) (.seq (.region d7h) (.cond (fun e=>e 49) (.seq (.region c5K) .ret) (.seq (.region b7N) (.cond (fun e=>e 60) (.seq (.region c3P) .ret) (.seq (.region c2D) (.cond (fun e=>e 69) (.seq (.region b7d) .ret) .skip))))))))))))))) (.seq (.region b8T) .ret))),[.t 8]⟩
def p95:Pers:=⟨9,[9,16,23,30,49,60,69],82,[]⟩
def c8v(e:b7):Reg:=xA (wB (.int .i64 0)) fun a=>xC (e.upd 2 a)
def d3V(e:b7):Reg:=xA (wB (e 0)) fun a=>xA (wE .mul a (.int .i64 69)) fun b=>xA (wB b) fun c=>xC (e.upd 2 c)
def R96:=an (ro c8v.eq_1)<|ro d3V.eq_1
def c96:CFn:=⟨(.seq (.region c8v) (.seq (.region d3V) .ret)),[.t 2]⟩
def p96:Pers:=⟨3,[],5,[]⟩
def d2X(e:b7):Reg:=xA (wB (.int .i64 0)) fun a=>xC (e.upd 2 a)
def c9f(e:b7):Reg:=xA (wB (e 0)) fun a=>xA (wD 99 [a]) fun b=>xA (wE .mul (.int .i64 4) b) fun c=>xA (wB c) fun d=>xC (e.upd 2 d)
def R97:=an (ro d2X.eq_1)<|ro c9f.eq_1
def c97:CFn:=⟨(.seq (.region d2X) (.seq (.region c9f) .ret)),[.t 2]⟩
def p97:Pers:=⟨3,[],6,[]⟩
def d8f(e:b7):Reg:=xA (wB (.int .i64 0)) fun a=>xC (e.upd 4 a)
def d1E(e:b7):Reg:=xA (wB (e 0)) fun a=>xA (wE .mul (.int .i64 8) a) fun b=>xA (wB (e 1)) fun c=>xA (wE .mul b c) fun d=>xA (wB d) fun f=>xC (e.upd 4 f)
def R98:=an (ro d8f.eq_1)<|ro d1E.eq_1
def c98:CFn:=⟨(.seq (.region d8f) (.seq (.region d1E) .ret)),[.t 4]⟩
def p98:Pers:=⟨5,[],9,[]⟩
def d4d(e:b7):Reg:=xA (wB (.int .i64 0)) fun a=>xC (e.upd 2 a)
def c9g(e:b7):Reg:=xA (wB (e 0)) fun a=>xA (wE .mul (.int .i64 2) a) fun b=>xA (wE .add b (.int .i64 1)) fun c=>xA (wB c) fun d=>xC (e.upd 2 d)
def R99:=an (ro d4d.eq_1)<|ro c9g.eq_1
def c99:CFn:=⟨(.seq (.region d4d) (.seq (.region c9g) .ret)),[.t 2]⟩
def p99:Pers:=⟨3,[],6,[]⟩
def c2W(e:b7):Reg:=xA (wB (.int .i64 0)) fun a=>xC (e.upd 2 a)
def c1L(e:b7):Reg:=xA (wB (e 0)) fun a=>xA (.eqK .ptr false a (.pointer none)) fun b=>xC (e.upd 4 b)
def c1O(e:b7):Reg:=xA (wB (.int .i64 0)) fun a=>xC (e.upd 2 a)
def c5O(e:b7):Reg:=xA (wB (e 0)) fun a=>xA (wJ a) fun b=>xA (wC 1 b) fun c=>xA (wA none c) fun d=>xA (wL d) fun f=>xA (wB f) fun g=>xC (e.upd 2 g)
def e8W:=an (ro c2W.eq_1)<|an (ro c1L.eq_1)<|an (ro c1O.eq_1)<|ro c5O.eq_1
def e0g:CFn:=⟨(.seq (.region c2W) (.seq (.seq (.region c1L) (.cond (fun e=>e 4) (.seq (.region c1O) .ret) .skip)) (.seq (.region c5O) .ret))),[.t 2]⟩
def e5A:Pers:=⟨3,[4],10,[]⟩
def c5a(e:b7):Reg:=xA (wB (.bool false)) fun a=>xC (e.upd 4 a)
def c2F(e:b7):Reg:=xA (wB (e 0)) fun a=>xC (e.upd 5 a)
def b9G(e:b7):Reg:=xA (wE .eql (e 5) (.int .u8 1)) fun a=>xA (wB a) fun b=>xC (e.upd 6 b)
def b8n(e:b7):Reg:=xA (wE .eql (e 5) (.int .u8 2)) fun a=>xA (wB a) fun b=>xC (e.upd 6 b)
def c4t(e:b7):Reg:=xA (wB (e 1)) fun a=>xA (wE .geq a (.int .u8 7)) fun b=>xA (wB b) fun c=>xC (e.upd 4 c)
def b8v(e:b7):Reg:=xA (wE .eql (e 5) (.int .u8 3)) fun a=>xA (wB a) fun b=>xC (e.upd 11 b)
def c3I(e:b7):Reg:=xA (wB (e 1)) fun a=>xA (wE .eql a (.int .u8 2)) fun b=>xA (wB b) fun c=>xC (e.upd 4 c)
def b7H(e:b7):Reg:=xA (wE .eql (e 5) (.int .u8 4)) fun a=>xA (wB a) fun b=>xC (e.upd 15 b)
def b9R(e:b7):Reg:=xA (wB (e 1)) fun a=>xA (wE .eql a (.int .u8 3)) fun b=>xA (wB b) fun c=>xC (e.upd 4 c)
def c1N(e:b7):Reg:=xA (wB (.bool false)) fun a=>xC (e.upd 4 a)
def d4z:=an (ro c5a.eq_1)<|an (ro c2F.eq_1)<|an (ro b9G.eq_1)<|an (ro b8n.eq_1)<|an (ro c4t.eq_1)<|an (ro b8v.eq_1)<|an (ro c3I.eq_1)<|an (ro b7H.eq_1)<|an (ro b9R.eq_1)<|ro c1N.eq_1
def b3E:CFn:=⟨(.seq (.region c5a) (.seq (.seq (.region c2F) (.block 0 (.seq (.seq (.region b9G) (.cond (fun e=>e 6) .skip (.region b8n))) (.cond (fun e=>e 6) (.seq (.region c4t) .ret) (.seq (.region b8v) (.cond (fun e=>e 11) (.seq (.region c3I) .ret) (.seq (.region b7H) (.cond (fun e=>e 15) (.seq (.region b9R) .ret) .skip)))))))) (.seq (.region c1N) .ret))),[.t 4]⟩
def e5u:Pers:=⟨5,[5,6,11,15],19,[]⟩
def c0U(e:b7):Reg:=xA (wN 61 (e 1)) fun a=>xA (wB (.slice none 0 0)) fun b=>xC ((e.upd 3 a).upd 4 b)
def c1W(e:b7):Reg:=xA (wB (e 0)) fun a=>xA (wJ a) fun b=>xA (wC 9 b) fun c=>xA (wA none c) fun d=>xA (wC 1 (e 3)) fun f=>xA (wA none f) fun g=>xA (wI 1 d g) fun i=>xA (wA none i) fun j=>xA (wB j) fun k=>xC (e.upd 5 k)
def a7O(e:b7)(h3:Heap)(a b c d f:Value):Reg:=xE none (some h3) (wA none d) f<|xA (wI 9 c f) fun g=>xA (wC 1 g) fun i=>xA (wA none i) fun j=>xE none (some h3) (wA none i) j<|xD fun h17=>xA (wD 119 [b,j]) fun k=>xA (wB a) fun m=>xA (wB k) fun n=>xC ((e.upd 6 m).upd 7 n)
def a5D(e:b7)(h3:Heap)(a b:Value):Reg:=xA (wB (e 0)) fun c=>xA (wJ c) fun d=>xA (wC 4 d) fun f=>xA (wC 3 f) fun g=>xA (wA none g) fun i=>xE none (some h3) (wA none g) i<|xA (wC 1 (e 3)) fun j=>xA (wA none j) fun k=>a7O e h3 a b i j k
def b7e(e:b7):Reg:=xA (wB (e 0)) fun a=>xA (wJ a) fun b=>xA (wC 0 b) fun c=>xD fun h3=>xA (wD 26 [c]) fun d=>xA (wB (e 0)) fun f=>xA (wJ f) fun g=>xA (wC 0 g) fun i=>a5D e h3 d i
def c2l(e:b7):Reg:=xA (wC 0 (e 3)) fun a=>xA (wA none a) fun b=>xC (e.upd 39 b)
def b7T(e:b7):Reg:=xA (wE .eql (e 39) (.int .i64 1)) fun a=>xA (wB a) fun b=>xC (e.upd 40 b)
def a6i(e:b7)(a b c d f:Value):Reg:=xA (wD 120 [a,b,c,d,f]) fun g=>xA (wB g) fun i=>xA (wG i 0) fun j=>xA (wG i 1) fun k=>xA (wH 55 [(.int .i64 0),(.int .i64 0),(.int .i64 0)]) fun m=>xA (wF 3 m j) fun _=>xA (wB k) fun n=>xC ((e.upd 8 m).upd 9 n)
def b8j(e:b7):Reg:=xA (wB (e 5)) fun a=>xA (wB (e 6)) fun b=>xA (wB (e 7)) fun c=>xA (wC 3 (e 3)) fun d=>xA (wA none d) fun f=>xA (wC 2 (e 3)) fun g=>xA (wA none g) fun i=>xA (wO .i64 i) fun j=>a6i e a b c f j
def c5f(e:b7):Reg:=xA (wB (e 9)) fun a=>xA (wL a) fun b=>xA (wB (.int .i64 0)) fun c=>xC (((e.upd 54 a).upd 55 b).upd 56 c)
def c1k(e:b7):Reg:=xA (wE .lss (e 56) (e 55)) fun a=>xC (e.upd 57 a)
def c3W(e:b7):Reg:=xA (wI 4 (e 54) (e 56)) fun a=>xA (wA (some 4) a) fun b=>xA (wH 123 [(.int .i64 0),(.string ⟨#[]⟩),(.bool false),(.int .i64 0)]) fun c=>xA (wF 4 c b) fun _=>xC (e.upd 11 c)
def b6V(e:b7):Reg:=xA (wC 1 (e 3)) fun a=>xA (wA none a) fun b=>xA (wC 0 (e 11)) fun c=>xA (wF 1 c b) fun _=>xC e
def a3w(e:b7)(a b c:Value):Reg:=xA (.append 123 4 40 b c) fun d=>xA (wJ a) fun f=>xA (wC 10 f) fun g=>xD fun h10=>xA (wF 1 g d) fun _=>xC e
def b4P(e:b7):Reg:=xA (wB (e 0)) fun a=>xA (wB (e 0)) fun b=>xA (wJ b) fun c=>xA (wC 10 c) fun d=>xA (wA none d) fun f=>xA (wA (some 4) (e 11)) fun g=>xA (.buildSlice 123 1 [(.int .i64 0),(.string ⟨#[]⟩),(.bool false),(.int .i64 0)] [(0,4,g)]) fun i=>xD fun h7=>a3w e a f i
def b3w(e:b7):Reg:=xA (wE .add (e 56) (.int .i64 1)) fun a=>xA (wB a) fun b=>xC (e.upd 56 b)
def a2o:CC:=(.seq (.region c1k) (.seq (.cond (fun e=>e 57) .skip (.exit 1)) (.seq (.block 2 (.seq (.region c3W) (.seq (.region b6V) (.region b4P)))) (.region b3w))))
def b3y(e:b7):Reg:=xA (wC 0 (e 3)) fun a=>xA (wA none a) fun b=>xA (wA (some 3) (e 8)) fun c=>xA (wD 121 [b,c]) fun d=>xA (wB d) fun f=>xC (e.upd 4 f)
def b2E(e:b7):Reg:=xA (wE .eql (e 39) (.int .i64 2)) fun a=>xA (wB a) fun b=>xC (e.upd 78 b)
def a4g(e:b7)(a b c d f g i:Value):Reg:=xA (wA none i) fun j=>xA (wO .i64 j) fun k=>xD fun h10=>xA (wD 122 [c,d,f,g,k]) fun m=>xE none none (wA none a) b<|xD fun h11=>xA (wD 121 [b,m]) fun n=>xA (wB n) fun o=>xC (e.upd 4 o)
def b4C(e:b7):Reg:=xA (wC 0 (e 3)) fun a=>xA (wA none a) fun b=>xA (wB (e 5)) fun c=>xA (wB (e 6)) fun d=>xA (wB (e 7)) fun f=>xA (wC 3 (e 3)) fun g=>xA (wA none g) fun i=>xA (wC 2 (e 3)) fun j=>a4g e a b c d f i j
def b4D(e:b7):Reg:=xA (wE .eql (e 39) (.int .i64 3)) fun a=>xA (wB a) fun b=>xC (e.upd 92 b)
def b3L(e:b7):Reg:=xA (wC 1 (e 3)) fun a=>xA (wA none a) fun b=>xA (wB (e 5)) fun c=>xD fun h3=>xA (wD 28 [c]) fun d=>xE none none (wA none a) b<|xD fun h4=>xA (wD 123 [b,d]) fun f=>xA (wB f) fun g=>xC (e.upd 4 g)
def a3s(e:b7)(a b:Value):Reg:=xD fun h6=>xA (wD 124 [a,b]) fun c=>xA (wB c) fun d=>xC (e.upd 4 d)
def b3r(e:b7):Reg:=xA (wC 1 (e 3)) fun a=>xA (wA none a) fun b=>xA (wB (e 5)) fun c=>xA (wC 4 (e 3)) fun d=>xA (wA none d) fun f=>xD fun h5=>xA (wD 125 [c,f]) fun g=>xE none none (wA none a) b<|a3s e b g
def c7y:=an (ro c0U.eq_1)<|an (ro c1W.eq_1)<|an (ro6 a7O.eq_1)<|an (W3 a5D.eq_1)<|an (ro b7e.eq_1)<|an (ro c2l.eq_1)<|an (ro b7T.eq_1)<|an (ro5 a6i.eq_1)<|an (ro b8j.eq_1)<|an (ro c5f.eq_1)<|an (ro c1k.eq_1)<|an (ro c3W.eq_1)<|an (ro b6V.eq_1)<|an (W3 a3w.eq_1)<|an (ro b4P.eq_1)<|an (ro b3w.eq_1)<|an (ro b3y.eq_1)<|an (ro b2E.eq_1)<|an (ro7 a4g.eq_1)<|an (ro b4C.eq_1)<|an (ro b4D.eq_1)<|an (ro b3L.eq_1)<|an (O5 a3s.eq_1)<|ro b3r.eq_1
def b0X:CFn:=⟨(.seq (.region c0U) (.seq (.region c1W) (.seq (.region b7e) (.seq (.seq (.region c2l) (.block 0 (.seq (.region b7T) (.cond (fun e=>e 40) (.seq (.region b8j) (.seq (.seq (.region c5f) (.block 1 (.loop a2o))) (.seq (.region b3y) .ret))) (.seq (.region b2E) (.cond (fun e=>e 78) (.seq (.region b4C) .ret) (.seq (.region b4D) (.cond (fun e=>e 92) (.seq (.region b3L) .ret) .skip)))))))) (.seq (.region b3r) .ret))))),[.t 4]⟩
def e3c:Pers:=⟨12,[39,40,54,55,56,57,78,92],106,[]⟩
def c2m(e:b7):Reg:=xA (wN 61 (e 1)) fun a=>xA (wB (.int .i64 0)) fun b=>xC ((e.upd 3 a).upd 4 b)
def a5l(e:b7)(a b c:Value):Reg:=xA (wI 9 b c) fun d=>xA (wC 7 d) fun f=>xA (wA none f) fun g=>xD fun h11=>xA (wD 74 [a,g]) fun i=>xA (wB i) fun j=>xC (e.upd 4 j)
def c4Q(e:b7):Reg:=xA (wA (some 5) (e 3)) fun a=>xA (wB (e 0)) fun b=>xA (wJ b) fun c=>xA (wC 4 c) fun d=>xA (wC 3 d) fun f=>xA (wA none f) fun g=>xA (wC 1 (e 3)) fun i=>xA (wA none i) fun j=>a5l e a g j
def e3i:=an (ro c2m.eq_1)<|an (W3 a5l.eq_1)<|ro c4Q.eq_1
def d7c:CFn:=⟨(.seq (.region c2m) (.seq (.region c4Q) .ret)),[.t 4]⟩
def e6y:Pers:=⟨5,[],17,[]⟩
def b9u(e:b7):Reg:=xA (wB (.int .i64 0)) fun a=>xC (e.upd 4 a)
def c0f(e:b7):Reg:=xA (wB (e 0)) fun a=>xA (wJ a) fun b=>xA (wC 2 b) fun c=>xA (wA none c) fun d=>xA (wP .not d) fun f=>xC (e.upd 9 f)
def c3u(e:b7):Reg:=xA (wB (.int .i64 0)) fun a=>xC (e.upd 4 a)
def a4I(e:b7)(h5:Heap)(a b:Value):Reg:=xA (wJ b) fun c=>xA (wC 0 c) fun d=>xA (wA none d) fun f=>xE none (some h5) (wA none d) f<|xA (wE .sub a f) fun g=>xA (.minmax true [g,(.int .i64 0)]) fun i=>xA (wB i) fun j=>xC (e.upd 4 j)
def b9F(e:b7):Reg:=xA (wB (e 0)) fun a=>xA (wJ a) fun b=>xA (wC 1 b) fun c=>xA (wA none c) fun d=>xA (wB (e 1)) fun f=>xD fun h5=>xA (wD 126 [d,f]) fun g=>xA (wB (e 0)) fun i=>a4I e h5 g i
def e2W:=an (ro b9u.eq_1)<|an (ro c0f.eq_1)<|an (ro c3u.eq_1)<|an (W3 a4I.eq_1)<|ro b9F.eq_1
def d5Z:CFn:=⟨(.seq (.region b9u) (.seq (.seq (.region c0f) (.cond (fun e=>e 9) (.seq (.region c3u) .ret) .skip)) (.seq (.region b9F) .ret))),[.t 4]⟩
def e5t:Pers:=⟨5,[9],22,[]⟩
def b8W(e:b7):Reg:=xA (wH 55 [(.int .i64 0),(.int .i64 0),(.int .i64 0)]) fun a=>xA (wB (.slice none 0 0)) fun b=>xC ((e.upd 10 a).upd 11 b)
def a6h(e:b7)(a b:Value):Reg:=xA (wH 55 [(.int .i64 0),(.int .i64 0),(.int .i64 0)]) fun c=>xA (wF 3 c a) fun _=>xA (wB b) fun d=>xC ((e.upd 12 c).upd 13 d)
def c3M(e:b7):Reg:=xA (wB (e 0)) fun a=>xA (wB (e 1)) fun b=>xA (wB (e 2)) fun c=>xA (wB (e 4)) fun d=>xA (wD 127 [a,b,c,d]) fun f=>xA (wB f) fun g=>xA (wG g 0) fun i=>xA (wG g 1) fun j=>a6h e i j
def c4b(e:b7):Reg:=xA (wB (e 13)) fun a=>xC (e.upd 25 a)
def c3v(e:b7):Reg:=xA (wB (e 0)) fun a=>xA (wC 0 (e 12)) fun b=>xA (wA none b) fun c=>xA (wD 128 [a,c]) fun d=>xC e
def b6T(e:b7):Reg:=xA (wA (some 3) (e 12)) fun a=>xA (wF 3 (e 10) a) fun _=>xA (wB (.slice none 0 0)) fun b=>xC (e.upd 11 b)
def b7Z(e:b7):Reg:=xA (wB (e 0)) fun a=>xA (wJ a) fun b=>xA (wC 14 b) fun c=>xA (wA none c) fun d=>xA (wB (e 1)) fun f=>xA (wD 129 [d,f]) fun g=>xC e
def b8K(e:b7):Reg:=xA (wB (e 0)) fun a=>xA (wJ a) fun b=>xA (wC 15 b) fun c=>xA (wA none c) fun d=>xA (wB (e 3)) fun f=>xA (wB (e 4)) fun g=>xA (wD 130 [d,f,g]) fun i=>xC e
def b8O(e:b7):Reg:=xA (wB (e 0)) fun a=>xA (wB (e 1)) fun b=>xA (wB (e 3)) fun c=>xA (wD 131 [a,b,c]) fun d=>xA (wB d) fun f=>xA (wG f 0) fun g=>xA (wG f 1) fun i=>xA (wB g) fun j=>xA (wB i) fun k=>xC ((e.upd 14 j).upd 15 k)
def c0G(e:b7):Reg:=xA (wM [(.int .i64 0),(.int .i64 0),(.int .i64 0)] [(0,1,(.int .i64 2))]) fun a=>xA (wH 55 [(.int .i64 0),(.int .i64 0),(.int .i64 0)]) fun b=>xA (wF 3 b a) fun _=>xC (e.upd 16 b)
def b7k(e:b7):Reg:=xA (wB (e 14)) fun a=>xA (.eqK .ptr true a (.pointer none)) fun b=>xC (e.upd 53 b)
def b5b(e:b7):Reg:=xA (wB (e 14)) fun a=>xA (wB (e 0)) fun b=>xA (wJ b) fun c=>xA (wC 9 c) fun d=>xA (wA (some 4) d) fun f=>xA (wB (e 1)) fun g=>xA (wB (e 4)) fun i=>xA (wD 132 [a,f,g,i]) fun j=>xC (e.upd 61 j)
def b3B(e:b7):Reg:=xA (wC 0 (e 16)) fun a=>xA (wF 1 a (.int .i64 1)) fun _=>xC e
def a3F(e:b7)(a b c:Value):Reg:=xA (wB (e 4)) fun d=>xD fun h9=>xA (wD 133 [a,b,c,d]) fun f=>xA (wC 2 (e 16)) fun g=>xD fun h11=>xA (wF 1 g f) fun _=>xC e
def b2l(e:b7):Reg:=xA (wB (e 14)) fun a=>xA (wJ a) fun b=>xA (wA (some 4) b) fun c=>xA (wB (e 0)) fun d=>xA (wJ d) fun f=>xA (wC 9 f) fun g=>xA (wA (some 4) g) fun i=>xA (wB (e 1)) fun j=>a3F e c i j
def a3C(e:b7)(a b c:Value):Reg:=xD fun h8=>xA (wD 134 [a,b,c]) fun d=>xA (wC 1 (e 16)) fun f=>xD fun h10=>xA (wF 1 f d) fun _=>xC e
def b3s(e:b7):Reg:=xA (wB (e 14)) fun a=>xA (wJ a) fun b=>xA (wA (some 4) b) fun c=>xA (wB (e 0)) fun d=>xA (wJ d) fun f=>xA (wC 9 f) fun g=>xA (wA (some 4) g) fun i=>xA (wB (e 1)) fun j=>a3C e c i j
def a3B(e:b7)(h5:Heap)(a b:Value):Reg:=xD fun h7=>xA (wD 126 [a,b]) fun c=>xA (wB (e 0)) fun d=>xA (wJ d) fun f=>xA (wC 0 f) fun g=>xA (wC 0 g) fun i=>xA (wA none i) fun j=>xE none (some h7) (wA none i) j<|xE none (some h5) (wA none i) j<|xA (wE .leq c j) fun k=>xC (e.upd 97 k)
def b3u(e:b7):Reg:=xA (wB (e 0)) fun a=>xA (wJ a) fun b=>xA (wC 14 b) fun c=>xA (wA none c) fun d=>xA (wB (e 3)) fun f=>xD fun h5=>xA (wD 135 [d,f]) fun g=>xA (wB (e 4)) fun i=>a3B e h5 g i
def b4s(e:b7):Reg:=xA (wC 0 (e 16)) fun a=>xA (wF 1 a (.int .i64 1)) fun _=>xC e
def b3x(e:b7):Reg:=xA (wB (e 0)) fun a=>xA (wJ a) fun b=>xA (wC 14 b) fun c=>xA (wA none c) fun d=>xA (wB (e 3)) fun f=>xA (wB (e 4)) fun g=>xA (wD 136 [d,f,g]) fun i=>xC e
def b2N(e:b7):Reg:=xA (wB (e 0)) fun a=>xA (wJ a) fun b=>xA (wC 14 b) fun c=>xA (wA none c) fun d=>xA (wB (e 3)) fun f=>xA (wB (e 4)) fun g=>xA (wD 137 [d,f,g]) fun i=>xA (wC 2 (e 16)) fun j=>xA (wF 1 j i) fun _=>xC e
def a4a(e:b7)(a b:Value):Reg:=xA (wD 138 [a,b]) fun c=>xA (wC 1 (e 16)) fun d=>xD fun h15=>xA (wF 1 d c) fun _=>xC e
def a3O(e:b7)(a b c d:Value):Reg:=xA (wC 14 d) fun f=>xA (wA none f) fun g=>xA (wB (e 3)) fun i=>xD fun h11=>xA (wD 135 [g,i]) fun j=>xE none none (wA none b) c<|xA (wE .sub c j) fun k=>xD fun h13=>a4a e a k
def b3F(e:b7):Reg:=xA (wB (e 0)) fun a=>xA (wB (e 0)) fun b=>xA (wJ b) fun c=>xA (wC 0 c) fun d=>xA (wC 0 d) fun f=>xA (wA none f) fun g=>xA (wB (e 0)) fun i=>xA (wJ i) fun j=>a3O e a f g j
def b4M(e:b7):Reg:=xA (wB (e 0)) fun a=>xA (wC 0 (e 16)) fun b=>xA (wA none b) fun c=>xA (wD 128 [a,c]) fun d=>xC e
def a6a(e:b7):Reg:=xA (wA (some 3) (e 16)) fun a=>xA (wB (e 15)) fun b=>xA (wF 3 (e 10) a) fun _=>xA (wB b) fun c=>xC (e.upd 11 c)
def Y2:=an (ro b8W.eq_1)<|an (O5 a6h.eq_1)<|an (ro c3M.eq_1)<|an (ro c4b.eq_1)<|an (ro c3v.eq_1)<|an (ro b6T.eq_1)<|an (ro b7Z.eq_1)<|an (ro b8K.eq_1)<|an (ro b8O.eq_1)<|an (ro c0G.eq_1)<|an (ro b7k.eq_1)<|an (ro b5b.eq_1)<|an (ro b3B.eq_1)<|an (W3 a3F.eq_1)<|an (ro b2l.eq_1)<|an (W3 a3C.eq_1)<|an (ro b3s.eq_1)<|an (W3 a3B.eq_1)<|an (ro b3u.eq_1)<|an (ro b4s.eq_1)<|an (ro b3x.eq_1)<|an (ro b2N.eq_1)<|an (O5 a4a.eq_1)<|an (ro4 a3O.eq_1)<|an (ro b3F.eq_1)<|an (ro b4M.eq_1)<|ro a6a.eq_1
def T9:CFn:=⟨(.seq (.region b8W) (.seq (.seq (.region c3M) (.seq (.region c4b) (.cond (fun e=>e 25) (.seq (.region c3v) (.seq (.region b6T) .ret)) .skip))) (.seq (.region b7Z) (.seq (.region b8K) (.seq (.region b8O) (.seq (.region c0G) (.seq (.seq (.region b7k) (.cond (fun e=>e 53) (.seq (.seq (.region b5b) (.cond (fun e=>e 61) (.region b3B) (.region b2l))) (.region b3s)) (.seq (.seq (.region b3u) (.cond (fun e=>e 97) (.seq (.region b4s) (.region b3x)) (.region b2N))) (.region b3F)))) (.seq (.region b4M) (.seq (.region a6a) .ret))))))))),[.c 10 (some 3),.t 11]⟩
def e4I:Pers:=⟨17,[25,53,61,97],135,[]⟩
def c3a(e:b7):Reg:=xA (wN 55 (e 1)) fun a=>xA (wB (.slice none 0 0)) fun b=>xC ((e.upd 3 a).upd 4 b)
def c1J(e:b7):Reg:=xA (wB (e 0)) fun a=>xA (wE .or a (.int .i64 128)) fun b=>xA (wO .u8 b) fun c=>xA (wC 0 (e 3)) fun d=>xA (wA none d) fun f=>xA (wO .u8 f) fun g=>xA (.buildSlice 5 2 [(.int .u8 0)] [(0,1,c),(1,1,g)]) fun i=>xA (wB i) fun j=>xC (e.upd 5 j)
def a6E(e:b7)(h4:Heap)(a b c:Value):Reg:=xE none (some h4) (wA none b) c<|xA (wO .u64 c) fun d=>xD fun h8=>xA (wD 44 [a,(.int .i64 8),d]) fun f=>xD fun h9=>xA (wD 45 [(.int .u8 168),f]) fun g=>xA (wB g) fun i=>xC (e.upd 4 i)
def c0o(e:b7):Reg:=xA (wB (e 5)) fun a=>xA (wC 1 (e 3)) fun b=>xA (wA none b) fun c=>xA (wO .u64 c) fun d=>xD fun h4=>xA (wD 44 [a,(.int .i64 8),d]) fun f=>xA (wC 2 (e 3)) fun g=>xA (wA none g) fun i=>a6E e h4 f g i
def d9E:=an (ro c3a.eq_1)<|an (ro c1J.eq_1)<|an (ro4 a6E.eq_1)<|ro c0o.eq_1
def b5n:CFn:=⟨(.seq (.region c3a) (.seq (.region c1J) (.seq (.region c0o) .ret))),[.t 4]⟩
def e4Q:Pers:=⟨6,[],23,[]⟩
def b8D(e:b7):Reg:=xA (wB (.int .i64 0)) fun a=>xC (e.upd 4 a)
def c4w(e:b7):Reg:=xA (wB (e 0)) fun a=>xA (wB (e 1)) fun b=>xA (wD 144 [a,b]) fun c=>xA (wB c) fun d=>xA (wG d 0) fun f=>xA (wG d 1) fun g=>xA (wB f) fun i=>xA (wB g) fun j=>xC ((e.upd 5 i).upd 6 j)
def c5j(e:b7):Reg:=xA (wB (e 6)) fun a=>xA (wP .not a) fun b=>xC (e.upd 14 b)
def b8b(e:b7):Reg:=xA (wB (e 0)) fun a=>xA (wE .lss a (.int .i64 0)) fun b=>xA (wD 145 [b]) fun c=>xA (wB c) fun d=>xC (e.upd 4 d)
def c0t(e:b7):Reg:=xA (wB (e 5)) fun a=>xA (wB a) fun b=>xC (e.upd 4 b)
def e6M:=an (ro b8D.eq_1)<|an (ro c4w.eq_1)<|an (ro c5j.eq_1)<|an (ro b8b.eq_1)<|ro c0t.eq_1
def d2U:CFn:=⟨(.seq (.region b8D) (.seq (.region c4w) (.seq (.seq (.region c5j) (.cond (fun e=>e 14) (.seq (.region b8b) .ret) .skip)) (.seq (.region c0t) .ret)))),[.t 4]⟩
def e2N:Pers:=⟨7,[14],19,[]⟩
def c5r(e:b7):Reg:=xA (wH 55 [(.int .i64 0),(.int .i64 0),(.int .i64 0)]) fun a=>xA (wB (.bool false)) fun b=>xC ((e.upd 8 a).upd 9 b)
def a5M(e:b7)(a b c:Value):Reg:=xB a false (wA none c) fun d=>xB a false (wE .gtr b d) fun f=>xA (wK a (.bool true) f) fun g=>xA (wB g) fun i=>xC (e.upd 10 i)
def b6F(e:b7):Reg:=xA (wB (e 3)) fun a=>xA (wE .lss a (.int .i64 1)) fun b=>xA (wB b) fun c=>xB c false (wB (e 3)) fun d=>xB c false (wB (e 0)) fun f=>xB c false (wJ f) fun g=>xB c false (wC 0 g) fun i=>xB c false (wC 2 i) fun j=>a5M e c d j
def c0X(e:b7):Reg:=xA (wM [(.int .i64 0),(.int .i64 0),(.int .i64 0)] [(0,1,(.int .i64 3))]) fun a=>xA (wF 3 (e 8) a) fun _=>xA (wB (.bool true)) fun b=>xC (e.upd 9 b)
def c5q(e:b7):Reg:=xA (wB (e 1)) fun a=>xA (wE .geq a (.int .i64 4611686018427387904)) fun b=>xA (wB b) fun c=>xC (e.upd 23 c)
def b8s(e:b7):Reg:=xA (wM [(.int .i64 0),(.int .i64 0),(.int .i64 0)] [(0,1,(.int .i64 2)),(2,1,(.int .i64 9223372036854775807))]) fun a=>xA (wF 3 (e 8) a) fun _=>xA (wB (.bool true)) fun b=>xC (e.upd 9 b)
def c5e(e:b7):Reg:=xA (wB (e 2)) fun a=>xA (wE .gtr a (.int .i64 0)) fun b=>xA (wB b) fun c=>xC (e.upd 27 c)
def b9m(e:b7):Reg:=xA (wB (e 2)) fun a=>xA (wM [(.int .i64 0),(.int .i64 0),(.int .i64 0)] [(0,1,(.int .i64 2)),(2,1,a)]) fun b=>xA (wF 3 (e 8) b) fun _=>xA (wB (.bool true)) fun c=>xC (e.upd 9 c)
def b8u(e:b7):Reg:=xA (wM [(.int .i64 0),(.int .i64 0),(.int .i64 0)] []) fun a=>xA (wF 3 (e 8) a) fun _=>xA (wB (.bool false)) fun b=>xC (e.upd 9 b)
def c9a:=an (ro c5r.eq_1)<|an (W3 a5M.eq_1)<|an (ro b6F.eq_1)<|an (ro c0X.eq_1)<|an (ro c5q.eq_1)<|an (ro b8s.eq_1)<|an (ro c5e.eq_1)<|an (ro b9m.eq_1)<|ro b8u.eq_1
def b5d:CFn:=⟨(.seq (.region c5r) (.seq (.block 0 (.seq (.region b6F) (.cond (fun e=>e 10) (.seq (.region c0X) .ret) (.seq (.region c5q) (.cond (fun e=>e 23) (.seq (.region b8s) .ret) (.seq (.region c5e) (.cond (fun e=>e 27) (.seq (.region b9m) .ret) .skip))))))) (.seq (.region b8u) .ret))),[.c 8 (some 3),.t 9]⟩
def e6D:Pers:=⟨10,[10,23,27],33,[]⟩
def c5J(e:b7):Reg:=xA (wB (e 1)) fun a=>xC (e.upd 4 a)
def c2V(e:b7):Reg:=xA (wE .eql (e 4) (.int .i64 1)) fun a=>xA (wB a) fun b=>xC (e.upd 14 b)
def c5s(e:b7):Reg:=xA (wB (e 0)) fun a=>xA (wJ a) fun b=>xA (wC 16 b) fun c=>xA (wC 0 c) fun d=>xA (wA none d) fun f=>xA (wE .add f (.int .i64 1)) fun g=>xA (wJ a) fun i=>xA (wC 16 i) fun j=>xA (wC 0 j) fun k=>xA (wF 1 k g) fun _=>xC e
def c1h(e:b7):Reg:=xA (wE .eql (e 4) (.int .i64 2)) fun a=>xA (wB a) fun b=>xC (e.upd 25 b)
def c4x(e:b7):Reg:=xA (wB (e 0)) fun a=>xA (wJ a) fun b=>xA (wC 16 b) fun c=>xA (wC 1 c) fun d=>xA (wA none d) fun f=>xA (wE .add f (.int .i64 1)) fun g=>xA (wJ a) fun i=>xA (wC 16 i) fun j=>xA (wC 1 j) fun k=>xA (wF 1 k g) fun _=>xC e
def b8q(e:b7):Reg:=xA (wB (e 0)) fun a=>xA (wJ a) fun b=>xA (wC 16 b) fun c=>xA (wC 2 c) fun d=>xA (wA none d) fun f=>xA (wE .add f (.int .i64 1)) fun g=>xA (wJ a) fun i=>xA (wC 16 i) fun j=>xA (wC 2 j) fun k=>xA (wF 1 k g) fun _=>xC e
def e1l:=an (ro c5J.eq_1)<|an (ro c2V.eq_1)<|an (ro c5s.eq_1)<|an (ro c1h.eq_1)<|an (ro c4x.eq_1)<|ro b8q.eq_1
def c7g:CFn:=⟨(.seq (.region c5J) (.block 0 (.seq (.region c2V) (.cond (fun e=>e 14) (.region c5s) (.seq (.region c1h) (.cond (fun e=>e 25) (.region c4x) (.region b8q))))))),[]⟩
def e5p:Pers:=⟨4,[4,14,25],36,[]⟩
def c0l(e:b7):Reg:=xA (wB (e 0)) fun a=>xA (.eqK .ptr true a (.pointer none)) fun b=>xC (e.upd 5 b)
def b7V(e:b7):Reg:=xA (wB (e 0)) fun a=>xA (wB (e 0)) fun b=>xA (wJ b) fun c=>xA (wC 6 c) fun d=>xA (wA none d) fun f=>xA (wB (e 1)) fun g=>xA (.minmax true [f,g]) fun i=>xA (wJ a) fun j=>xA (wC 6 j) fun k=>xA (wF 1 k i) fun _=>xC e
def e8G:=an (ro c0l.eq_1)<|ro b7V.eq_1
def e0D:CFn:=⟨(.seq (.region c0l) (.cond (fun e=>e 5) (.region b7V) .skip)),[]⟩
def e6V:Pers:=⟨4,[5],15,[]⟩
def a5V(e:b7)(a b:Value):Reg:=xB a false (wE .geq b (.int .i64 4611686018427387904)) fun c=>xA (wK a (.bool true) c) fun d=>xA (wB d) fun f=>xB f false (wB (e 1)) fun g=>xB f false (.lenStr g) fun i=>xB f false (wE .gtr i (.int .i64 64)) fun j=>xA (wK f (.bool true) j) fun k=>xC (e.upd 23 k)
def c3Q(e:b7):Reg:=xA (wB (e 0)) fun a=>xA (.eqK .ptr false a (.pointer none)) fun b=>xA (wB b) fun c=>xB c false (wB (e 2)) fun d=>xB c false (wE .lss d (.int .i64 1)) fun f=>xA (wK c (.bool true) f) fun g=>xA (wB g) fun i=>xB i false (wB (e 2)) fun j=>a5V e i j
def b7x(e:b7):Reg:=xA (wB (e 0)) fun a=>xA (wJ a) fun b=>xA (wC 6 b) fun c=>xA (wA none c) fun d=>xA (wB (e 2)) fun f=>xA (wE .sub (.int .i64 4611686018427387904) f) fun g=>xA (wE .geq d g) fun i=>xC (e.upd 30 i)
def c0q(e:b7):Reg:=xA (wB (e 0)) fun a=>xA (wD 146 [a]) fun b=>xC e
def b7n(e:b7):Reg:=xA (wB (e 0)) fun a=>xA (wJ a) fun b=>xA (wC 6 b) fun c=>xA (wA none c) fun d=>xA (wB (e 2)) fun f=>xA (wE .add d f) fun g=>xA (wJ a) fun i=>xA (wC 6 i) fun j=>xA (wF 1 j g) fun _=>xC e
def c1y(e:b7):Reg:=xA (wB (e 0)) fun a=>xA (wJ a) fun b=>xA (wC 1 b) fun c=>xA (wA none c) fun d=>xA (wB (e 1)) fun f=>xA (wD 147 [d,f]) fun g=>xA (wB g) fun i=>xC (e.upd 6 i)
def b8J(e:b7):Reg:=xA (wB (e 6)) fun a=>xA (wE .lss a (.int .i64 0)) fun b=>xC (e.upd 48 b)
def b6U(e:b7):Reg:=xA (wB (.int .i64 0)) fun a=>xC (e.upd 7 a)
def c2Z(e:b7):Reg:=xA (wB (e 0)) fun a=>xD fun h1=>xA (wD 148 [a]) fun b=>xA (wB (e 0)) fun c=>xA (wJ c) fun d=>xA (wC 2 d) fun f=>xA (wA none f) fun g=>xE none (some h1) (wA none f) g<|xA (wL g) fun i=>xA (wE .eql b i) fun j=>xC (e.upd 56 j)
def c3j(e:b7):Reg:=xA (wB (e 0)) fun a=>xA (wD 149 [a]) fun b=>xA (wB b) fun c=>xC (e.upd 7 c)
def c3V(e:b7):Reg:=xA (wB (e 0)) fun a=>xA (wJ a) fun b=>xA (wC 1 b) fun c=>xA (wA none c) fun d=>xA (wB (e 1)) fun f=>xA (wD 150 [d,f]) fun g=>xA (wB g) fun i=>xC (e.upd 6 i)
def a3z(e:b7)(a b c:Value):Reg:=xA (wA none c) fun d=>xA (wB (e 6)) fun f=>xA (wB (e 7)) fun g=>xA (wB (e 7)) fun i=>xA (wI 1 a b) fun j=>xD fun h13=>xA (wF 1 j g) fun _=>xA (wI 1 d f) fun k=>xD fun h15=>xA (wF 1 k i) fun _=>xC e
def a7h(e:b7):Reg:=xA (wB (e 0)) fun a=>xA (wJ a) fun b=>xA (wC 2 b) fun c=>xA (wA none c) fun d=>xA (wB (e 6)) fun f=>xA (wB (e 0)) fun g=>xA (wJ g) fun i=>xA (wC 3 i) fun j=>a3z e d f j
def a5s(e:b7):Reg:=xA (wB (e 0)) fun a=>xA (wD 148 [a]) fun b=>xA (wE .sub b (.int .i64 1)) fun c=>xA (wB c) fun d=>xC (e.upd 8 d)
def a4f(e:b7)(a b c d f:Value):Reg:=xA (wF 1 f c) fun _=>xA (wI 1 a b) fun g=>xD fun h17=>xA (wF 1 g d) fun _=>xC e
def a3U(e:b7)(a b c:Value):Reg:=xA (wA none c) fun d=>xA (wB (e 6)) fun f=>xA (wB (e 6)) fun g=>xA (wO .i32 g) fun i=>xA (wB (e 8)) fun j=>xA (wO .i32 j) fun k=>xA (wI 1 a b) fun m=>xD fun h15=>a4f e d f i k m
def a6L(e:b7):Reg:=xA (wB (e 0)) fun a=>xA (wJ a) fun b=>xA (wC 4 b) fun c=>xA (wA none c) fun d=>xA (wB (e 8)) fun f=>xA (wB (e 0)) fun g=>xA (wJ g) fun i=>xA (wC 5 i) fun j=>a3U e d f j
def a4i(e:b7)(a b c d:Value):Reg:=xA (wE .add c d) fun f=>xA (wI 1 a b) fun g=>xA (wF 1 g f) fun _=>xC e
def a6A(e:b7):Reg:=xA (wB (e 0)) fun a=>xA (wJ a) fun b=>xA (wC 2 b) fun c=>xA (wA none c) fun d=>xA (wB (e 6)) fun f=>xA (wI 1 d f) fun g=>xA (wA none g) fun i=>xA (wB (e 2)) fun j=>a4i e d f i j
def a5p(e:b7):Reg:=xA (wB (e 0)) fun a=>xA (wB (e 6)) fun b=>xA (wD 151 [a,b]) fun c=>xC e
def c7v:=an (O5 a5V.eq_1)<|an (ro c3Q.eq_1)<|an (ro b7x.eq_1)<|an (ro c0q.eq_1)<|an (ro b7n.eq_1)<|an (ro c1y.eq_1)<|an (ro b8J.eq_1)<|an (ro b6U.eq_1)<|an (ro c2Z.eq_1)<|an (ro c3j.eq_1)<|an (ro c3V.eq_1)<|an (W3 a3z.eq_1)<|an (ro a7h.eq_1)<|an (ro a5s.eq_1)<|an (ro5 a4f.eq_1)<|an (W3 a3U.eq_1)<|an (ro a6L.eq_1)<|an (ro4 a4i.eq_1)<|an (ro a6A.eq_1)<|ro a5p.eq_1
def b2h:CFn:=⟨(.seq (.seq (.region c3Q) (.cond (fun e=>e 23) .ret .skip)) (.seq (.seq (.region b7x) (.cond (fun e=>e 30) (.region c0q) .skip)) (.seq (.region b7n) (.seq (.region c1y) (.seq (.seq (.region b8J) (.cond (fun e=>e 48) (.seq (.region b6U) (.seq (.seq (.region c2Z) (.cond (fun e=>e 56) (.region c3j) .skip)) (.seq (.region c3V) (.seq (.region a7h) (.seq (.region a5s) (.region a6L)))))) .skip)) (.seq (.region a6A) (.region a5p))))))),[]⟩
def e4G:Pers:=⟨9,[23,30,48,56],111,[]⟩
def c5i(e:b7):Reg:=xA (wB (.pointer none)) fun a=>xA (wB (.slice none 0 0)) fun b=>xC ((e.upd 6 a).upd 7 b)
def b6S(e:b7):Reg:=xA (wB (e 0)) fun a=>xA (wJ a) fun b=>xA (wC 13 b) fun c=>xA (wA none c) fun d=>xA (wB (e 2)) fun f=>xA (wD 139 [d,f]) fun g=>xA (wB g) fun i=>xC (e.upd 8 i)
def c3O(e:b7):Reg:=xA (wB (e 8)) fun a=>xA (.eqK .ptr true a (.pointer none)) fun b=>xC (e.upd 22 b)
def c0C(e:b7):Reg:=xA (wB (e 8)) fun a=>xA (wB a) fun b=>xA (wB (.slice none 0 0)) fun c=>xC ((e.upd 6 b).upd 7 c)
def b9S(e:b7):Reg:=xA (wB (.slice none 0 0)) fun a=>xC (e.upd 9 a)
def c3R(e:b7):Reg:=xA (wB (e 0)) fun a=>xA (wJ a) fun b=>xA (wC 13 b) fun c=>xA (wA none c) fun d=>xA (wD 141 [d]) fun f=>xC (e.upd 28 f)
def a4S(e:b7)(a b:Value):Reg:=xA (wB (e 1)) fun c=>xD fun h9=>xA (wD 140 [a,b,c]) fun d=>xA (wB d) fun f=>xA (wG f 0) fun g=>xA (wG f 1) fun i=>xA (wB g) fun j=>xA (wB i) fun k=>xC ((e.upd 10 j).upd 11 k)
def b7i(e:b7):Reg:=xA (wB (e 0)) fun a=>xA (wJ a) fun b=>xA (wC 13 b) fun c=>xA (wA none c) fun d=>xA (wB (e 0)) fun f=>xA (wJ f) fun g=>xA (wC 9 g) fun i=>xA (wA (some 4) i) fun j=>a4S e d j
def b6H(e:b7):Reg:=xA (wB (e 11)) fun a=>xA (wP .not a) fun b=>xC (e.upd 43 b)
def b8d(e:b7):Reg:=xA (wB (e 0)) fun a=>xA (wB (e 2)) fun b=>xA (wD 152 [a,b]) fun c=>xA (wB c) fun d=>xA (wG d 0) fun f=>xA (wG d 1) fun g=>xA (wB f) fun i=>xA (wB g) fun j=>xC ((e.upd 10 i).upd 11 j)
def c3m(e:b7):Reg:=xA (wB (e 11)) fun a=>xA (wP .not a) fun b=>xC (e.upd 51 b)
def b4I(e:b7):Reg:=xA (wB (.pointer none)) fun a=>xA (wB (.slice none 0 0)) fun b=>xC ((e.upd 6 a).upd 7 b)
def a0K(e:b7)(a b:Value):Reg:=xA (wG a 1) fun c=>xA (wH 250 [(.int .i64 0),(.int .i64 0),(.int .i64 0),(.int .i64 0)]) fun d=>xA (wF 4 d b) fun _=>xA (wB c) fun f=>xC ((e.upd 12 d).upd 13 f)
def b4r(e:b7):Reg:=xA (wB (e 0)) fun a=>xA (wJ a) fun b=>xA (wC 13 b) fun c=>xA (wA none c) fun d=>xA (wB (e 10)) fun f=>xA (wD 153 [d,f]) fun g=>xA (wB g) fun i=>xA (wG i 0) fun j=>a0K e i j
def a3K(e:b7)(a b c d f:Value):Reg:=xA (wC 9 f) fun g=>xA (wA (some 4) g) fun i=>xA (wB (e 1)) fun j=>xD fun h11=>xA (wD 154 [d,i,j]) fun k=>xE none none (wA none a) b<|xD fun h12=>xA (wD 136 [b,c,k]) fun m=>xC e
def a5n(e:b7):Reg:=xA (wB (e 0)) fun a=>xA (wJ a) fun b=>xA (wC 14 b) fun c=>xA (wA none c) fun d=>xA (wB (e 10)) fun f=>xA (wA (some 4) (e 12)) fun g=>xA (wB (e 0)) fun i=>xA (wJ i) fun j=>a3K e c d f g j
def a6y(e:b7):Reg:=xA (wB (e 9)) fun a=>xA (wB (e 10)) fun b=>xA (wB (e 1)) fun c=>xA (wM [(.int .i64 0),(.string ⟨#[]⟩),(.bool false),(.int .i64 0)] [(1,1,b),(3,1,c)]) fun d=>xA (.buildSlice 123 1 [(.int .i64 0),(.string ⟨#[]⟩),(.bool false),(.int .i64 0)] [(0,4,d)]) fun f=>xA (.append 123 4 40 a f) fun g=>xA (wB g) fun i=>xC (e.upd 9 i)
def a3t(e:b7)(a b c d:Value):Reg:=xE none none (wA none a) b<|xD fun h13=>xA (wD 155 [b,c,d]) fun f=>xA (wB f) fun g=>xC (e.upd 14 g)
def a4d(e:b7)(a b c d f:Value):Reg:=xA (wC 14 f) fun g=>xA (wA none g) fun i=>xA (wB (e 2)) fun j=>xD fun h11=>xA (wD 135 [i,j]) fun k=>xE none none (wA none a) b<|xD fun h12=>xA (wD 142 [d,k]) fun m=>a3t e a b c m
def a5J(e:b7):Reg:=xA (wB (e 0)) fun a=>xA (wJ a) fun b=>xA (wC 13 b) fun c=>xA (wA none c) fun d=>xA (wB (e 2)) fun f=>xA (wB (e 1)) fun g=>xA (wB (e 0)) fun i=>xA (wJ i) fun j=>a4d e c d f g j
def a5C(e:b7):Reg:=xA (wB (e 14)) fun a=>xA (wB (e 9)) fun b=>xA (wB (e 2)) fun c=>xA (wB (e 1)) fun d=>xA (wM [(.int .i64 0),(.string ⟨#[]⟩),(.bool false),(.int .i64 0)] [(1,1,c),(2,1,(.bool true)),(3,1,d)]) fun f=>xA (.buildSlice 123 1 [(.int .i64 0),(.string ⟨#[]⟩),(.bool false),(.int .i64 0)] [(0,4,f)]) fun g=>xA (.append 123 4 40 b g) fun i=>xA (wB a) fun j=>xA (wB i) fun k=>xC ((e.upd 6 j).upd 7 k)
def a0M:=an (ro c5i.eq_1)<|an (ro b6S.eq_1)<|an (ro c3O.eq_1)<|an (ro c0C.eq_1)<|an (ro b9S.eq_1)<|an (ro c3R.eq_1)<|an (O5 a4S.eq_1)<|an (ro b7i.eq_1)<|an (ro b6H.eq_1)<|an (ro b8d.eq_1)<|an (ro c3m.eq_1)<|an (ro b4I.eq_1)<|an (O5 a0K.eq_1)<|an (ro b4r.eq_1)<|an (ro5 a3K.eq_1)<|an (ro a5n.eq_1)<|an (ro a6y.eq_1)<|an (ro4 a3t.eq_1)<|an (ro5 a4d.eq_1)<|an (ro a5J.eq_1)<|ro a5C.eq_1
def a0h:CFn:=⟨(.seq (.region c5i) (.seq (.seq (.region b6S) (.seq (.region c3O) (.cond (fun e=>e 22) (.seq (.region c0C) .ret) .skip))) (.seq (.region b9S) (.seq (.seq (.region c3R) (.cond (fun e=>e 28) (.seq (.region b7i) (.seq (.seq (.region b6H) (.cond (fun e=>e 43) (.region b8d) .skip)) (.seq (.seq (.region c3m) (.cond (fun e=>e 51) (.seq (.region b4I) .ret) .skip)) (.seq (.region b4r) (.seq (.region a5n) (.region a6y)))))) .skip)) (.seq (.region a5J) (.seq (.region a5C) .ret)))))),[.t 6,.t 7]⟩
def e5B:Pers:=⟨15,[22,28,43,51],101,[]⟩
def c2q(e:b7):Reg:=xA (wN 126 (e 1)) fun a=>xA (wB (.bool false)) fun b=>xC ((e.upd 5 a).upd 8 b)
def a5F(e:b7)(a b c d:Value):Reg:=xB a false (wB (e 2)) fun f=>xD fun h9=>xB a false (wD 134 [c,d,f]) fun g=>xB a false (wE .gtr b g) fun i=>xA (wK a (.bool true) i) fun j=>xC (e.upd 20 j)
def c3D(e:b7):Reg:=xA (wB (e 3)) fun a=>xA (wE .lss a (.int .i64 1)) fun b=>xA (wB b) fun c=>xB c false (wB (e 3)) fun d=>xB c false (wB (e 0)) fun f=>xB c false (wJ f) fun g=>xB c false (wA (some 4) g) fun i=>xB c false (wA (some 4) (e 5)) fun j=>a5F e c d i j
def b9V(e:b7):Reg:=xA (wB (.bool false)) fun a=>xC (e.upd 8 a)
def a5I(e:b7)(a b c:Value):Reg:=xA (wC 0 (e 5)) fun d=>xA (wA none d) fun f=>xA (wE .mul c f) fun g=>xA (wE .add b g) fun i=>xA (wJ a) fun j=>xA (wC 0 j) fun k=>xD fun h14=>xA (wF 1 k i) fun _=>xC e
def b8V(e:b7):Reg:=xA (wB (e 0)) fun a=>xA (wB (e 0)) fun b=>xA (wJ b) fun c=>xA (wC 0 c) fun d=>xA (wA none d) fun f=>xA (wB (e 2)) fun g=>xA (.minmax true [f,g]) fun i=>xA (wB (e 3)) fun j=>a5I e a i j
def c1E(e:b7):Reg:=xA (wB (e 0)) fun a=>xA (wB (e 0)) fun b=>xA (wJ b) fun c=>xA (wC 3 c) fun d=>xA (wA none d) fun f=>xA (wB (e 3)) fun g=>xA (wD 126 [f,g]) fun i=>xA (wJ a) fun j=>xA (wC 3 j) fun k=>xA (wF 1 k i) fun _=>xC e
def b9b(e:b7):Reg:=xA (wB (.bool true)) fun a=>xC (e.upd 8 a)
def e0E:=an (ro c2q.eq_1)<|an (ro4 a5F.eq_1)<|an (ro c3D.eq_1)<|an (ro b9V.eq_1)<|an (W3 a5I.eq_1)<|an (ro b8V.eq_1)<|an (ro c1E.eq_1)<|ro b9b.eq_1
def b5J:CFn:=⟨(.seq (.region c2q) (.seq (.seq (.region c3D) (.cond (fun e=>e 20) (.seq (.region b9V) .ret) .skip)) (.seq (.region b8V) (.seq (.region c1E) (.seq (.region b9b) .ret))))),[.t 8]⟩
def e4Y:Pers:=⟨9,[20],44,[]⟩
open Reg renaming op->xA,opg->xB,done->xC,snap->xD,chk->xE
open COp renaming load->wA,mv->wB,fieldAddr->wC,call->wD,bin->wE,store->wF,extract->wG,alloc->wH,indexSl->wI,nilCheck->wJ,pick->wK,lenSl->wL,build->wM,box->wN,conv->wO,un->wP
def c2s(e:b7):Reg:=xA (wN 250 (e 0)) fun a=>xA (wN 126 (e 1)) fun b=>xA (wB (.int .i64 0)) fun c=>xC (((e.upd 4 a).upd 5 b).upd 8 c)
def a6T(e:b7)(a b c d:Value):Reg:=xA (wE .sub c d) fun f=>xA (wC 0 (e 5)) fun g=>xA (wA none g) fun i=>xA (wE .mul f i) fun j=>xA (wE .add b j) fun k=>xA (wE .sub a k) fun m=>xA (.minmax true [m,(.int .i64 0)]) fun n=>xA (wB n) fun o=>xC (e.upd 9 o)
def c4C(e:b7):Reg:=xA (wC 0 (e 4)) fun a=>xA (wA none a) fun b=>xA (wB (e 2)) fun c=>xA (.minmax true [b,c]) fun d=>xA (wB (e 2)) fun f=>xA (wC 2 (e 5)) fun g=>xA (wA none g) fun i=>xA (wB (e 3)) fun j=>a6T e d f i j
def a6Z(e:b7)(a:Value)(h9 h11:Heap)(b c:Value):Reg:=xB a true (wA none c) fun d=>xE (some (a,true)) (some h11) (.load none c) d<|xE (some (a,true)) (some h9) (.load none c) d<|xB a true (wE .gtr b d) fun f=>xA (wK a f (.bool false)) fun g=>xC (e.upd 40 g)
def a5O(e:b7)(a b:Value):Reg:=xB a true (wC 3 (e 4)) fun c=>xB a true (wA none c) fun d=>xD fun h9=>xB a true (wD 126 [b,d]) fun f=>xB a true (wB (e 3)) fun g=>xD fun h11=>xB a true (wD 126 [f,g]) fun i=>xB a true (wC 3 (e 5)) fun j=>a6Z e a h9 h11 i j
def c1B(e:b7):Reg:=xA (wA (some 4) (e 4)) fun a=>xA (wA (some 4) (e 5)) fun b=>xA (wB (e 2)) fun c=>xD fun h3=>xA (wD 156 [a,b,c]) fun d=>xA (wB d) fun f=>xB f true (wC 2 (e 4)) fun g=>xB f true (wA none g) fun i=>a5O e f i
def c2o(e:b7):Reg:=xA (wB (e 9)) fun a=>xA (wC 1 (e 4)) fun b=>xA (wA none b) fun c=>xA (wC 1 (e 5)) fun d=>xA (wA none d) fun f=>xA (wE .add c f) fun g=>xA (wB (e 2)) fun i=>xA (wE .sub g i) fun j=>xA (.minmax true [a,j]) fun k=>xA (wB k) fun m=>xC (e.upd 9 m)
def c0i(e:b7):Reg:=xA (wB (e 9)) fun a=>xA (wB a) fun b=>xC (e.upd 8 b)
def e0j:=an (ro c2s.eq_1)<|an (ro4 a6T.eq_1)<|an (ro c4C.eq_1)<|an (ro5 a6Z.eq_1)<|an (O5 a5O.eq_1)<|an (ro c1B.eq_1)<|an (ro c2o.eq_1)<|ro c0i.eq_1
def b5P:CFn:=⟨(.seq (.region c2s) (.seq (.region c4C) (.seq (.seq (.region c1B) (.cond (fun e=>e 40) (.region c2o) .skip)) (.seq (.region c0i) .ret)))),[.t 8]⟩
def e7o:Pers:=⟨10,[40],51,[]⟩
def c3S(e:b7):Reg:=xA (wN 250 (e 0)) fun a=>xA (wN 126 (e 1)) fun b=>xA (wB (.int .i64 0)) fun c=>xC (((e.upd 3 a).upd 4 b).upd 6 c)
def c3J(e:b7):Reg:=xA (wC 2 (e 4)) fun a=>xA (wA none a) fun b=>xA (wB b) fun c=>xC (e.upd 7 c)
def b9j(e:b7):Reg:=xA (wC 0 (e 3)) fun a=>xA (wA none a) fun b=>xA (wB (e 2)) fun c=>xA (wE .sub b c) fun d=>xA (wB d) fun f=>xC (e.upd 8 f)
def c2z(e:b7):Reg:=xA (wB (e 8)) fun a=>xA (wE .gtr a (.int .i64 0)) fun b=>xC (e.upd 16 b)
def a5H(e:b7)(a b:Value):Reg:=xA (wA none b) fun c=>xA (wE .quo a c) fun d=>xA (.minmax true [d,(.int .i64 0)]) fun f=>xA (wB f) fun g=>xC (e.upd 7 g)
def c3Y(e:b7):Reg:=xA (wC 2 (e 4)) fun a=>xA (wA none a) fun b=>xA (wC 0 (e 4)) fun c=>xA (wA none c) fun d=>xA (wE .mul b d) fun f=>xA (wB (e 8)) fun g=>xA (wE .sub f g) fun i=>xA (wC 0 (e 4)) fun j=>a5H e i j
def c1r(e:b7):Reg:=xA (wC 2 (e 4)) fun a=>xA (wA none a) fun b=>xA (wC 0 (e 4)) fun c=>xA (wA none c) fun d=>xA (wE .mul b d) fun f=>xA (wB (e 8)) fun g=>xA (wE .lss f g) fun i=>xC (e.upd 34 i)
def b9x(e:b7):Reg:=xA (wB (.int .i64 0)) fun a=>xC (e.upd 7 a)
def c1Q(e:b7):Reg:=xA (wA (some 4) (e 3)) fun a=>xA (wA (some 4) (e 4)) fun b=>xA (wB (e 2)) fun c=>xA (wD 156 [a,b,c]) fun d=>xC (e.upd 38 d)
def a5v(e:b7)(a b c d f:Value):Reg:=xA (wD 126 [d,f]) fun g=>xE none none (wA none b) c<|xA (wE .sub c g) fun i=>xA (.minmax true [i,(.int .i64 0)]) fun j=>xA (.minmax false [a,j]) fun k=>xA (wB k) fun m=>xC (e.upd 7 m)
def b1C(e:b7):Reg:=xA (wB (e 7)) fun a=>xA (wC 3 (e 4)) fun b=>xA (wA none b) fun c=>xA (wC 2 (e 3)) fun d=>xA (wA none d) fun f=>xA (wC 3 (e 3)) fun g=>xA (wA none g) fun i=>xD fun h7=>a5v e a b c f i
def b2d(e:b7):Reg:=xA (wB (e 7)) fun a=>xA (wB a) fun b=>xC (e.upd 6 b)
def d8V:=an (ro c3S.eq_1)<|an (ro c3J.eq_1)<|an (ro b9j.eq_1)<|an (ro c2z.eq_1)<|an (O5 a5H.eq_1)<|an (ro c3Y.eq_1)<|an (ro c1r.eq_1)<|an (ro b9x.eq_1)<|an (ro c1Q.eq_1)<|an (ro5 a5v.eq_1)<|an (ro b1C.eq_1)<|ro b2d.eq_1
def b2B:CFn:=⟨(.seq (.region c3S) (.seq (.region c3J) (.seq (.seq (.region b9j) (.seq (.region c2z) (.cond (fun e=>e 16) (.seq (.region c3Y) (.seq (.region c1r) (.cond (fun e=>e 34) (.region b9x) .skip))) .skip))) (.seq (.seq (.region c1Q) (.cond (fun e=>e 38) (.region b1C) .skip)) (.seq (.region b2d) .ret))))),[.t 6]⟩
def e5H:Pers:=⟨9,[16,34,38],51,[]⟩
def b7Y(e:b7):Reg:=xA (wB (.int .i64 0)) fun a=>xC (e.upd 4 a)
def c5d(e:b7):Reg:=xA (wB (e 0)) fun a=>xA (.eqK .ptr false a (.pointer none)) fun b=>xC (e.upd 6 b)
def b7o(e:b7):Reg:=xA (wB (.int .i64 0)) fun a=>xC (e.upd 4 a)
def a5Z(e:b7)(a b:Value)(h7:Heap)(c d f:Value):Reg:=xA (wC 2 f) fun g=>xA (wA none g) fun i=>xE none (some h7) (wA none g) i<|xA (wE .rem d i) fun j=>xD fun h17=>xA (wD 157 [a,b,c,j]) fun k=>xA (wB k) fun m=>xC (e.upd 4 m)
def a6e(e:b7)(a b c d:Value)(h7:Heap):Reg:=xA (wD 158 [c,d]) fun f=>xA (wB (e 0)) fun g=>xA (wJ g) fun i=>xA (wC 6 i) fun j=>xA (wA none j) fun k=>xE none (some h7) (wA none j) k<|xA (wB (e 0)) fun m=>xA (wJ m) fun n=>a5Z e a b h7 f k n
def b8Y(e:b7):Reg:=xA (wB (e 0)) fun a=>xA (wB (e 1)) fun b=>xA (wB (e 0)) fun c=>xA (wB (e 0)) fun d=>xA (wJ d) fun f=>xA (wC 6 f) fun g=>xA (wA none g) fun i=>xD fun h7=>a6e e a b c i h7
def e6O:=an (ro b7Y.eq_1)<|an (ro c5d.eq_1)<|an (ro b7o.eq_1)<|an (ro6 a5Z.eq_1)<|an (ro5 a6e.eq_1)<|ro b8Y.eq_1
def d2H:CFn:=⟨(.seq (.region b7Y) (.seq (.seq (.region c5d) (.cond (fun e=>e 6) (.seq (.region b7o) .ret) .skip)) (.seq (.region b8Y) .ret))),[.t 4]⟩
def e5i:Pers:=⟨5,[6],25,[]⟩
def b9W(e:b7):Reg:=xA (wB (e 0)) fun a=>xA (.eqK .ptr false a (.pointer none)) fun b=>xC (e.upd 9 b)
def c2Y(e:b7):Reg:=xA (wB (e 0)) fun a=>xA (wB (e 0)) fun b=>xA (wJ b) fun c=>xA (wC 6 c) fun d=>xA (wA none d) fun f=>xA (wD 158 [a,f]) fun g=>xA (wB g) fun i=>xC (e.upd 6 i)
def b7m(e:b7):Reg:=xA (wB (e 6)) fun a=>xA (wB (e 0)) fun b=>xA (wJ b) fun c=>xA (wC 0 c) fun d=>xA (wA none d) fun f=>xA (wL f) fun g=>xA (wE .rem a g) fun i=>xA (wB i) fun j=>xC (e.upd 7 j)
def c0D(e:b7):Reg:=xA (wB (e 0)) fun a=>xA (wJ a) fun b=>xA (wC 1 b) fun c=>xA (wA none c) fun d=>xA (wB (e 7)) fun f=>xA (wI 1 d f) fun g=>xA (wA none g) fun i=>xA (wB (e 6)) fun j=>xA (wE .add j (.int .i64 1)) fun k=>xA (wE .neq i k) fun m=>xC (e.upd 32 m)
def b8h(e:b7):Reg:=xA (wB (e 0)) fun a=>xA (wJ a) fun b=>xA (wC 0 b) fun c=>xA (wA none c) fun d=>xA (wB (e 7)) fun f=>xA (wI 1 d f) fun g=>xA (wA none g) fun i=>xA (wD 159 [i]) fun j=>xC e
def c0e(e:b7):Reg:=xA (wB (e 0)) fun a=>xA (wJ a) fun b=>xA (wC 1 b) fun c=>xA (wA none c) fun d=>xA (wB (e 7)) fun f=>xA (wB (e 6)) fun g=>xA (wE .add g (.int .i64 1)) fun i=>xA (wI 1 d f) fun j=>xA (wF 1 j i) fun _=>xC e
def b7G(e:b7):Reg:=xA (wB (e 0)) fun a=>xA (wJ a) fun b=>xA (wC 0 b) fun c=>xA (wA none c) fun d=>xA (wB (e 7)) fun f=>xA (wI 1 d f) fun g=>xA (wA none g) fun i=>xA (wB (e 1)) fun j=>xA (wB (e 2)) fun k=>xA (wD 160 [i,j,k]) fun m=>xC e
def c8l:=an (ro b9W.eq_1)<|an (ro c2Y.eq_1)<|an (ro b7m.eq_1)<|an (ro c0D.eq_1)<|an (ro b8h.eq_1)<|an (ro c0e.eq_1)<|ro b7G.eq_1
def b3K:CFn:=⟨(.seq (.seq (.region b9W) (.cond (fun e=>e 9) .ret .skip)) (.seq (.region c2Y) (.seq (.region b7m) (.seq (.seq (.region c0D) (.cond (fun e=>e 32) (.seq (.region b8h) (.region c0e)) .skip)) (.region b7G))))),[]⟩
def e6k:Pers:=⟨8,[9,32],59,[]⟩
def c5H(e:b7):Reg:=xA (wB (.int .i64 0)) fun a=>xC (e.upd 6 a)
def a7C(e:b7)(a:Value)(h5:Heap)(b c:Value):Reg:=xD fun h7=>xB a false (wD 126 [b,c]) fun d=>xB a false (wB (e 0)) fun f=>xB a false (wJ f) fun g=>xB a false (wC 4 g) fun i=>xB a false (wA none i) fun j=>xE (some (a,false)) (some h7) (.load none i) j<|xE (some (a,false)) (some h5) (.load none i) j<|xB a false (wE .leq d j) fun k=>xA (wK a (.bool true) k) fun m=>xC (e.upd 22 m)
def b7I(e:b7):Reg:=xA (wB (e 0)) fun a=>xA (.eqK .ptr false a (.pointer none)) fun b=>xA (wB b) fun c=>xB c false (wB (e 0)) fun d=>xB c false (wB (e 1)) fun f=>xD fun h5=>xB c false (wD 135 [d,f]) fun g=>xB c false (wB (e 2)) fun i=>a7C e c h5 g i
def b9D(e:b7):Reg:=xA (wB (.int .i64 0)) fun a=>xC (e.upd 6 a)
def b9H(e:b7):Reg:=xA (wB (e 0)) fun a=>xA (wB (e 0)) fun b=>xA (wJ b) fun c=>xA (wC 6 c) fun d=>xA (wA none d) fun f=>xA (wD 158 [a,f]) fun g=>xA (wB g) fun i=>xC (e.upd 7 i)
def c2B(e:b7):Reg:=xA (wB (.int .i64 1)) fun a=>xC (e.upd 8 a)
def c1G(e:b7):Reg:=xA (wB (e 8)) fun a=>xA (wB (e 0)) fun b=>xA (wJ b) fun c=>xA (wC 0 c) fun d=>xA (wA none d) fun f=>xA (wL f) fun g=>xA (wE .leq a g) fun i=>xC (e.upd 35 i)
def a6G(e:b7)(h5:Heap)(a b:Value):Reg:=xD fun h7=>xA (wD 126 [a,b]) fun c=>xA (wB (e 0)) fun d=>xA (wJ d) fun f=>xA (wC 4 f) fun g=>xA (wA none g) fun i=>xE none (some h7) (wA none g) i<|xE none (some h5) (wA none g) i<|xA (wE .leq c i) fun j=>xC (e.upd 50 j)
def c0w(e:b7):Reg:=xA (wB (e 0)) fun a=>xA (wB (e 1)) fun b=>xA (wB (e 7)) fun c=>xA (wB (e 8)) fun d=>xA (wE .add c d) fun f=>xD fun h5=>xA (wD 157 [a,b,f,(.int .i64 0)]) fun g=>xA (wB (e 2)) fun i=>a6G e h5 g i
def a6t(e:b7)(a b:Value)(h7:Heap):Reg:=xA (wD 161 [a,b]) fun c=>xA (wB (e 0)) fun d=>xA (wJ d) fun f=>xA (wC 6 f) fun g=>xA (wA none g) fun i=>xE none (some h7) (wA none g) i<|xA (wP .neg i) fun j=>xD fun h13=>xA (wD 126 [c,j]) fun k=>xA (wB k) fun m=>xC (e.upd 6 m)
def c2a(e:b7):Reg:=xA (wB (e 7)) fun a=>xA (wB (e 8)) fun b=>xA (wE .add a b) fun c=>xA (wB (e 0)) fun d=>xA (wJ d) fun f=>xA (wC 2 f) fun g=>xA (wA none g) fun i=>xD fun h7=>a6t e c i h7
def c2j(e:b7):Reg:=xA (wB (e 8)) fun a=>xA (wE .add a (.int .i64 1)) fun b=>xA (wB b) fun c=>xC (e.upd 8 c)
def a4w:CC:=(.seq (.seq (.region c1G) (.cond (fun e=>e 35) .skip (.exit 0))) (.seq (.block 1 (.seq (.region c0w) (.cond (fun e=>e 50) (.seq (.region c2a) .ret) .skip))) (.region c2j)))
def a7l(e:b7)(h11:Heap)(a b:Value):Reg:=xA (wA none b) fun c=>xE none (some h11) (wA none b) c<|xA (wP .neg c) fun d=>xD fun h17=>xA (wD 126 [a,d]) fun f=>xA (wB f) fun g=>xC (e.upd 6 g)
def a4Z(e:b7)(a b:Value):Reg:=xA (wJ b) fun c=>xA (wC 2 c) fun d=>xA (wA none d) fun f=>xD fun h11=>xA (wD 161 [a,f]) fun g=>xA (wB (e 0)) fun i=>xA (wJ i) fun j=>xA (wC 6 j) fun k=>a7l e h11 g k
def c1n(e:b7):Reg:=xA (wB (e 7)) fun a=>xA (wB (e 0)) fun b=>xA (wJ b) fun c=>xA (wC 0 c) fun d=>xA (wA none d) fun f=>xA (wL f) fun g=>xA (wE .add a g) fun i=>xA (wB (e 0)) fun j=>a4Z e i j
def b6v:=an (ro c5H.eq_1)<|an (ro4 a7C.eq_1)<|an (ro b7I.eq_1)<|an (ro b9D.eq_1)<|an (ro b9H.eq_1)<|an (ro c2B.eq_1)<|an (ro c1G.eq_1)<|an (W3 a6G.eq_1)<|an (ro c0w.eq_1)<|an (W3 a6t.eq_1)<|an (ro c2a.eq_1)<|an (ro c2j.eq_1)<|an (W3 a7l.eq_1)<|an (O5 a4Z.eq_1)<|ro c1n.eq_1
def a7V:CFn:=⟨(.seq (.region c5H) (.seq (.seq (.region b7I) (.cond (fun e=>e 22) (.seq (.region b9D) .ret) .skip)) (.seq (.region b9H) (.seq (.seq (.region c2B) (.block 0 (.loop a4w))) (.seq (.region c1n) .ret))))),[.t 6]⟩
def e3T:Pers:=⟨9,[22,35,50],83,[]⟩
def b6R(e:b7):Reg:=xA (wB (.int .i64 0)) fun a=>xC (e.upd 4 a)
def c2e(e:b7):Reg:=xA (wB (e 1)) fun a=>xA (.minmax true [a,(.int .i64 0)]) fun b=>xA (wB (e 0)) fun c=>xA (wJ c) fun d=>xA (wC 0 d) fun f=>xA (wC 2 f) fun g=>xA (wA none g) fun i=>xA (.minmax false [b,i]) fun j=>xA (wB j) fun k=>xC (e.upd 4 k)
def f0n:=an (ro b6R.eq_1)<|ro c2e.eq_1
def d9T:CFn:=⟨(.seq (.region b6R) (.seq (.region c2e) .ret)),[.t 4]⟩
def e7d:Pers:=⟨5,[],13,[]⟩
def c1l(e:b7):Reg:=xA (wB (.pointer none)) fun a=>xC (e.upd 4 a)
def b8c(e:b7):Reg:=xA (wB (e 0)) fun a=>xA (.eqK .ptr false a (.pointer none)) fun b=>xC (e.upd 7 b)
def c2J(e:b7):Reg:=xA (wB (.pointer none)) fun a=>xC (e.upd 4 a)
def b6L(e:b7):Reg:=xA (wB (e 0)) fun a=>xA (wJ a) fun b=>xA (wC 1 b) fun c=>xA (wA none c) fun d=>xA (wB (e 1)) fun f=>xA (wD 147 [d,f]) fun g=>xA (wB g) fun i=>xC (e.upd 5 i)
def c5b(e:b7):Reg:=xA (wB (e 5)) fun a=>xA (wE .geq a (.int .i64 0)) fun b=>xC (e.upd 15 b)
def c2C(e:b7):Reg:=xA (wB (e 0)) fun a=>xA (wJ a) fun b=>xA (wC 2 b) fun c=>xA (wA none c) fun d=>xA (wB (e 5)) fun f=>xA (wI 4 d f) fun g=>xA (wB g) fun i=>xC (e.upd 4 i)
def c1S(e:b7):Reg:=xA (wB (.pointer none)) fun a=>xC (e.upd 4 a)
def e1k:=an (ro c1l.eq_1)<|an (ro b8c.eq_1)<|an (ro c2J.eq_1)<|an (ro b6L.eq_1)<|an (ro c5b.eq_1)<|an (ro c2C.eq_1)<|ro c1S.eq_1
def c7A:CFn:=⟨(.seq (.region c1l) (.seq (.seq (.region b8c) (.cond (fun e=>e 7) (.seq (.region c2J) .ret) .skip)) (.seq (.seq (.region b6L) (.seq (.region c5b) (.cond (fun e=>e 15) (.seq (.region c2C) .ret) .skip))) (.seq (.region c1S) .ret)))),[.t 4]⟩
def e4z:Pers:=⟨6,[7,15],22,[]⟩
def b8e(e:b7):Reg:=xA (wB (e 0)) fun a=>xA (.makeFunc 162 [a] []) fun b=>xC (e.upd 11 b)
def c5k(e:b7):Reg:=xA (wN 126 (e 1)) fun a=>xA (wN 2 (e 2)) fun b=>xA (wH 9 [(.string ⟨#[]⟩)]) fun c=>xA (wH 4 [(.bool false)]) fun d=>xC ((((e.upd 4 a).upd 5 b).upd 6 c).upd 7 d)
def b7a(e:b7):Reg:=xA (wB (e 12)) fun a=>xC (e.upd 8 a)
def c1Y(e:b7):Reg:=xA (wH 250 [(.int .i64 0),(.int .i64 0),(.int .i64 0),(.int .i64 0)]) fun a=>xA (wF 4 a (e 13)) fun _=>xC (e.upd 9 a)
def b9T(e:b7):Reg:=xA (wA (some 4) (e 9)) fun a=>xA (wA (some 4) (e 4)) fun b=>xA (wA none (e 5)) fun c=>xA (wD 163 [a,b,c]) fun d=>xC (e.upd 17 d)
def c4M(e:b7):Reg:=xA (wB (e 8)) fun a=>xA (wF 1 (e 6) a) fun _=>xA (wF 1 (e 7) (.bool true)) fun _=>xC e
def c3U(e:b7):Reg:=xA (wF 1 (e 6) (.string ⟨#[]⟩)) fun _=>xA (wF 1 (e 7) (.bool false)) fun _=>xC e
def b6k:CC:=(.seq (.region b7a) (.region c1Y))
def a7j:CC:=(.block 1 (.seq (.region b9T) (.cond (fun e=>e 17) (.seq (.region c4M) .ret) .skip)))
def b5h:CC:=(.seq (.seq (.region c3U) .ret) .skip)
def c6F:=an (ro b8e.eq_1)<|an (ro c5k.eq_1)<|an (ro b7a.eq_1)<|an (ro c1Y.eq_1)<|an (ro b9T.eq_1)<|an (ro c4M.eq_1)<|ro c3U.eq_1
def b1F:CFn:=⟨(.rng (.seq (.region c5k) (.seq (.region b8e) .skip)) 0 (fun e=>(e 11)) [12,13] b6k a7j b5h),[.c 6 none,.c 7 none]⟩
def e4h:Pers:=⟨10,[11,12,13,17],19,[]⟩
def c3H(e:b7):Reg:=xA (wB (.bool false)) fun a=>xC (e.upd 2 a)
def a6n(e:b7)(a:Value)(h4:Heap)(b c:Value):Reg:=xB a false (wC 2 c) fun d=>xB a false (wA none d) fun f=>xE (some (a,false)) (some h4) (.load none d) f<|xB a false (wL f) fun g=>xB a false (wE .eql b g) fun i=>xA (wK a (.bool true) i) fun j=>xA (wB j) fun k=>xC (e.upd 2 k)
def b9y(e:b7):Reg:=xA (wB (e 0)) fun a=>xA (.eqK .ptr false a (.pointer none)) fun b=>xA (wB b) fun c=>xB c false (wB (e 0)) fun d=>xD fun h4=>xB c false (wD 49 [d]) fun f=>xB c false (wB (e 0)) fun g=>xB c false (wJ g) fun i=>a6n e c h4 f i
def e8F:=an (ro c3H.eq_1)<|an (ro4 a6n.eq_1)<|ro b9y.eq_1
def d9g:CFn:=⟨(.seq (.region c3H) (.seq (.region b9y) .ret)),[.t 2]⟩
def e6N:Pers:=⟨3,[],15,[]⟩
def b9J(e:b7):Reg:=xA (wH 250 [(.int .i64 0),(.int .i64 0),(.int .i64 0),(.int .i64 0)]) fun a=>xC (e.upd 4 a)
def c0V(e:b7):Reg:=xA (wB (e 0)) fun a=>xA (wB (e 0)) fun b=>xA (wB (e 1)) fun c=>xA (wM [(.int .i64 0),(.int .i64 0),(.int .i64 0),(.int .i64 0)] [(0,1,a),(1,1,b),(2,1,c)]) fun d=>xA (wF 4 (e 4) d) fun _=>xC e
def e9U:=an (ro b9J.eq_1)<|ro c0V.eq_1
def d9M:CFn:=⟨(.seq (.region b9J) (.seq (.region c0V) .ret)),[.c 4 (some 4)]⟩
def e3o:Pers:=⟨5,[],9,[]⟩
def c5B(e:b7):Reg:=xA (wB (.int .i64 0)) fun a=>xA (wB (.bool false)) fun b=>xC ((e.upd 4 a).upd 5 b)
def c0H(e:b7):Reg:=xA (wB (e 0)) fun a=>xA (wB (e 1)) fun b=>xA (wE .add a b) fun c=>xA (wB c) fun d=>xC (e.upd 6 d)
def b7D(e:b7):Reg:=xA (wB (e 6)) fun a=>xA (wB (e 6)) fun b=>xA (wB (e 0)) fun c=>xA (wE .gtr b c) fun d=>xA (wB (e 1)) fun f=>xA (wE .gtr f (.int .i64 0)) fun g=>xA (.eqK .bool false d g) fun i=>xA (wB a) fun j=>xA (wB i) fun k=>xC ((e.upd 4 j).upd 5 k)
def e9Z:=an (ro c5B.eq_1)<|an (ro c0H.eq_1)<|ro b7D.eq_1
def e0p:CFn:=⟨(.seq (.region c5B) (.seq (.region c0H) (.seq (.region b7D) .ret))),[.t 4,.t 5]⟩
def e7i:Pers:=⟨7,[],17,[]⟩
def c4B(e:b7):Reg:=xA (wB (.int .i64 0)) fun a=>xC (e.upd 2 a)
def c3i(e:b7):Reg:=xA (wB (e 0)) fun a=>xC (e.upd 3 a)
def c0b(e:b7):Reg:=xA (wB (.int .i64 (-9223372036854775808))) fun a=>xC (e.upd 2 a)
def b9q(e:b7):Reg:=xA (wB (.int .i64 9223372036854775807)) fun a=>xC (e.upd 2 a)
def f0v:=an (ro c4B.eq_1)<|an (ro c3i.eq_1)<|an (ro c0b.eq_1)<|ro b9q.eq_1
def e0c:CFn:=⟨(.seq (.region c4B) (.seq (.seq (.region c3i) (.cond (fun e=>e 3) (.seq (.region c0b) .ret) .skip)) (.seq (.region b9q) .ret))),[.t 2]⟩
def e3m:Pers:=⟨3,[3],4,[]⟩
def b7l(e:b7):Reg:=xA (wB (.int .i64 0)) fun a=>xC (e.upd 4 a)
def b6X(e:b7):Reg:=xA (wB (e 0)) fun a=>xA (.eqK .ptr false a (.pointer none)) fun b=>xC (e.upd 8 b)
def b8C(e:b7):Reg:=xA (wB (.int .i64 (-1))) fun a=>xC (e.upd 4 a)
def b7z(e:b7):Reg:=xA (wB (e 0)) fun a=>xA (wB (e 1)) fun b=>xA (wD 165 [a,b]) fun c=>xA (wB c) fun d=>xA (wG d 0) fun f=>xA (wG d 1) fun g=>xA (wB f) fun i=>xA (wB g) fun j=>xC ((e.upd 5 i).upd 6 j)
def c2w(e:b7):Reg:=xA (wB (e 6)) fun a=>xA (wB a) fun b=>xC (e.upd 4 b)
def e3g:=an (ro b7l.eq_1)<|an (ro b6X.eq_1)<|an (ro b8C.eq_1)<|an (ro b7z.eq_1)<|ro c2w.eq_1
def d7r:CFn:=⟨(.seq (.region b7l) (.seq (.seq (.region b6X) (.cond (fun e=>e 8) (.seq (.region b8C) .ret) .skip)) (.seq (.region b7z) (.seq (.region c2w) .ret)))),[.t 4]⟩
def e6h:Pers:=⟨7,[8],16,[]⟩
def c4h(e:b7):Reg:=xA (wB (.int .i64 0)) fun a=>xC (e.upd 2 a)
def c4m(e:b7):Reg:=xA (wB (e 0)) fun a=>xA (.eqK .ptr false a (.pointer none)) fun b=>xC (e.upd 4 b)
def c2d(e:b7):Reg:=xA (wB (.int .i64 0)) fun a=>xC (e.upd 2 a)
def c4i(e:b7):Reg:=xA (wB (e 0)) fun a=>xA (wJ a) fun b=>xA (wC 0 b) fun c=>xA (wA none c) fun d=>xA (wD 70 [d]) fun f=>xA (wB f) fun g=>xC (e.upd 2 g)
def e6U:=an (ro c4h.eq_1)<|an (ro c4m.eq_1)<|an (ro c2d.eq_1)<|ro c4i.eq_1
def c8t:CFn:=⟨(.seq (.region c4h) (.seq (.seq (.region c4m) (.cond (fun e=>e 4) (.seq (.region c2d) .ret) .skip)) (.seq (.region c4i) .ret))),[.t 2]⟩
def e6S:Pers:=⟨3,[4],10,[]⟩
def c3A(e:b7):Reg:=xA (wB (.int .i64 0)) fun a=>xC (e.upd 2 a)
def a6r(e:b7)(a b:Value):Reg:=xA (wE .sub b (.int .i64 1)) fun c=>xA (wI 1 a c) fun d=>xA (wA none d) fun f=>xA (wB f) fun g=>xC (e.upd 3 g)
def b9Z(e:b7):Reg:=xA (wB (e 0)) fun a=>xA (wJ a) fun b=>xA (wC 4 b) fun c=>xA (wA none c) fun d=>xA (wB (e 0)) fun f=>xD fun h5=>xA (wD 148 [f]) fun g=>xE none none (wA none c) d<|a6r e d g
def a6O(e:b7)(a:Value):Reg:=xA (wG a 0) fun b=>xA (wG a 1) fun c=>xA (wB b) fun d=>xA (wB c) fun f=>xC ((e.upd 4 d).upd 5 f)
def b8l(e:b7):Reg:=xA (wB (e 0)) fun a=>xA (wJ a) fun b=>xA (wC 0 b) fun c=>xA (wA none c) fun d=>xA (wB (e 3)) fun f=>xA (wO .i64 f) fun g=>xA (wD 166 [d,g]) fun i=>xA (wB i) fun j=>a6O e j
def c3b(e:b7):Reg:=xA (wB (e 0)) fun a=>xA (wJ a) fun b=>xA (wC 1 b) fun c=>xA (wA none c) fun d=>xA (wB (e 4)) fun f=>xA (wD 167 [d,f]) fun g=>xC e
def c0F(e:b7):Reg:=xA (wB (e 0)) fun a=>xA (wJ a) fun b=>xA (wC 2 b) fun c=>xA (wA none c) fun d=>xA (wB (e 3)) fun f=>xA (wI 1 d f) fun g=>xA (wA none g) fun i=>xA (wB i) fun j=>xC (e.upd 2 j)
def e6x:=an (ro c3A.eq_1)<|an (O5 a6r.eq_1)<|an (ro b9Z.eq_1)<|an (ro1 a6O.eq_1)<|an (ro b8l.eq_1)<|an (ro c3b.eq_1)<|ro c0F.eq_1
def d8C:CFn:=⟨(.seq (.region c3A) (.seq (.region b9Z) (.seq (.region b8l) (.seq (.region c3b) (.seq (.region c0F) .ret))))),[.t 2]⟩
def e7a:Pers:=⟨6,[],38,[]⟩
def c0A(e:b7):Reg:=xA (wB (.int .i64 0)) fun a=>xC (e.upd 4 a)
def c1e(e:b7):Reg:=xA (wB (e 0)) fun a=>xA (.eqK .ptr false a (.pointer none)) fun b=>xC (e.upd 8 b)
def b6O(e:b7):Reg:=xA (wB (.int .i64 (-1))) fun a=>xC (e.upd 4 a)
def c4r(e:b7):Reg:=xA (wB (e 0)) fun a=>xA (wB (e 1)) fun b=>xA (wD 165 [a,b]) fun c=>xA (wB c) fun d=>xA (wG d 0) fun f=>xA (wG d 1) fun g=>xA (wB f) fun i=>xA (wB g) fun j=>xC ((e.upd 5 i).upd 6 j)
def c3F(e:b7):Reg:=xA (wB (e 6)) fun a=>xA (wE .geq a (.int .i64 0)) fun b=>xC (e.upd 16 b)
def c4A(e:b7):Reg:=xA (wB (.int .i64 (-1))) fun a=>xC (e.upd 4 a)
def b9k(e:b7):Reg:=xA (wB (e 0)) fun a=>xA (wJ a) fun b=>xA (wC 0 b) fun c=>xA (wA none c) fun d=>xA (wB (e 1)) fun f=>xA (wD 168 [d,f]) fun g=>xA (wB g) fun i=>xC (e.upd 6 i)
def b9B(e:b7):Reg:=xA (wB (e 6)) fun a=>xA (wE .geq a (.int .i64 0)) fun b=>xC (e.upd 24 b)
def c2O(e:b7):Reg:=xA (wB (e 0)) fun a=>xA (wJ a) fun b=>xA (wC 4 b) fun c=>xA (wA none c) fun d=>xA (wB (e 5)) fun f=>xA (wB (e 6)) fun g=>xA (wO .i32 g) fun i=>xA (wE .add i (.int .i32 1)) fun j=>xA (wI 1 d f) fun k=>xA (wF 1 k j) fun _=>xC e
def c2S(e:b7):Reg:=xA (wB (e 6)) fun a=>xA (wB a) fun b=>xC (e.upd 4 b)
def e1Y:=an (ro c0A.eq_1)<|an (ro c1e.eq_1)<|an (ro b6O.eq_1)<|an (ro c4r.eq_1)<|an (ro c3F.eq_1)<|an (ro c4A.eq_1)<|an (ro b9k.eq_1)<|an (ro b9B.eq_1)<|an (ro c2O.eq_1)<|ro c2S.eq_1
def c5X:CFn:=⟨(.seq (.region c0A) (.seq (.seq (.region c1e) (.cond (fun e=>e 8) (.seq (.region b6O) .ret) .skip)) (.seq (.region c4r) (.seq (.seq (.region c3F) (.cond (fun e=>e 16) (.seq (.region c4A) .ret) .skip)) (.seq (.seq (.region b9k) (.seq (.region b9B) (.cond (fun e=>e 24) (.region c2O) .skip))) (.seq (.region c2S) .ret)))))),[.t 4]⟩
def e5o:Pers:=⟨7,[8,16,24],35,[]⟩
def c0L(e:b7):Reg:=xA (wB (e 0)) fun a=>xA (wJ a) fun b=>xA (wC 5 b) fun c=>xA (wA none c) fun d=>xA (wB (e 1)) fun f=>xA (wI 1 d f) fun g=>xA (wA none g) fun i=>xA (wO .i64 i) fun j=>xA (wB j) fun k=>xC (e.upd 4 k)
def a7P(e:b7)(a b:Value):Reg:=xB a true (wA none b) fun c=>xB a true (wB (e 0)) fun d=>xB a true (wJ d) fun f=>xB a true (wC 2 f) fun g=>xB a true (wA none g) fun i=>xB a true (wB (e 1)) fun j=>xB a true (wI 1 i j) fun k=>xB a true (wA none k) fun m=>xB a true (wE .lss c m) fun n=>xA (wK a n (.bool false)) fun o=>xC (e.upd 38 o)
def a5w(e:b7)(a b c:Value):Reg:=xB a true (wJ c) fun d=>xB a true (wC 4 d) fun f=>xB a true (wA none f) fun g=>xB a true (wB (e 4)) fun i=>xB a true (wE .sub i (.int .i64 1)) fun j=>xB a true (wI 1 g j) fun k=>xB a true (wA none k) fun m=>xB a true (wI 1 b m) fun n=>a7P e a n
def c5p(e:b7):Reg:=xA (wB (e 4)) fun a=>xA (wE .gtr a (.int .i64 0)) fun b=>xA (wB b) fun c=>xB c true (wB (e 0)) fun d=>xB c true (wJ d) fun f=>xB c true (wC 2 f) fun g=>xB c true (wA none g) fun i=>xB c true (wB (e 0)) fun j=>a5w e c i j
def a5u(e:b7)(a b c:Value):Reg:=xA (wA none c) fun d=>xA (wB (e 4)) fun f=>xA (wE .sub f (.int .i64 1)) fun g=>xA (wI 1 d g) fun i=>xA (wA none i) fun j=>xA (wI 1 a b) fun k=>xD fun h14=>xA (wF 1 k j) fun _=>xC e
def c5w(e:b7):Reg:=xA (wB (e 0)) fun a=>xA (wJ a) fun b=>xA (wC 4 b) fun c=>xA (wA none c) fun d=>xA (wB (e 4)) fun f=>xA (wB (e 0)) fun g=>xA (wJ g) fun i=>xA (wC 4 i) fun j=>a5u e d f j
def a6b(e:b7)(a b:Value):Reg:=xA (wB (e 4)) fun c=>xA (wI 1 b c) fun d=>xA (wA none d) fun f=>xA (wB (e 4)) fun g=>xA (wO .i32 g) fun i=>xA (wI 1 a f) fun j=>xD fun h14=>xA (wF 1 j i) fun _=>xC e
def c0J(e:b7):Reg:=xA (wB (e 0)) fun a=>xA (wJ a) fun b=>xA (wC 5 b) fun c=>xA (wA none c) fun d=>xA (wB (e 0)) fun f=>xA (wJ f) fun g=>xA (wC 4 g) fun i=>xA (wA none i) fun j=>a6b e d j
def c4R(e:b7):Reg:=xA (wB (e 4)) fun a=>xA (wE .sub a (.int .i64 1)) fun b=>xA (wB b) fun c=>xC (e.upd 4 c)
def a2q:CC:=(.seq (.seq (.region c5p) (.cond (fun e=>e 38) .skip (.exit 0))) (.seq (.block 1 (.seq (.region c5w) (.region c0J))) (.region c4R)))
def a5W(e:b7)(a b c d f:Value):Reg:=xA (wF 1 f c) fun _=>xA (wI 1 a b) fun g=>xD fun h17=>xA (wF 1 g d) fun _=>xC e
def a5Y(e:b7)(a b c:Value):Reg:=xA (wA none c) fun d=>xA (wB (e 1)) fun f=>xA (wB (e 1)) fun g=>xA (wO .i32 g) fun i=>xA (wB (e 4)) fun j=>xA (wO .i32 j) fun k=>xA (wI 1 a b) fun m=>xD fun h15=>a5W e d f i k m
def c5D(e:b7):Reg:=xA (wB (e 0)) fun a=>xA (wJ a) fun b=>xA (wC 4 b) fun c=>xA (wA none c) fun d=>xA (wB (e 4)) fun f=>xA (wB (e 0)) fun g=>xA (wJ g) fun i=>xA (wC 5 i) fun j=>a5Y e d f j
def d9K:=an (ro c0L.eq_1)<|an (O5 a7P.eq_1)<|an (W3 a5w.eq_1)<|an (ro c5p.eq_1)<|an (W3 a5u.eq_1)<|an (ro c5w.eq_1)<|an (O5 a6b.eq_1)<|an (ro c0J.eq_1)<|an (ro c4R.eq_1)<|an (ro5 a5W.eq_1)<|an (W3 a5Y.eq_1)<|ro c5D.eq_1
def b5K:CFn:=⟨(.seq (.region c0L) (.seq (.block 0 (.loop a2q)) (.region c5D))),[]⟩
def e4y:Pers:=⟨5,[38],85,[]⟩
def c5m(e:b7):Reg:=xA (wA none (e 2)) fun a=>xA (wJ a) fun b=>xA (wC 13 b) fun c=>xA (wA none c) fun d=>xA (.makeFunc 162 [d] []) fun f=>xC (e.upd 35 f)
def b6M(e:b7):Reg:=xA (wH 4 [(.bool false)]) fun a=>xA (wF 1 a (.bool false)) fun _=>xC (e.upd 11 a)
def c1f(e:b7):Reg:=xA (wB (e 6)) fun a=>xA (wB (e 7)) fun b=>xA (wE .sub a b) fun c=>xA (wH 9 [(.string ⟨#[]⟩)]) fun d=>xA (wH 2 [(.int .i64 0)]) fun f=>xA (wF 1 d (.string ⟨#[]⟩)) fun _=>xA (wF 1 f c) fun _=>xC ((e.upd 9 d).upd 10 f)
def c5A(e:b7):Reg:=xA (wB (e 8)) fun a=>xA (wP .not a) fun b=>xC (e.upd 27 b)
def c1M(e:b7):Reg:=xA (wB (.string ⟨#[]⟩)) fun a=>xA (wB (.bool false)) fun b=>xC ((e.upd 4 a).upd 5 b)
def a7w(e:b7)(a b:Value):Reg:=xA (wG a 1) fun c=>xA (wG a 2) fun d=>xA (wB b) fun f=>xA (wB c) fun g=>xA (wB d) fun i=>xC (((e.upd 6 f).upd 7 g).upd 8 i)
def c5z(e:b7):Reg:=xA (wA none (e 2)) fun a=>xA (wJ a) fun b=>xA (wC 15 b) fun c=>xA (wA none c) fun d=>xA (wB (e 1)) fun f=>xA (wD 169 [d,f]) fun g=>xA (wB g) fun i=>xA (wG i 0) fun j=>a7w e i j
def c1Z(e:b7):Reg:=xA (wN 94 (e 0)) fun a=>xA (wB (.string ⟨#[]⟩)) fun b=>xA (wB (.bool false)) fun c=>xC (((e.upd 2 a).upd 4 b).upd 5 c)
def c1b(e:b7):Reg:=xA (wB (e 36)) fun a=>xC (e.upd 12 a)
def a5b(e:b7)(a b:Value):Reg:=xA (wG a 1) fun c=>xA (wG a 2) fun d=>xA (wB b) fun f=>xA (wB c) fun g=>xA (wB d) fun i=>xC (((e.upd 13 f).upd 14 g).upd 15 i)
def c0N(e:b7):Reg:=xA (wA none (e 2)) fun a=>xA (wJ a) fun b=>xA (wC 15 b) fun c=>xA (wA none c) fun d=>xA (wB (e 12)) fun f=>xA (wD 169 [d,f]) fun g=>xA (wB g) fun i=>xA (wG i 0) fun j=>a5b e i j
def c4S(e:b7):Reg:=xA (wB (e 15)) fun a=>xA (wP .not a) fun b=>xC (e.upd 49 b)
def b4i(e:b7):Reg:=xA (wA none (e 2)) fun a=>xA (wJ a) fun b=>xA (wC 15 b) fun c=>xA (wA none c) fun d=>xA (wD 170 [d]) fun f=>xA (wB f) fun g=>xC (e.upd 13 g)
def b4F(e:b7):Reg:=xA (wB (e 13)) fun a=>xA (wA none (e 10)) fun b=>xA (wE .lss a b) fun c=>xC (e.upd 57 c)
def b2X(e:b7):Reg:=xA (wB (e 12)) fun a=>xA (wB (e 13)) fun b=>xA (wF 1 (e 9) a) fun _=>xA (wF 1 (e 10) b) fun _=>xA (wF 1 (e 11) (.bool true)) fun _=>xC e
def b2V(e:b7):Reg:=xA (wA none (e 9)) fun a=>xA (wA none (e 11)) fun b=>xA (wB a) fun c=>xA (wB b) fun d=>xC ((e.upd 4 c).upd 5 d)
def b5C:CC:=(.region c1b)
def a1G:CC:=(.block 1 (.seq (.region c0N) (.seq (.seq (.region c4S) (.cond (fun e=>e 49) (.region b4i) .skip)) (.seq (.region b4F) (.cond (fun e=>e 57) (.region b2X) .skip)))))
def b6w:CC:=(.seq (.seq (.region b2V) .ret) .skip)
def a8i:=an (ro c5m.eq_1)<|an (ro b6M.eq_1)<|an (ro c1f.eq_1)<|an (ro c5A.eq_1)<|an (ro c1M.eq_1)<|an (O5 a7w.eq_1)<|an (ro c5z.eq_1)<|an (ro c1Z.eq_1)<|an (ro c1b.eq_1)<|an (O5 a5b.eq_1)<|an (ro c0N.eq_1)<|an (ro c4S.eq_1)<|an (ro b4i.eq_1)<|an (ro b4F.eq_1)<|an (ro b2X.eq_1)<|ro b2V.eq_1
def a2E:CFn:=⟨(.rng (.seq (.region c1Z) (.seq (.region c5z) (.seq (.seq (.region c5A) (.cond (fun e=>e 27) (.seq (.region c1M) .ret) .skip)) (.seq (.region c1f) (.seq (.region b6M) (.seq (.region c5m) .skip)))))) 0 (fun e=>(e 35)) [36,37] b5C a1G b6w),[.t 4,.t 5]⟩
def e6X:Pers:=⟨16,[27,35,36,37,49,57],62,[]⟩
def c0Y(e:b7):Reg:=xA (wH 250 [(.int .i64 0),(.int .i64 0),(.int .i64 0),(.int .i64 0)]) fun a=>xA (wB (.bool false)) fun b=>xC ((e.upd 4 a).upd 5 b)
def b8P(e:b7):Reg:=xA (wB (e 0)) fun a=>xA (.eqK .ptr false a (.pointer none)) fun b=>xC (e.upd 8 b)
def c2n(e:b7):Reg:=xA (wM [(.int .i64 0),(.int .i64 0),(.int .i64 0),(.int .i64 0)] []) fun a=>xA (wF 4 (e 4) a) fun _=>xA (wB (.bool false)) fun b=>xC (e.upd 5 b)
def c0g(e:b7):Reg:=xA (wB (e 0)) fun a=>xA (wJ a) fun b=>xA (wC 1 b) fun c=>xA (wA none c) fun d=>xA (wB (e 1)) fun f=>xA (wD 167 [d,f]) fun g=>xA (wB g) fun i=>xC (e.upd 6 i)
def c1d(e:b7):Reg:=xA (wB (e 6)) fun a=>xA (wE .lss a (.int .i64 0)) fun b=>xC (e.upd 17 b)
def b9C(e:b7):Reg:=xA (wM [(.int .i64 0),(.int .i64 0),(.int .i64 0),(.int .i64 0)] []) fun a=>xA (wF 4 (e 4) a) fun _=>xA (wB (.bool false)) fun b=>xC (e.upd 5 b)
def c4e(e:b7):Reg:=xA (wB (e 0)) fun a=>xA (wJ a) fun b=>xA (wC 2 b) fun c=>xA (wA none c) fun d=>xA (wB (e 6)) fun f=>xA (wI 4 d f) fun g=>xA (wA (some 4) g) fun i=>xA (wF 4 (e 4) i) fun _=>xA (wB (.bool true)) fun j=>xC (e.upd 5 j)
def e4n:=an (ro c0Y.eq_1)<|an (ro b8P.eq_1)<|an (ro c2n.eq_1)<|an (ro c0g.eq_1)<|an (ro c1d.eq_1)<|an (ro b9C.eq_1)<|ro c4e.eq_1
def d7q:CFn:=⟨(.seq (.region c0Y) (.seq (.seq (.region b8P) (.cond (fun e=>e 8) (.seq (.region c2n) .ret) .skip)) (.seq (.region c0g) (.seq (.seq (.region c1d) (.cond (fun e=>e 17) (.seq (.region b9C) .ret) .skip)) (.seq (.region c4e) .ret))))),[.c 4 (some 4),.t 5]⟩
def e6F:Pers:=⟨7,[8,17],26,[]⟩
def b9M(e:b7):Reg:=xA (wN 250 (e 0)) fun a=>xA (wN 126 (e 1)) fun b=>xA (wB (.int .i64 0)) fun c=>xC (((e.upd 3 a).upd 4 b).upd 6 c)
def c5E(e:b7):Reg:=xA (wA (some 4) (e 3)) fun a=>xA (wA (some 4) (e 4)) fun b=>xA (wB (e 2)) fun c=>xA (wD 156 [a,b,c]) fun d=>xC (e.upd 10 d)
def c3h(e:b7):Reg:=xA (wC 3 (e 3)) fun a=>xA (wA none a) fun b=>xA (wC 3 (e 4)) fun c=>xA (wA none c) fun d=>xA (.minmax false [b,d]) fun f=>xA (wB f) fun g=>xC (e.upd 6 g)
def a6d(e:b7)(a b:Value):Reg:=xA (wA none b) fun c=>xA (wE .quo a c) fun d=>xA (.minmax true [d,(.int .i64 0)]) fun f=>xA (wC 3 (e 4)) fun g=>xA (wA none g) fun i=>xA (.minmax false [f,i]) fun j=>xA (wB j) fun k=>xC (e.upd 6 k)
def c0p(e:b7):Reg:=xA (wC 0 (e 3)) fun a=>xA (wA none a) fun b=>xA (wB (e 2)) fun c=>xA (wC 1 (e 4)) fun d=>xA (wA none d) fun f=>xA (wE .sub c f) fun g=>xA (wE .sub b g) fun i=>xA (wC 0 (e 4)) fun j=>a6d e i j
def e2j:=an (ro b9M.eq_1)<|an (ro c5E.eq_1)<|an (ro c3h.eq_1)<|an (O5 a6d.eq_1)<|ro c0p.eq_1
def c7t:CFn:=⟨(.seq (.region b9M) (.seq (.seq (.region c5E) (.cond (fun e=>e 10) (.seq (.region c3h) .ret) .skip)) (.seq (.region c0p) .ret))),[.t 6]⟩
def e4T:Pers:=⟨7,[10],30,[]⟩
def b8B(e:b7):Reg:=xA (wN 250 (e 2)) fun a=>xA (wB (.pointer none)) fun b=>xC ((e.upd 5 a).upd 6 b)
def c0M(e:b7):Reg:=xA (wB (e 0)) fun a=>xA (.eqK .ptr false a (.pointer none)) fun b=>xC (e.upd 9 b)
def b8G(e:b7):Reg:=xA (wB (.pointer none)) fun a=>xC (e.upd 6 a)
def b7g(e:b7):Reg:=xA (wB (e 0)) fun a=>xA (wJ a) fun b=>xA (wC 1 b) fun c=>xA (wA none c) fun d=>xA (wB (e 1)) fun f=>xA (wD 150 [d,f]) fun g=>xA (wB g) fun i=>xC (e.upd 7 i)
def c1D(e:b7):Reg:=xA (wB (e 7)) fun a=>xA (wE .lss a (.int .i64 0)) fun b=>xC (e.upd 17 b)
def b8L(e:b7):Reg:=xA (wB (.pointer none)) fun a=>xC (e.upd 6 a)
def c4T(e:b7):Reg:=xA (wB (e 0)) fun a=>xA (wJ a) fun b=>xA (wC 2 b) fun c=>xA (wA none c) fun d=>xA (wB (e 7)) fun f=>xA (wA (some 4) (e 5)) fun g=>xA (wI 4 d f) fun i=>xD fun h7=>xA (wF 4 i g) fun _=>xC e
def c4f(e:b7):Reg:=xA (wB (e 0)) fun a=>xA (wJ a) fun b=>xA (wC 2 b) fun c=>xA (wA none c) fun d=>xA (wB (e 7)) fun f=>xA (wI 4 d f) fun g=>xA (wB g) fun i=>xC (e.upd 6 i)
def e2Z:=an (ro b8B.eq_1)<|an (ro c0M.eq_1)<|an (ro b8G.eq_1)<|an (ro b7g.eq_1)<|an (ro c1D.eq_1)<|an (ro b8L.eq_1)<|an (ro c4T.eq_1)<|ro c4f.eq_1
def d4W:CFn:=⟨(.seq (.region b8B) (.seq (.seq (.region c0M) (.cond (fun e=>e 9) (.seq (.region b8G) .ret) .skip)) (.seq (.region b7g) (.seq (.seq (.region c1D) (.cond (fun e=>e 17) (.seq (.region b8L) .ret) .skip)) (.seq (.region c4T) (.seq (.region c4f) .ret)))))),[.t 6]⟩
def e4Z:Pers:=⟨8,[9,17],31,[]⟩
def c0n(e:b7):Reg:=xA (wN 250 (e 0)) fun a=>xA (wN 126 (e 1)) fun b=>xA (wB (.bool false)) fun c=>xC (((e.upd 3 a).upd 4 b).upd 6 c)
def b7p(e:b7):Reg:=xA (wB (e 2)) fun a=>xA (wC 1 (e 3)) fun b=>xA (wA none b) fun c=>xA (wC 1 (e 4)) fun d=>xA (wA none d) fun f=>xA (wD 126 [c,f]) fun g=>xA (wE .lss a g) fun i=>xA (wB i) fun j=>xC (e.upd 6 j)
def e8S:=an (ro c0n.eq_1)<|ro b7p.eq_1
def d9D:CFn:=⟨(.seq (.region c0n) (.seq (.region b7p) .ret)),[.t 6]⟩
def e5b:Pers:=⟨7,[],14,[]⟩
def c4Z(e:b7):Reg:=xA (wB (.int .i64 0)) fun a=>xC (e.upd 8 a)
def b6N(e:b7):Reg:=xA (wB (.int .i64 0)) fun a=>xC (e.upd 9 a)
def c0Z(e:b7):Reg:=xA (wB (e 2)) fun a=>xA (wB (e 0)) fun b=>xA (wJ b) fun c=>xA (wC 0 c) fun d=>xA (wA none d) fun f=>xA (wL f) fun g=>xA (wE .sub a g) fun i=>xA (wE .add i (.int .i64 1)) fun j=>xA (wB j) fun k=>xC (e.upd 10 k)
def c3N(e:b7):Reg:=xA (wB (e 10)) fun a=>xA (wB (e 2)) fun b=>xA (wE .leq a b) fun c=>xC (e.upd 22 c)
def c5c(e:b7):Reg:=xA (wB (e 0)) fun a=>xA (wB (e 10)) fun b=>xA (wD 171 [a,b]) fun c=>xA (wB (e 1)) fun d=>xA (wD 172 [c,d]) fun f=>xA (wB f) fun g=>xC (e.upd 11 g)
def b7q(e:b7):Reg:=xA (wB (e 10)) fun a=>xA (wB (e 2)) fun b=>xA (wB (e 0)) fun c=>xA (wJ c) fun d=>xA (wC 0 d) fun f=>xA (wA none f) fun g=>xA (wL g) fun i=>xA (wE .sub b i) fun j=>xA (wE .add j (.int .i64 1)) fun k=>xA (wE .eql a k) fun m=>xC (e.upd 39 m)
def b7X(e:b7):Reg:=xA (wB (e 0)) fun a=>xA (wB (e 11)) fun b=>xA (wB (e 3)) fun c=>xA (wD 173 [a,b,c]) fun d=>xA (wB d) fun f=>xC (e.upd 11 f)
def b9n(e:b7):Reg:=xA (wB (e 9)) fun a=>xA (wB (e 11)) fun b=>xA (wD 126 [a,b]) fun c=>xA (wB c) fun d=>xC (e.upd 9 d)
def c3o(e:b7):Reg:=xA (wB (e 10)) fun a=>xA (wE .add a (.int .i64 1)) fun b=>xA (wB b) fun c=>xC (e.upd 10 c)
def a4x:CC:=(.seq (.seq (.region c3N) (.cond (fun e=>e 22) .skip (.exit 0))) (.seq (.block 1 (.seq (.region c5c) (.seq (.seq (.region b7q) (.cond (fun e=>e 39) (.region b7X) .skip)) (.region b9n)))) (.region c3o)))
def c2c(e:b7):Reg:=xA (wB (e 9)) fun a=>xA (wB a) fun b=>xC (e.upd 8 b)
def d9a:=an (ro c4Z.eq_1)<|an (ro b6N.eq_1)<|an (ro c0Z.eq_1)<|an (ro c3N.eq_1)<|an (ro c5c.eq_1)<|an (ro b7q.eq_1)<|an (ro b7X.eq_1)<|an (ro b9n.eq_1)<|an (ro c3o.eq_1)<|ro c2c.eq_1
def b2v:CFn:=⟨(.seq (.region c4Z) (.seq (.region b6N) (.seq (.seq (.region c0Z) (.block 0 (.loop a4x))) (.seq (.region c2c) .ret)))),[.t 8]⟩
def e5j:Pers:=⟨12,[22,39],48,[]⟩
def b8Z(e:b7):Reg:=xA (wB (.int .i64 0)) fun a=>xC (e.upd 4 a)
def c4V(e:b7):Reg:=xA (wB (e 0)) fun a=>xA (.eqK .ptr false a (.pointer none)) fun b=>xC (e.upd 6 b)
def c1K(e:b7):Reg:=xA (wB (.int .i64 0)) fun a=>xC (e.upd 4 a)
def c3Z(e:b7):Reg:=xA (wB (e 1)) fun a=>xA (wB (e 0)) fun b=>xA (wJ b) fun c=>xA (wC 2 c) fun d=>xA (wA none d) fun f=>xA (wE .quo a f) fun g=>xA (wB g) fun i=>xC (e.upd 4 i)
def f0D:=an (ro b8Z.eq_1)<|an (ro c4V.eq_1)<|an (ro c1K.eq_1)<|ro c3Z.eq_1
def d9o:CFn:=⟨(.seq (.region b8Z) (.seq (.seq (.region c4V) (.cond (fun e=>e 6) (.seq (.region c1K) .ret) .skip)) (.seq (.region c3Z) .ret))),[.t 4]⟩
def e3F:Pers:=⟨5,[6],13,[]⟩
def c3X(e:b7):Reg:=xA (wB (e 0)) fun a=>xA (.eqK .ptr true a (.pointer none)) fun b=>xC (e.upd 3 b)
def b8Q(e:b7):Reg:=xA (wB (e 0)) fun a=>xA (wJ a) fun b=>xA (wC 2 b) fun c=>xA (wA none c) fun d=>xA (.clearSl [(.int .i64 0)] d) fun _=>xC e
def f0p:=an (ro c3X.eq_1)<|ro b8Q.eq_1
def d9i:CFn:=⟨(.seq (.region c3X) (.cond (fun e=>e 3) (.region b8Q) .skip)),[]⟩
def e3W:Pers:=⟨2,[3],8,[]⟩
def c1H(e:b7):Reg:=xA (wB (e 0)) fun a=>xA (.eqK .ptr false a (.pointer none)) fun b=>xA (wB b) fun c=>xB c false (wB (e 2)) fun d=>xB c false (wE .lss d (.int .i64 1)) fun f=>xA (wK c (.bool true) f) fun g=>xC (e.upd 14 g)
def c1z(e:b7):Reg:=xA (wB (e 0)) fun a=>xA (wB (e 1)) fun b=>xA (wD 172 [a,b]) fun c=>xA (wB (e 2)) fun d=>xA (wD 126 [c,d]) fun f=>xA (wB f) fun g=>xC (e.upd 6 g)
def c0s(e:b7):Reg:=xA (wB (e 0)) fun a=>xA (wJ a) fun b=>xA (wC 0 b) fun c=>xA (wA none c) fun d=>xA (wL d) fun f=>xA (wB (.int .i64 0)) fun g=>xC ((e.upd 24 f).upd 25 g)
def c2T(e:b7):Reg:=xA (wE .lss (e 25) (e 24)) fun a=>xC (e.upd 26 a)
def b9P(e:b7):Reg:=xA (wB (e 25)) fun a=>xA (wB a) fun b=>xC (e.upd 7 b)
def c0u(e:b7):Reg:=xA (wB (e 0)) fun a=>xA (wB (e 7)) fun b=>xA (wB (e 1)) fun c=>xA (wD 174 [a,b,c]) fun d=>xA (wB d) fun f=>xC (e.upd 8 f)
def c4s(e:b7):Reg:=xA (wB (e 8)) fun a=>xA (wB (e 8)) fun b=>xA (wJ b) fun c=>xA (wA none c) fun d=>xA (wB (e 6)) fun f=>xA (.minmax true [d,f]) fun g=>xA (wJ a) fun i=>xA (wF 1 i g) fun _=>xC e
def c4d(e:b7):Reg:=xA (wE .add (e 25) (.int .i64 1)) fun a=>xA (wB a) fun b=>xC (e.upd 25 b)
def a4F:CC:=(.seq (.region c2T) (.seq (.cond (fun e=>e 26) .skip (.exit 0)) (.seq (.block 1 (.seq (.region b9P) (.seq (.region c0u) (.region c4s)))) (.region c4d))))
def c6r:=an (ro c1H.eq_1)<|an (ro c1z.eq_1)<|an (ro c0s.eq_1)<|an (ro c2T.eq_1)<|an (ro b9P.eq_1)<|an (ro c0u.eq_1)<|an (ro c4s.eq_1)<|ro c4d.eq_1
def b1n:CFn:=⟨(.seq (.seq (.region c1H) (.cond (fun e=>e 14) .ret .skip)) (.seq (.region c1z) (.seq (.region c0s) (.block 0 (.loop a4F))))),[]⟩
def e5M:Pers:=⟨9,[14,24,25,26],40,[]⟩
def c2r(e:b7):Reg:=xA (wB (.int .i64 0)) fun a=>xC (e.upd 4 a)
def c5P(e:b7):Reg:=xA (wB (e 0)) fun a=>xA (wB (e 1)) fun b=>xA (wD 72 [a,b]) fun c=>xA (wB c) fun d=>xA (wG d 0) fun f=>xA (wG d 1) fun g=>xA (wB f) fun i=>xA (wB g) fun j=>xC ((e.upd 5 i).upd 6 j)
def c0v(e:b7):Reg:=xA (wB (e 6)) fun a=>xA (wP .not a) fun b=>xC (e.upd 14 b)
def b6G(e:b7):Reg:=xA (wB (e 0)) fun a=>xA (wE .lss a (.int .i64 0)) fun b=>xA (wB (e 1)) fun c=>xA (wE .lss c (.int .i64 0)) fun d=>xA (.eqK .bool true b d) fun f=>xA (wD 145 [f]) fun g=>xA (wB g) fun i=>xC (e.upd 4 i)
def b9L(e:b7):Reg:=xA (wB (e 5)) fun a=>xA (wB a) fun b=>xC (e.upd 4 b)
def e8h:=an (ro c2r.eq_1)<|an (ro c5P.eq_1)<|an (ro c0v.eq_1)<|an (ro b6G.eq_1)<|ro b9L.eq_1
def e0z:CFn:=⟨(.seq (.region c2r) (.seq (.region c5P) (.seq (.seq (.region c0v) (.cond (fun e=>e 14) (.seq (.region b6G) .ret) .skip)) (.seq (.region b9L) .ret)))),[.t 4]⟩
def e5z:Pers:=⟨7,[14],22,[]⟩
def b7C(e:b7):Reg:=xA (wB (e 0)) fun a=>xA (.eqK .ptr false a (.pointer none)) fun b=>xC (e.upd 9 b)
def c3g(e:b7):Reg:=xA (wB (e 0)) fun a=>xA (wJ a) fun b=>xA (wC 2 b) fun c=>xA (wA none c) fun d=>xA (wL d) fun f=>xA (wB (.int .i64 0)) fun g=>xC (((e.upd 13 d).upd 14 f).upd 15 g)
def b8z(e:b7):Reg:=xA (wE .lss (e 15) (e 14)) fun a=>xC (e.upd 16 a)
def c3z(e:b7):Reg:=xA (wB (e 15)) fun a=>xA (wI 4 (e 13) (e 15)) fun b=>xA (wA (some 4) b) fun c=>xA (wH 250 [(.int .i64 0),(.int .i64 0),(.int .i64 0),(.int .i64 0)]) fun d=>xA (wB a) fun f=>xA (wF 4 d c) fun _=>xC ((e.upd 5 d).upd 4 f)
def a5P(e:b7)(a b:Value):Reg:=xA (wG a 1) fun c=>xA (wB b) fun d=>xA (wB c) fun f=>xC ((e.upd 6 d).upd 7 f)
def c5T(e:b7):Reg:=xA (wB (e 0)) fun a=>xA (wJ a) fun b=>xA (wC 0 b) fun c=>xA (wA none c) fun d=>xA (wB (e 4)) fun f=>xA (wD 166 [d,f]) fun g=>xA (wB g) fun i=>xA (wG i 0) fun j=>a5P e i j
def c4j(e:b7):Reg:=xA (wB (e 7)) fun a=>xA (wB a) fun b=>xB b true (wB (e 1)) fun c=>xB b true (wB (e 6)) fun d=>xB b true (wA (some 4) (e 5)) fun f=>xB b true (.callv c [d,f]) fun g=>xB b true (wP .not g) fun i=>xA (wK b i (.bool false)) fun j=>xC (e.upd 36 j)
def b9c(e:b7):Reg:=xA (wE .add (e 15) (.int .i64 1)) fun a=>xA (wB a) fun b=>xC (e.upd 15 b)
def a0j:CC:=(.seq (.region b8z) (.seq (.cond (fun e=>e 16) .skip (.exit 0)) (.seq (.block 1 (.seq (.region c3z) (.seq (.region c5T) (.seq (.region c4j) (.cond (fun e=>e 36) .ret .skip))))) (.region b9c))))
def c7e:=an (ro b7C.eq_1)<|an (ro c3g.eq_1)<|an (ro b8z.eq_1)<|an (ro c3z.eq_1)<|an (O5 a5P.eq_1)<|an (ro c5T.eq_1)<|an (ro c4j.eq_1)<|ro b9c.eq_1
def b0Y:CFn:=⟨(.seq (.seq (.region b7C) (.cond (fun e=>e 9) .ret .skip)) (.seq (.region c3g) (.block 0 (.loop a0j)))),[]⟩
def e6R:Pers:=⟨8,[9,13,14,15,16,36],38,[]⟩
def c4X(e:b7):Reg:=xA (wN 250 (e 0)) fun a=>xA (wN 126 (e 1)) fun b=>xA (wB (.bool false)) fun c=>xC (((e.upd 3 a).upd 4 b).upd 6 c)
def a6m(e:b7)(a b:Value):Reg:=xB a true (wB (e 2)) fun c=>xB a true (wC 1 (e 4)) fun d=>xB a true (wA none d) fun f=>xB a true (wE .sub c f) fun g=>xB a true (wE .leq b g) fun i=>xA (wK a i (.bool false)) fun j=>xA (wB j) fun k=>xC (e.upd 6 k)
def b8A(e:b7):Reg:=xA (wA (some 4) (e 3)) fun a=>xA (wA (some 4) (e 4)) fun b=>xA (wB (e 2)) fun c=>xA (wD 156 [a,b,c]) fun d=>xA (wP .not d) fun f=>xA (wB f) fun g=>xB g true (wC 0 (e 3)) fun i=>xB g true (wA none i) fun j=>a6m e g j
def d9C:=an (ro c4X.eq_1)<|an (O5 a6m.eq_1)<|ro b8A.eq_1
def c163:CFn:=⟨(.seq (.region c4X) (.seq (.region b8A) .ret)),[.t 6]⟩
def e4J:Pers:=⟨7,[],21,[]⟩
def b9t(e:b7):Reg:=xA (wB (.int .i64 0)) fun a=>xA (wB (.int .i64 0)) fun b=>xC ((e.upd 4 a).upd 5 b)
def b8t(e:b7):Reg:=xA (wB (e 0)) fun a=>xA (wB (e 1)) fun b=>xA (wD 175 [a,b]) fun c=>xA (wB c) fun d=>xC (e.upd 6 d)
def b8R(e:b7):Reg:=xA (wB (e 0)) fun a=>xA (wJ a) fun b=>xA (wC 4 b) fun c=>xA (wA none c) fun d=>xA (wB (e 6)) fun f=>xA (wI 1 d f) fun g=>xA (wA none g) fun i=>xA (wO .i64 i) fun j=>xA (wE .sub j (.int .i64 1)) fun k=>xA (wB k) fun m=>xC (e.upd 7 m)
def a7f(e:b7)(a b c:Value):Reg:=xB a false (wB (e 1)) fun d=>xB a false (wD 176 [b,c,d]) fun f=>xA (wK a (.bool true) f) fun g=>xC (e.upd 38 g)
def b6W(e:b7):Reg:=xA (wB (e 7)) fun a=>xA (wE .lss a (.int .i64 0)) fun b=>xA (wB b) fun c=>xB c false (wB (e 0)) fun d=>xB c false (wJ d) fun f=>xB c false (wC 0 f) fun g=>xB c false (wA none g) fun i=>xB c false (wB (e 7)) fun j=>a7f e c i j
def c5G(e:b7):Reg:=xA (wB (e 6)) fun a=>xA (wB (e 7)) fun b=>xA (wB a) fun c=>xA (wB b) fun d=>xC ((e.upd 4 c).upd 5 d)
def b8i(e:b7):Reg:=xA (wB (e 6)) fun a=>xA (wE .add a (.int .i64 1)) fun b=>xA (wB (e 0)) fun c=>xA (wJ c) fun d=>xA (wC 4 d) fun f=>xA (wA none f) fun g=>xA (wL g) fun i=>xA (wE .rem b i) fun j=>xA (wB j) fun k=>xC (e.upd 6 k)
def a2a:CC:=(.seq (.block 1 (.seq (.region b8R) (.seq (.region b6W) (.cond (fun e=>e 38) (.seq (.region c5G) .ret) .skip)))) (.region b8i))
def d0s:=an (ro b9t.eq_1)<|an (ro b8t.eq_1)<|an (ro b8R.eq_1)<|an (W3 a7f.eq_1)<|an (ro b6W.eq_1)<|an (ro c5G.eq_1)<|ro b8i.eq_1
def b3e:CFn:=⟨(.seq (.region b9t) (.seq (.region b8t) (.block 0 (.loop a2a)))),[.t 4,.t 5]⟩
def e3h:Pers:=⟨8,[38],41,[]⟩
def b7Q(e:b7):Reg:=xA (wB (.string ⟨#[]⟩)) fun a=>xA (wB (.bool false)) fun b=>xC ((e.upd 4 a).upd 5 b)
def b9Y(e:b7):Reg:=xA (wB (e 0)) fun a=>xA (wB (e 1)) fun b=>xA (wD 177 [a,b]) fun c=>xA (wP .not c) fun d=>xC (e.upd 9 d)
def c2v(e:b7):Reg:=xA (wB (.string ⟨#[]⟩)) fun a=>xA (wB (.bool false)) fun b=>xC ((e.upd 4 a).upd 5 b)
def a7B(e:b7)(a b c d:Value):Reg:=xA (wE .add c d) fun f=>xA (.slice 5 1 a (some b) (some f)) fun g=>xA (.toStr g) fun i=>xA (wB i) fun j=>xA (wB (.bool true)) fun k=>xC ((e.upd 4 j).upd 5 k)
def a6M(e:b7)(a b c:Value):Reg:=xA (wB (e 0)) fun d=>xA (wJ d) fun f=>xA (wC 1 f) fun g=>xA (wA none g) fun i=>xA (wB (e 1)) fun j=>xA (wI 1 i j) fun k=>xA (wA none k) fun m=>xA (wO .i64 m) fun n=>a7B e a b c n
def b7W(e:b7):Reg:=xA (wB (e 0)) fun a=>xA (wJ a) fun b=>xA (wC 0 b) fun c=>xA (wA none c) fun d=>xA (wB (e 1)) fun f=>xA (wE .mul f (.int .i64 64)) fun g=>xA (wB (e 1)) fun i=>xA (wE .mul i (.int .i64 64)) fun j=>a6M e d g j
def e2U:=an (ro b7Q.eq_1)<|an (ro b9Y.eq_1)<|an (ro c2v.eq_1)<|an (ro4 a7B.eq_1)<|an (W3 a6M.eq_1)<|ro b7W.eq_1
def d6b:CFn:=⟨(.seq (.region b7Q) (.seq (.seq (.region b9Y) (.cond (fun e=>e 9) (.seq (.region c2v) .ret) .skip)) (.seq (.region b7W) .ret))),[.t 4,.t 5]⟩
def e6b:Pers:=⟨6,[9],29,[]⟩
def c1F(e:b7):Reg:=xA (wB (.int .i64 0)) fun a=>xC (e.upd 4 a)
def b7h(e:b7):Reg:=xA (wB (e 0)) fun a=>xA (.eqK .ptr false a (.pointer none)) fun b=>xC (e.upd 13 b)
def c1w(e:b7):Reg:=xA (wB (.int .i64 (-1))) fun a=>xC (e.upd 4 a)
def b7P(e:b7):Reg:=xA (wB (e 0)) fun a=>xA (wB (e 1)) fun b=>xA (wD 165 [a,b]) fun c=>xA (wB c) fun d=>xA (wG d 0) fun f=>xA (wG d 1) fun g=>xA (wB f) fun i=>xA (wB g) fun j=>xC ((e.upd 5 i).upd 6 j)
def c3l(e:b7):Reg:=xA (wB (e 6)) fun a=>xA (wE .lss a (.int .i64 0)) fun b=>xC (e.upd 21 b)
def b9g(e:b7):Reg:=xA (wB (.int .i64 (-1))) fun a=>xC (e.upd 4 a)
def c1c(e:b7):Reg:=xA (wB (e 0)) fun a=>xA (wJ a) fun b=>xA (wC 4 b) fun c=>xA (wA none c) fun d=>xA (wL d) fun f=>xA (wB f) fun g=>xC (e.upd 7 g)
def b6E(e:b7):Reg:=xA (wB (e 0)) fun a=>xA (wJ a) fun b=>xA (wC 0 b) fun c=>xA (wA none c) fun d=>xA (wB (e 6)) fun f=>xA (wD 178 [d,f]) fun g=>xC e
def b6Y(e:b7):Reg:=xA (wB (e 0)) fun a=>xA (wJ a) fun b=>xA (wC 4 b) fun c=>xA (wA none c) fun d=>xA (wB (e 5)) fun f=>xA (wI 1 d f) fun g=>xA (wF 1 g (.int .i32 0)) fun _=>xC e
def c3T(e:b7):Reg:=xA (wB (e 5)) fun a=>xA (wE .add a (.int .i64 1)) fun b=>xA (wB (e 7)) fun c=>xA (wE .rem b c) fun d=>xA (wB d) fun f=>xC (e.upd 8 f)
def b5a(e:b7):Reg:=xA (wB (e 0)) fun a=>xA (wJ a) fun b=>xA (wC 4 b) fun c=>xA (wA none c) fun d=>xA (wB (e 8)) fun f=>xA (wI 1 d f) fun g=>xA (wA none g) fun i=>xA (wE .gtr i (.int .i32 0)) fun j=>xC (e.upd 50 j)
def a3N(e:b7)(a:Value):Reg:=xA (wG a 0) fun b=>xA (wG a 1) fun c=>xA (wB b) fun d=>xA (wB c) fun f=>xC ((e.upd 9 d).upd 10 f)
def a3G(e:b7)(a b:Value):Reg:=xA (wB (e 8)) fun c=>xA (wI 1 b c) fun d=>xA (wA none d) fun f=>xA (wO .i64 f) fun g=>xA (wE .sub g (.int .i64 1)) fun i=>xD fun h13=>xA (wD 166 [a,i]) fun j=>xA (wB j) fun k=>a3N e k
def b4m(e:b7):Reg:=xA (wB (e 0)) fun a=>xA (wJ a) fun b=>xA (wC 0 b) fun c=>xA (wA none c) fun d=>xA (wB (e 0)) fun f=>xA (wJ f) fun g=>xA (wC 4 g) fun i=>xA (wA none i) fun j=>a3G e d j
def b4N(e:b7):Reg:=xA (wB (e 0)) fun a=>xA (wB (e 9)) fun b=>xA (wD 175 [a,b]) fun c=>xA (wB c) fun d=>xC (e.upd 11 d)
def a3M(e:b7)(a b:Value):Reg:=xA (wB (e 5)) fun c=>xA (wE .sub b c) fun d=>xA (wB (e 7)) fun f=>xA (wE .add d f) fun g=>xA (wB (e 7)) fun i=>xA (wE .rem g i) fun j=>xA (wE .lss a j) fun k=>xC (e.upd 89 k)
def b3S(e:b7):Reg:=xA (wB (e 8)) fun a=>xA (wB (e 11)) fun b=>xA (wE .sub a b) fun c=>xA (wB (e 7)) fun d=>xA (wE .add c d) fun f=>xA (wB (e 7)) fun g=>xA (wE .rem f g) fun i=>xA (wB (e 8)) fun j=>a3M e i j
def a3u(e:b7)(a b c d f:Value):Reg:=xA (wA none f) fun g=>xA (wI 1 a b) fun i=>xD fun h18=>xA (wF 1 i g) fun _=>xA (wI 1 c d) fun j=>xD fun h20=>xA (wF 1 j (.int .i32 0)) fun _=>xC e
def a3X(e:b7)(a b c:Value):Reg:=xA (wA none c) fun d=>xA (wB (e 8)) fun f=>xA (wB (e 0)) fun g=>xA (wJ g) fun i=>xA (wC 4 i) fun j=>xA (wA none j) fun k=>xA (wB (e 8)) fun m=>xA (wI 1 k m) fun n=>a3u e a b d f n
def b2I(e:b7):Reg:=xA (wB (e 0)) fun a=>xA (wJ a) fun b=>xA (wC 4 b) fun c=>xA (wA none c) fun d=>xA (wB (e 5)) fun f=>xA (wB (e 0)) fun g=>xA (wJ g) fun i=>xA (wC 4 i) fun j=>a3X e d f j
def b3H(e:b7):Reg:=xA (wB (e 8)) fun a=>xA (wB a) fun b=>xC (e.upd 5 b)
def b3c(e:b7):Reg:=xA (wB (e 8)) fun a=>xA (wE .add a (.int .i64 1)) fun b=>xA (wB (e 7)) fun c=>xA (wE .rem b c) fun d=>xA (wB d) fun f=>xC (e.upd 8 f)
def a1h:CC:=(.seq (.seq (.region b5a) (.cond (fun e=>e 50) .skip (.exit 0))) (.seq (.block 1 (.seq (.region b4m) (.seq (.region b4N) (.seq (.seq (.region b3S) (.cond (fun e=>e 89) (.exit 1) .skip)) (.seq (.region b2I) (.region b3H)))))) (.region b3c)))
def b3A(e:b7):Reg:=xA (wB (e 6)) fun a=>xA (wB a) fun b=>xC (e.upd 4 b)
def b5Y:=an (ro c1F.eq_1)<|an (ro b7h.eq_1)<|an (ro c1w.eq_1)<|an (ro b7P.eq_1)<|an (ro c3l.eq_1)<|an (ro b9g.eq_1)<|an (ro c1c.eq_1)<|an (ro b6E.eq_1)<|an (ro b6Y.eq_1)<|an (ro c3T.eq_1)<|an (ro b5a.eq_1)<|an (ro1 a3N.eq_1)<|an (O5 a3G.eq_1)<|an (ro b4m.eq_1)<|an (ro b4N.eq_1)<|an (O5 a3M.eq_1)<|an (ro b3S.eq_1)<|an (ro5 a3u.eq_1)<|an (W3 a3X.eq_1)<|an (ro b2I.eq_1)<|an (ro b3H.eq_1)<|an (ro b3c.eq_1)<|ro b3A.eq_1
def a8b:CFn:=⟨(.seq (.region c1F) (.seq (.seq (.region b7h) (.cond (fun e=>e 13) (.seq (.region c1w) .ret) .skip)) (.seq (.region b7P) (.seq (.seq (.region c3l) (.cond (fun e=>e 21) (.seq (.region b9g) .ret) .skip)) (.seq (.region c1c) (.seq (.region b6E) (.seq (.region b6Y) (.seq .skip (.seq (.seq (.region c3T) (.block 0 (.loop a1h))) (.seq (.region b3A) .ret)))))))))),[.t 4]⟩
def e5w:Pers:=⟨12,[13,21,50,89],111,[]⟩
def b7y(e:b7):Reg:=xA (wB (.int .i64 0)) fun a=>xC (e.upd 4 a)
def a7v(e:b7)(a b:Value):Reg:=xA (wK a (.bool true) b) fun c=>xA (wB c) fun d=>xB d false (wB (e 1)) fun f=>xB d false (.lenStr f) fun g=>xB d false (wE .gtr g (.int .i64 64)) fun i=>xA (wK d (.bool true) i) fun j=>xC (e.upd 19 j)
def c5F(e:b7):Reg:=xA (wB (e 0)) fun a=>xA (.eqK .ptr false a (.pointer none)) fun b=>xA (wB b) fun c=>xB c false (wB (e 0)) fun d=>xB c false (wJ d) fun f=>xB c false (wC 3 f) fun g=>xB c false (wA none g) fun i=>xB c false (wE .lss i (.int .i32 0)) fun j=>a7v e c j
def c3r(e:b7):Reg:=xA (wB (.int .i64 (-1))) fun a=>xC (e.upd 4 a)
def b9d(e:b7):Reg:=xA (wB (e 0)) fun a=>xA (wJ a) fun b=>xA (wC 3 b) fun c=>xA (wA none c) fun d=>xA (wO .i64 d) fun f=>xA (wB f) fun g=>xC (e.upd 5 g)
def a6S(e:b7)(a b:Value):Reg:=xA (wJ a) fun c=>xA (wC 3 c) fun d=>xA (wF 1 d b) fun _=>xC e
def c4c(e:b7):Reg:=xA (wB (e 0)) fun a=>xA (wB (e 0)) fun b=>xA (wJ b) fun c=>xA (wC 2 c) fun d=>xA (wA none d) fun f=>xA (wB (e 5)) fun g=>xA (wI 1 f g) fun i=>xA (wA none i) fun j=>a6S e a j
def c5I(e:b7):Reg:=xA (wB (e 0)) fun a=>xA (wJ a) fun b=>xA (wC 0 b) fun c=>xA (wA none c) fun d=>xA (wB (e 5)) fun f=>xA (wE .mul f (.int .i64 64)) fun g=>xA (.slice 5 1 d (some g) none) fun i=>xA (wB (e 1)) fun j=>xA (.copy 1 i j) fun k=>xC e
def b8m(e:b7):Reg:=xA (wB (e 0)) fun a=>xA (wJ a) fun b=>xA (wC 1 b) fun c=>xA (wA none c) fun d=>xA (wB (e 5)) fun f=>xA (wB (e 1)) fun g=>xA (.lenStr g) fun i=>xA (wO .i8 i) fun j=>xA (wI 1 d f) fun k=>xA (wF 1 k j) fun _=>xC e
def c4n(e:b7):Reg:=xA (wB (e 0)) fun a=>xA (wJ a) fun b=>xA (wC 4 b) fun c=>xA (wA none c) fun d=>xA (wE .add d (.int .i64 1)) fun f=>xA (wJ a) fun g=>xA (wC 4 g) fun i=>xA (wF 1 i f) fun _=>xC e
def b9K(e:b7):Reg:=xA (wB (e 5)) fun a=>xA (wB a) fun b=>xC (e.upd 4 b)
def e9f:=an (ro b7y.eq_1)<|an (O5 a7v.eq_1)<|an (ro c5F.eq_1)<|an (ro c3r.eq_1)<|an (ro b9d.eq_1)<|an (O5 a6S.eq_1)<|an (ro c4c.eq_1)<|an (ro c5I.eq_1)<|an (ro b8m.eq_1)<|an (ro c4n.eq_1)<|ro b9K.eq_1
def d9l:CFn:=⟨(.seq (.region b7y) (.seq (.seq (.region c5F) (.cond (fun e=>e 19) (.seq (.region c3r) .ret) .skip)) (.seq (.region b9d) (.seq (.region c4c) (.seq (.region c5I) (.seq (.region b8m) (.seq (.region c4n) (.seq (.region b9K) .ret)))))))),[.t 4]⟩
def e3y:Pers:=⟨6,[19],61,[]⟩
def c3w(e:b7):Reg:=xA (wB (.int .i64 0)) fun a=>xA (wB (.int .i64 0)) fun b=>xA (wB (.bool false)) fun c=>xC (((e.upd 4 a).upd 5 b).upd 6 c)
def b8I(e:b7):Reg:=xA (wB (e 0)) fun a=>xA (.eqK .ptr false a (.pointer none)) fun b=>xC (e.upd 9 b)
def b7S(e:b7):Reg:=xA (wB (.int .i64 0)) fun a=>xA (wB (.int .i64 0)) fun b=>xA (wB (.bool false)) fun c=>xC (((e.upd 4 a).upd 5 b).upd 6 c)
def c0k(e:b7):Reg:=xA (wB (e 0)) fun a=>xA (wJ a) fun b=>xA (wC 1 b) fun c=>xA (wA none c) fun d=>xA (wB (e 1)) fun f=>xA (wD 147 [d,f]) fun g=>xA (wB g) fun i=>xC (e.upd 7 i)
def c4l(e:b7):Reg:=xA (wB (e 7)) fun a=>xA (wE .lss a (.int .i64 0)) fun b=>xC (e.upd 17 b)
def c3t(e:b7):Reg:=xA (wB (.int .i64 0)) fun a=>xA (wB (.int .i64 0)) fun b=>xA (wB (.bool false)) fun c=>xC (((e.upd 4 a).upd 5 b).upd 6 c)
def a7u(e:b7)(a b:Value):Reg:=xA (wJ b) fun c=>xA (wC 3 c) fun d=>xA (wA none d) fun f=>xA (wB (e 7)) fun g=>xA (wI 1 f g) fun i=>xA (wA none i) fun j=>xA (wB a) fun k=>xA (wB j) fun m=>xA (wB (.bool true)) fun n=>xC (((e.upd 4 k).upd 5 m).upd 6 n)
def c2g(e:b7):Reg:=xA (wB (e 0)) fun a=>xA (wJ a) fun b=>xA (wC 2 b) fun c=>xA (wA none c) fun d=>xA (wB (e 7)) fun f=>xA (wI 1 d f) fun g=>xA (wA none g) fun i=>xA (wB (e 0)) fun j=>a7u e i j
def e1V:=an (ro c3w.eq_1)<|an (ro b8I.eq_1)<|an (ro b7S.eq_1)<|an (ro c0k.eq_1)<|an (ro c4l.eq_1)<|an (ro c3t.eq_1)<|an (O5 a7u.eq_1)<|ro c2g.eq_1
def c6o:CFn:=⟨(.seq (.region c3w) (.seq (.seq (.region b8I) (.cond (fun e=>e 9) (.seq (.region b7S) .ret) .skip)) (.seq (.region c0k) (.seq (.seq (.region c4l) (.cond (fun e=>e 17) (.seq (.region c3t) .ret) .skip)) (.seq (.region c2g) .ret))))),[.t 4,.t 5,.t 6]⟩
def e3v:Pers:=⟨8,[9,17],32,[]⟩
def c2i(e:b7):Reg:=xA (wB (.int .i64 0)) fun a=>xC (e.upd 2 a)
def a6l(e:b7)(a:Value)(h4:Heap)(b c:Value):Reg:=xB a false (wC 2 c) fun d=>xB a false (wA none d) fun f=>xE (some (a,false)) (some h4) (.load none d) f<|xB a false (wL f) fun g=>xB a false (wE .lss b g) fun i=>xA (wK a (.bool true) i) fun j=>xC (e.upd 14 j)
def c2G(e:b7):Reg:=xA (wB (e 0)) fun a=>xA (.eqK .ptr false a (.pointer none)) fun b=>xA (wB b) fun c=>xB c false (wB (e 0)) fun d=>xD fun h4=>xB c false (wD 148 [d]) fun f=>xB c false (wB (e 0)) fun g=>xB c false (wJ g) fun i=>a6l e c h4 f i
def b7A(e:b7):Reg:=xA (wB (.int .i64 0)) fun a=>xC (e.upd 2 a)
def a6P(e:b7)(a b:Value):Reg:=xA (wI 1 a b) fun c=>xA (wA none c) fun d=>xA (wB d) fun f=>xC (e.upd 2 f)
def a4J(e:b7)(a b:Value):Reg:=xA (wB (e 0)) fun c=>xA (wJ c) fun d=>xA (wC 2 d) fun f=>xA (wA none f) fun g=>xA (wL g) fun i=>xA (wE .sub i (.int .i64 1)) fun j=>xA (wI 1 b j) fun k=>xA (wA none k) fun m=>a6P e a m
def c2k(e:b7):Reg:=xA (wB (e 0)) fun a=>xA (wJ a) fun b=>xA (wC 2 b) fun c=>xA (wA none c) fun d=>xA (wB (e 0)) fun f=>xA (wJ f) fun g=>xA (wC 4 g) fun i=>xA (wA none i) fun j=>a4J e d j
def e6s:=an (ro c2i.eq_1)<|an (ro4 a6l.eq_1)<|an (ro c2G.eq_1)<|an (ro b7A.eq_1)<|an (O5 a6P.eq_1)<|an (O5 a4J.eq_1)<|ro c2k.eq_1
def d7B:CFn:=⟨(.seq (.region c2i) (.seq (.seq (.region c2G) (.cond (fun e=>e 14) (.seq (.region b7A) .ret) .skip)) (.seq (.region c2k) .ret))),[.t 2]⟩
def e3S:Pers:=⟨3,[14],33,[]⟩
def b8x(e:b7):Reg:=xA (wB (.pointer none)) fun a=>xC (e.upd 4 a)
def c3K(e:b7):Reg:=xA (wB (e 1)) fun a=>xA (wE .lss a (.int .i64 0)) fun b=>xC (e.upd 7 b)
def c4E(e:b7):Reg:=xA (wB (.pointer none)) fun a=>xC (e.upd 4 a)
def c4p(e:b7):Reg:=xA (wB (e 1)) fun a=>xA (wB (e 0)) fun b=>xA (wJ b) fun c=>xA (wC 0 c) fun d=>xA (wA none d) fun f=>xA (wL f) fun g=>xA (wE .rem a g) fun i=>xA (wB i) fun j=>xC (e.upd 5 j)
def c5v(e:b7):Reg:=xA (wB (e 0)) fun a=>xA (wJ a) fun b=>xA (wC 1 b) fun c=>xA (wA none c) fun d=>xA (wB (e 5)) fun f=>xA (wI 1 d f) fun g=>xA (wA none g) fun i=>xA (wB (e 1)) fun j=>xA (wE .add j (.int .i64 1)) fun k=>xA (wE .neq i k) fun m=>xC (e.upd 24 m)
def c4o(e:b7):Reg:=xA (wB (.pointer none)) fun a=>xC (e.upd 4 a)
def c1t(e:b7):Reg:=xA (wB (e 0)) fun a=>xA (wJ a) fun b=>xA (wC 0 b) fun c=>xA (wA none c) fun d=>xA (wB (e 5)) fun f=>xA (wI 1 d f) fun g=>xA (wA none g) fun i=>xA (wB i) fun j=>xC (e.upd 4 j)
def e2I:=an (ro b8x.eq_1)<|an (ro c3K.eq_1)<|an (ro c4E.eq_1)<|an (ro c4p.eq_1)<|an (ro c5v.eq_1)<|an (ro c4o.eq_1)<|ro c1t.eq_1
def c6a:CFn:=⟨(.seq (.region b8x) (.seq (.seq (.region c3K) (.cond (fun e=>e 7) (.seq (.region c4E) .ret) .skip)) (.seq (.region c4p) (.seq (.seq (.region c5v) (.cond (fun e=>e 24) (.seq (.region c4o) .ret) .skip)) (.seq (.region c1t) .ret))))),[.t 4]⟩
def e5n:Pers:=⟨6,[7,24],32,[]⟩
def b7B(e:b7):Reg:=xA (wB (.int .i64 0)) fun a=>xC (e.upd 4 a)
def c4u(e:b7):Reg:=xA (wB (e 0)) fun a=>xA (.eqK .ptr false a (.pointer none)) fun b=>xC (e.upd 8 b)
def b8w(e:b7):Reg:=xA (wB (.int .i64 0)) fun a=>xC (e.upd 4 a)
def c0R(e:b7):Reg:=xA (wB (e 0)) fun a=>xA (wB (e 1)) fun b=>xA (wD 174 [a,(.int .i64 0),b]) fun c=>xA (wJ c) fun d=>xA (wA none d) fun f=>xA (wB f) fun g=>xC (e.upd 5 g)
def c1T(e:b7):Reg:=xA (wB (.int .i64 1)) fun a=>xC (e.upd 6 a)
def c4Y(e:b7):Reg:=xA (wB (e 6)) fun a=>xA (wB (e 0)) fun b=>xA (wJ b) fun c=>xA (wC 0 c) fun d=>xA (wA none d) fun f=>xA (wL f) fun g=>xA (wE .lss a g) fun i=>xC (e.upd 20 i)
def b8k(e:b7):Reg:=xA (wB (e 5)) fun a=>xA (wB (e 0)) fun b=>xA (wB (e 6)) fun c=>xA (wB (e 1)) fun d=>xA (wD 174 [b,c,d]) fun f=>xA (wJ f) fun g=>xA (wA none g) fun i=>xA (.minmax false [a,i]) fun j=>xA (wB j) fun k=>xC (e.upd 5 k)
def c0r(e:b7):Reg:=xA (wB (e 6)) fun a=>xA (wE .add a (.int .i64 1)) fun b=>xA (wB b) fun c=>xC (e.upd 6 c)
def a4D:CC:=(.seq (.seq (.region c4Y) (.cond (fun e=>e 20) .skip (.exit 0))) (.seq (.block 1 (.region b8k)) (.region c0r)))
def b6Z(e:b7):Reg:=xA (wB (e 5)) fun a=>xA (wB a) fun b=>xC (e.upd 4 b)
def c7G:=an (ro b7B.eq_1)<|an (ro c4u.eq_1)<|an (ro b8w.eq_1)<|an (ro c0R.eq_1)<|an (ro c1T.eq_1)<|an (ro c4Y.eq_1)<|an (ro b8k.eq_1)<|an (ro c0r.eq_1)<|ro b6Z.eq_1
def b1u:CFn:=⟨(.seq (.region b7B) (.seq (.seq (.region c4u) (.cond (fun e=>e 8) (.seq (.region b8w) .ret) .skip)) (.seq (.region c0R) (.seq (.seq (.region c1T) (.block 0 (.loop a4D))) (.seq (.region b6Z) .ret))))),[.t 4]⟩
def e4F:Pers:=⟨7,[8,20],32,[]⟩
def c3q(e:b7):Reg:=xA (wB (.int .i64 0)) fun a=>xC (e.upd 6 a)
def b8y(e:b7):Reg:=xA (wB (e 0)) fun a=>xA (wJ a) fun b=>xA (wC 5 b) fun c=>xA (wA none c) fun d=>xA (wP .not d) fun f=>xC (e.upd 13 f)
def b8X(e:b7):Reg:=xA (wB (e 1)) fun a=>xA (wB a) fun b=>xC (e.upd 6 b)
def a7o(e:b7)(a:Value):Reg:=xA (wB a) fun b=>xA (wG b 0) fun c=>xA (wG b 1) fun d=>xA (wB c) fun f=>xA (wB d) fun g=>xC ((e.upd 7 f).upd 8 g)
def a6W(e:b7)(a b:Value):Reg:=xA (wO .u64 b) fun c=>xA (wB (e 0)) fun d=>xA (wJ d) fun f=>xA (wC 2 f) fun g=>xA (wA none g) fun i=>xA (wO .u64 i) fun j=>xD fun h14=>xA (wD 179 [a,c,j]) fun k=>a7o e k
def c3E(e:b7):Reg:=xA (wB (e 1)) fun a=>xA (wO .u64 a) fun b=>xA (wB (e 0)) fun c=>xA (wJ c) fun d=>xA (wC 2 d) fun f=>xA (wA none f) fun g=>xA (wB (e 2)) fun i=>xA (wE .sub g i) fun j=>a6W e b j
def b9e(e:b7):Reg:=xA (wB (e 7)) fun a=>xA (wO .i64 a) fun b=>xA (wB b) fun c=>xC (e.upd 6 c)
def e5T:=an (ro c3q.eq_1)<|an (ro b8y.eq_1)<|an (ro b8X.eq_1)<|an (ro1 a7o.eq_1)<|an (O5 a6W.eq_1)<|an (ro c3E.eq_1)<|ro b9e.eq_1
def d2O:CFn:=⟨(.seq (.region c3q) (.seq (.seq (.region b8y) (.cond (fun e=>e 13) (.seq (.region b8X) .ret) .skip)) (.seq (.region c3E) (.seq (.region b9e) .ret)))),[.t 6]⟩
def e3Y:Pers:=⟨9,[13],35,[]⟩
def c3B(e:b7):Reg:=xA (wB (.pointer none)) fun a=>xC (e.upd 6 a)
def a7F(e:b7)(a b c d f g:Value):Reg:=xE none none (wA none c) d<|xE none none (wA none a) b<|xA (wE .add f g) fun i=>xA (wI 1 b i) fun j=>xA (wB j) fun k=>xC (e.upd 6 k)
def a5j(e:b7)(a b c d f g:Value):Reg:=xA (wA (some 3) g) fun i=>xA (wB (e 2)) fun j=>xA (wB (e 0)) fun k=>xA (wJ k) fun m=>xA (wC 1 m) fun n=>xA (wA none n) fun o=>xD fun h22=>xA (wD 180 [i,j,o]) fun p=>a7F e a b c d f p
def a7y(e:b7)(a b c d:Value):Reg:=xA (wA none d) fun f=>xA (wE .mul c f) fun g=>xA (wB (e 0)) fun i=>xA (wJ i) fun j=>xA (wC 0 j) fun k=>xA (wA none k) fun m=>xA (wB (e 1)) fun n=>xA (wI 3 m n) fun o=>a5j e a b d f g o
def b7E(e:b7):Reg:=xA (wB (e 0)) fun a=>xA (wJ a) fun b=>xA (wC 2 b) fun c=>xA (wA none c) fun d=>xA (wB (e 1)) fun f=>xA (wB (e 0)) fun g=>xA (wJ g) fun i=>xA (wC 1 i) fun j=>a7y e c d f j
def e8v:=an (ro c3B.eq_1)<|an (ro6 a7F.eq_1)<|an (ro6 a5j.eq_1)<|an (ro4 a7y.eq_1)<|ro b7E.eq_1
def e0l:CFn:=⟨(.seq (.region c3B) (.seq (.region b7E) .ret)),[.t 6]⟩
def e4e:Pers:=⟨7,[],32,[]⟩
def b9i(e:b7):Reg:=xA (wB (.int .i64 0)) fun a=>xC (e.upd 4 a)
def a7k(e:b7)(a b c:Value):Reg:=xA (wA none c) fun d=>xA (wL d) fun f=>xD fun h10=>xA (wD 180 [a,b,f]) fun g=>xA (wB g) fun i=>xC (e.upd 4 i)
def c5n(e:b7):Reg:=xA (wB (e 0)) fun a=>xA (wJ a) fun b=>xA (wC 1 b) fun c=>xA (wA (some 3) c) fun d=>xA (wB (e 1)) fun f=>xA (wB (e 0)) fun g=>xA (wJ g) fun i=>xA (wC 4 i) fun j=>a7k e d f j
def f0M:=an (ro b9i.eq_1)<|an (W3 a7k.eq_1)<|ro c5n.eq_1
def e0w:CFn:=⟨(.seq (.region b9i) (.seq (.region c5n) .ret)),[.t 4]⟩
def e4E:Pers:=⟨5,[],16,[]⟩
def c1X(e:b7):Reg:=xA (wB (.bool false)) fun a=>xC (e.upd 6 a)
def a6f(e:b7)(a b:Value):Reg:=xB a true (wB (e 2)) fun c=>xB a true (wE .eql b c) fun d=>xA (wK a d (.bool false)) fun f=>xA (wB f) fun g=>xC (e.upd 6 g)
def a6x(e:b7)(a b c d f:Value):Reg:=xB a true (wA none f) fun g=>xB a true (wB (e 1)) fun i=>xB a true (wI 1 g i) fun j=>xB a true (wA none j) fun k=>xB a true (wO .i64 k) fun m=>xB a true (wE .add d m) fun n=>xB a true (.slice 5 1 b (some c) (some n)) fun o=>xB a true (.toStr o) fun p=>a6f e a p
def a6j(e:b7)(a b:Value):Reg:=xB a true (wA none b) fun c=>xB a true (wB (e 1)) fun d=>xB a true (wE .mul d (.int .i64 64)) fun f=>xB a true (wB (e 1)) fun g=>xB a true (wE .mul g (.int .i64 64)) fun i=>xB a true (wB (e 0)) fun j=>xB a true (wJ j) fun k=>xB a true (wC 1 k) fun m=>a6x e a c f i m
def c0E(e:b7):Reg:=xA (wB (e 0)) fun a=>xA (wB (e 1)) fun b=>xD fun h2=>xA (wD 177 [a,b]) fun c=>xA (wB c) fun d=>xB d true (wB (e 0)) fun f=>xB d true (wJ f) fun g=>xB d true (wC 0 g) fun i=>a6j e d i
def f0K:=an (ro c1X.eq_1)<|an (O5 a6f.eq_1)<|an (ro5 a6x.eq_1)<|an (O5 a6j.eq_1)<|ro c0E.eq_1
def e0I:CFn:=⟨(.seq (.region c1X) (.seq (.region c0E) .ret)),[.t 6]⟩
def e5f:Pers:=⟨7,[],33,[]⟩
def c2H(e:b7):Reg:=xA (wB (.bool false)) fun a=>xC (e.upd 4 a)
def a6v(e:b7)(a b:Value):Reg:=xB a true (wE .geq b (.int .i8 0)) fun c=>xA (wK a c (.bool false)) fun d=>xA (wB d) fun f=>xC (e.upd 4 f)
def a7z(e:b7)(a:Value):Reg:=xA (wB a) fun b=>xB b true (wB (e 0)) fun c=>xB b true (wJ c) fun d=>xB b true (wC 1 d) fun f=>xB b true (wA none f) fun g=>xB b true (wB (e 1)) fun i=>xB b true (wI 1 g i) fun j=>xB b true (wA none j) fun k=>a6v e b k
def b9p(e:b7):Reg:=xA (wB (e 1)) fun a=>xA (wE .geq a (.int .i64 0)) fun b=>xA (wB b) fun c=>xB c true (wB (e 1)) fun d=>xB c true (wB (e 0)) fun f=>xB c true (wD 100 [f]) fun g=>xB c true (wE .lss d g) fun i=>xA (wK c i (.bool false)) fun j=>a7z e j
def e1X:=an (ro c2H.eq_1)<|an (O5 a6v.eq_1)<|an (ro1 a7z.eq_1)<|ro b9p.eq_1
def c6c:CFn:=⟨(.seq (.region c2H) (.seq (.region b9p) .ret)),[.t 4]⟩
def e7m:Pers:=⟨5,[],23,[]⟩
def c4k(e:b7):Reg:=xA (wB (e 0)) fun a=>xA (wB (e 1)) fun b=>xA (wD 177 [a,b]) fun c=>xC (e.upd 6 c)
def a5r(e:b7)(a b c d:Value):Reg:=xA (wF 1 d (.int .i8 (-1))) fun _=>xA (wI 1 a b) fun f=>xD fun h17=>xA (wF 1 f c) fun _=>xC e
def a4N(e:b7)(a b c:Value):Reg:=xA (wA none c) fun d=>xA (wB (e 1)) fun f=>xA (wB (e 0)) fun g=>xA (wJ g) fun i=>xA (wC 3 i) fun j=>xA (wA none j) fun k=>xA (wI 1 a b) fun m=>xD fun h15=>a5r e d f k m
def b7U(e:b7):Reg:=xA (wB (e 0)) fun a=>xA (wJ a) fun b=>xA (wC 1 b) fun c=>xA (wA none c) fun d=>xA (wB (e 1)) fun f=>xA (wB (e 0)) fun g=>xA (wJ g) fun i=>xA (wC 2 i) fun j=>a4N e d f j
def b7M(e:b7):Reg:=xA (wB (e 0)) fun a=>xA (wB (e 1)) fun b=>xA (wO .i32 b) fun c=>xA (wJ a) fun d=>xA (wC 3 d) fun f=>xA (wF 1 f c) fun _=>xC e
def c4O(e:b7):Reg:=xA (wB (e 0)) fun a=>xA (wJ a) fun b=>xA (wC 4 b) fun c=>xA (wA none c) fun d=>xA (wE .sub d (.int .i64 1)) fun f=>xA (wJ a) fun g=>xA (wC 4 g) fun i=>xA (wF 1 i f) fun _=>xC e
def e7W:=an (ro c4k.eq_1)<|an (ro4 a5r.eq_1)<|an (W3 a4N.eq_1)<|an (ro b7U.eq_1)<|an (ro b7M.eq_1)<|ro c4O.eq_1
def d9k:CFn:=⟨(.seq (.region c4k) (.cond (fun e=>e 6) (.seq (.region b7U) (.seq (.region b7M) (.region c4O))) .skip)),[]⟩
def e4j:Pers:=⟨4,[6],35,[]⟩
def c4K(e:b7):Reg:=xA (wB (.int .u64 0)) fun a=>xA (wB (.bool false)) fun b=>xC ((e.upd 6 a).upd 7 b)
def a7s(e:b7)(a b c:Value):Reg:=xA (wB a) fun d=>xA (wB b) fun f=>xA (wB c) fun g=>xC (((e.upd 8 d).upd 9 f).upd 10 g)
def c0T(e:b7):Reg:=xA (wB (e 0)) fun a=>xA (wB (e 1)) fun b=>xA (wB (e 2)) fun c=>xA (wD 181 [a,b,c]) fun d=>xA (wB d) fun f=>xA (wG f 0) fun g=>xA (wG f 1) fun i=>xA (wG f 2) fun j=>a7s e g i j
def b7s(e:b7):Reg:=xA (wB (e 10)) fun a=>xA (wP .not a) fun b=>xA (wB b) fun c=>xB c false (wB (e 9)) fun d=>xB c false (wE .gtr d (.int .u64 0)) fun f=>xB c false (wB f) fun g=>xB g true (wB (e 8)) fun i=>xB g true (wE .eql i (.int .u64 18446744073709551615)) fun j=>xB c false (wK g j (.bool false)) fun k=>xA (wK c (.bool true) k) fun m=>xC (e.upd 28 m)
def c1i(e:b7):Reg:=xA (wB (.int .u64 0)) fun a=>xA (wB (.bool false)) fun b=>xC ((e.upd 6 a).upd 7 b)
def b8f(e:b7):Reg:=xA (wB (e 9)) fun a=>xA (wE .gtr a (.int .u64 0)) fun b=>xC (e.upd 30 b)
def c4H(e:b7):Reg:=xA (wB (e 8)) fun a=>xA (wE .add a (.int .u64 1)) fun b=>xA (wB b) fun c=>xC (e.upd 8 c)
def c1U(e:b7):Reg:=xA (wB (e 8)) fun a=>xA (wB a) fun b=>xA (wB (.bool true)) fun c=>xC ((e.upd 6 b).upd 7 c)
def e5R:=an (ro c4K.eq_1)<|an (W3 a7s.eq_1)<|an (ro c0T.eq_1)<|an (ro b7s.eq_1)<|an (ro c1i.eq_1)<|an (ro b8f.eq_1)<|an (ro c4H.eq_1)<|ro c1U.eq_1
def c9M:CFn:=⟨(.seq (.region c4K) (.seq (.region c0T) (.seq (.seq (.region b7s) (.cond (fun e=>e 28) (.seq (.region c1i) .ret) .skip)) (.seq (.seq (.region b8f) (.cond (fun e=>e 30) (.region c4H) .skip)) (.seq (.region c1U) .ret))))),[.t 6,.t 7]⟩
def e6a:Pers:=⟨11,[28,30],34,[]⟩
def c1v(e:b7):Reg:=xA (wN 182 (e 0)) fun a=>xA (wB (.int .i64 0)) fun b=>xC ((e.upd 3 a).upd 6 b)
def c0c(e:b7):Reg:=xA (wA (some 3) (e 3)) fun a=>xA (wB (e 1)) fun b=>xA (wD 183 [a,b]) fun c=>xA (wB (e 2)) fun d=>xA (wD 182 [c,d]) fun f=>xA (wB f) fun g=>xC (e.upd 6 g)
def e9w:=an (ro c1v.eq_1)<|ro c0c.eq_1
def e0e:CFn:=⟨(.seq (.region c1v) (.seq (.region c0c) .ret)),[.t 6]⟩
def e5O:Pers:=⟨7,[],12,[]⟩
def b7f(e:b7):Reg:=xA (wB (.int .u64 0)) fun a=>xA (wB (.int .u64 0)) fun b=>xA (wB (.bool false)) fun c=>xC (((e.upd 6 a).upd 7 b).upd 8 c)
def c1I(e:b7):Reg:=xA (wB (e 0)) fun a=>xA (wB (e 1)) fun b=>xA (wD 85 [a,b]) fun c=>xA (wB c) fun d=>xA (wG d 0) fun f=>xA (wG d 1) fun g=>xA (wB f) fun i=>xA (wB g) fun j=>xC ((e.upd 9 i).upd 10 j)
def b8o(e:b7):Reg:=xA (wB (e 2)) fun a=>xA (wE .eql a (.int .u64 0)) fun b=>xA (wB b) fun c=>xB c false (wB (e 9)) fun d=>xB c false (wB (e 2)) fun f=>xB c false (wE .geq d f) fun g=>xA (wK c (.bool true) g) fun i=>xC (e.upd 25 i)
def b7w(e:b7):Reg:=xA (wB (.int .u64 0)) fun a=>xA (wB (.int .u64 0)) fun b=>xA (wB (.bool false)) fun c=>xC (((e.upd 6 a).upd 7 b).upd 8 c)
def c5R(e:b7):Reg:=xA (wB (e 9)) fun a=>xA (wB (e 10)) fun b=>xA (wB (e 2)) fun c=>xA (wD 184 [a,b,c]) fun d=>xA (wB d) fun f=>xA (wG f 0) fun g=>xA (wG f 1) fun i=>xA (wB g) fun j=>xA (wB i) fun k=>xC ((e.upd 11 j).upd 12 k)
def c3n(e:b7):Reg:=xA (wB (e 11)) fun a=>xA (wB (e 12)) fun b=>xA (wB a) fun c=>xA (wB b) fun d=>xA (wB (.bool true)) fun f=>xC (((e.upd 6 c).upd 7 d).upd 8 f)
def e8q:=an (ro b7f.eq_1)<|an (ro c1I.eq_1)<|an (ro b8o.eq_1)<|an (ro b7w.eq_1)<|an (ro c5R.eq_1)<|ro c3n.eq_1
def d9Z:CFn:=⟨(.seq (.region b7f) (.seq (.region c1I) (.seq (.seq (.region b8o) (.cond (fun e=>e 25) (.seq (.region b7w) .ret) .skip)) (.seq (.region c5R) (.seq (.region c3n) .ret))))),[.t 6,.t 7,.t 8]⟩
def e5r:Pers:=⟨13,[25],35,[]⟩
def c1a(e:b7):Reg:=xA (wB (.int .i64 0)) fun a=>xC (e.upd 4 a)
def c3s(e:b7):Reg:=xA (wB (e 1)) fun a=>xA (wE .lss a (.int .i64 1)) fun b=>xC (e.upd 8 b)
def c1R(e:b7):Reg:=xA (wB (.int .i64 0)) fun a=>xC (e.upd 4 a)
def b8p(e:b7):Reg:=xA (wB (e 0)) fun a=>xA (wB (e 1)) fun b=>xA (wO .u64 b) fun c=>xA (wD 185 [a,c,(.int .u64 2305843009213693951)]) fun d=>xA (wB d) fun f=>xA (wG f 0) fun g=>xA (wG f 1) fun i=>xA (wB g) fun j=>xA (wB i) fun k=>xC ((e.upd 5 j).upd 6 k)
def c4a(e:b7):Reg:=xA (wB (e 5)) fun a=>xA (wO .i64 a) fun b=>xA (wB b) fun c=>xC (e.upd 4 c)
def e7A:=an (ro c1a.eq_1)<|an (ro c3s.eq_1)<|an (ro c1R.eq_1)<|an (ro b8p.eq_1)<|ro c4a.eq_1
def d9Y:CFn:=⟨(.seq (.region c1a) (.seq (.seq (.region c3s) (.cond (fun e=>e 8) (.seq (.region c1R) .ret) .skip)) (.seq (.region b8p) (.seq (.region c4a) .ret)))),[.t 4]⟩
def e3b:Pers:=⟨7,[8],18,[]⟩
def c0m(e:b7):Reg:=xA (wN 182 (e 0)) fun a=>xA (wB (.int .u64 0)) fun b=>xC ((e.upd 2 a).upd 4 b)
def c1q(e:b7):Reg:=xA (wB (e 1)) fun a=>xA (.lenStr a) fun b=>xA (wO .u64 b) fun c=>xA (wE .add c (.int .u64 1)) fun d=>xA (wB d) fun f=>xC (e.upd 5 f)
def c3C(e:b7):Reg:=xA (wB (.int .i64 0)) fun a=>xC (e.upd 6 a)
def b8F(e:b7):Reg:=xA (wB (e 6)) fun a=>xA (wB (e 1)) fun b=>xA (.lenStr b) fun c=>xA (wE .lss a c) fun d=>xC (e.upd 14 d)
def a5B(e:b7)(a b c d:Value):Reg:=xA (wE .add d (.int .i64 7)) fun f=>xA (wB (e 1)) fun g=>xA (.lenStr g) fun i=>xA (.minmax false [f,i]) fun j=>xA (.sliceStr b (some c) (some j)) fun k=>xD fun h12=>xA (wD 188 [k]) fun m=>xD fun h13=>xA (wD 186 [a,m]) fun n=>xA (wB n) fun o=>xC (e.upd 5 o)
def c4I(e:b7):Reg:=xA (wB (e 5)) fun a=>xA (wC 0 (e 2)) fun b=>xA (wA none b) fun c=>xD fun h3=>xA (wD 187 [a,c]) fun d=>xA (wB (e 1)) fun f=>xA (wB (e 6)) fun g=>xA (wB (e 6)) fun i=>a5B e d f g i
def c4L(e:b7):Reg:=xA (wB (e 6)) fun a=>xA (wE .add a (.int .i64 7)) fun b=>xA (wB b) fun c=>xC (e.upd 6 c)
def a4G:CC:=(.seq (.seq (.region b8F) (.cond (fun e=>e 14) .skip (.exit 0))) (.seq (.block 1 (.region c4I)) (.region c4L)))
def a6U(e:b7)(a b:Value):Reg:=xD fun h6=>xA (wD 186 [a,b]) fun c=>xA (wB c) fun d=>xC (e.upd 4 d)
def b7O(e:b7):Reg:=xA (wB (e 5)) fun a=>xA (wC 1 (e 2)) fun b=>xA (wA none b) fun c=>xD fun h3=>xA (wD 187 [a,c]) fun d=>xA (wC 2 (e 2)) fun f=>xA (wA none f) fun g=>xE none (some h3) (wA none f) g<|a6U e d g
def d9t:=an (ro c0m.eq_1)<|an (ro c1q.eq_1)<|an (ro c3C.eq_1)<|an (ro b8F.eq_1)<|an (ro4 a5B.eq_1)<|an (ro c4I.eq_1)<|an (ro c4L.eq_1)<|an (O5 a6U.eq_1)<|ro b7O.eq_1
def b5f:CFn:=⟨(.seq (.region c0m) (.seq (.region c1q) (.seq (.seq (.region c3C) (.block 0 (.loop a4G))) (.seq (.region b7O) .ret)))),[.t 4]⟩
def e3f:Pers:=⟨7,[14],38,[]⟩
def b9z(e:b7):Reg:=xA (wB (.int .u64 0)) fun a=>xA (wB (.int .u64 0)) fun b=>xC ((e.upd 6 a).upd 7 b)
def c4N(e:b7):Reg:=xA (wB (e 2)) fun a=>xA (wE .eql a (.int .u64 0)) fun b=>xC (e.upd 20 b)
def b6K(e:b7):Reg:=xA (wA none unk) fun a=>xA (.bad) fun _=>xC e
def c1A(e:b7):Reg:=xA (wB (e 2)) fun a=>xA (wB (e 0)) fun b=>xA (wE .leq a b) fun c=>xC (e.upd 24 c)
def b7L(e:b7):Reg:=xA (wA none unk) fun a=>xA (.bad) fun _=>xC e
def c0O(e:b7):Reg:=xA (wB (e 0)) fun a=>xA (wE .eql a (.int .u64 0)) fun b=>xC (e.upd 27 b)
def c4z(e:b7):Reg:=xA (wB (e 1)) fun a=>xA (wB (e 2)) fun b=>xA (wE .quo a b) fun c=>xA (wB (e 1)) fun d=>xA (wB (e 2)) fun f=>xA (wE .rem d f) fun g=>xA (wB c) fun i=>xA (wB g) fun j=>xC ((e.upd 6 i).upd 7 j)
def c0S(e:b7):Reg:=xA (wB (e 2)) fun a=>xA (wD 189 [a]) fun b=>xA (wO .u64 b) fun c=>xA (wB c) fun d=>xC (e.upd 8 d)
def c5h(e:b7):Reg:=xA (wB (e 2)) fun a=>xA (wB (e 8)) fun b=>xA (wE .shl a b) fun c=>xA (wB c) fun d=>xC (e.upd 2 d)
def c0h(e:b7):Reg:=xA (wB (e 2)) fun a=>xA (wE .shr a (.int .u64 32)) fun b=>xA (wB b) fun c=>xC (e.upd 9 c)
def b3m(e:b7):Reg:=xA (wB (e 2)) fun a=>xA (wE .and a (.int .u64 4294967295)) fun b=>xA (wB b) fun c=>xC (e.upd 10 c)
def b2G(e:b7):Reg:=xA (wB (e 0)) fun a=>xA (wB (e 8)) fun b=>xA (wE .shl a b) fun c=>xA (wB (e 1)) fun d=>xA (wB (e 8)) fun f=>xA (wE .sub (.int .u64 64) f) fun g=>xA (wE .shr d g) fun i=>xA (wE .or c i) fun j=>xA (wB j) fun k=>xC (e.upd 11 k)
def b4w(e:b7):Reg:=xA (wB (e 1)) fun a=>xA (wB (e 8)) fun b=>xA (wE .shl a b) fun c=>xA (wB c) fun d=>xC (e.upd 12 d)
def b3a(e:b7):Reg:=xA (wB (e 12)) fun a=>xA (wE .shr a (.int .u64 32)) fun b=>xA (wB b) fun c=>xC (e.upd 13 c)
def b3Q(e:b7):Reg:=xA (wB (e 12)) fun a=>xA (wE .and a (.int .u64 4294967295)) fun b=>xA (wB b) fun c=>xC (e.upd 14 c)
def b3n(e:b7):Reg:=xA (wB (e 11)) fun a=>xA (wB (e 9)) fun b=>xA (wE .quo a b) fun c=>xA (wB c) fun d=>xC (e.upd 15 d)
def b2w(e:b7):Reg:=xA (wB (e 11)) fun a=>xA (wB (e 15)) fun b=>xA (wB (e 9)) fun c=>xA (wE .mul b c) fun d=>xA (wE .sub a d) fun f=>xA (wB f) fun g=>xC (e.upd 16 g)
def a3y(e:b7)(a b c:Value):Reg:=xB a false (wB (e 13)) fun d=>xB a false (wE .add c d) fun f=>xB a false (wE .gtr b f) fun g=>xA (wK a (.bool true) g) fun i=>xC (e.upd 78 i)
def b4n(e:b7):Reg:=xA (wB (e 15)) fun a=>xA (wE .geq a (.int .u64 4294967296)) fun b=>xA (wB b) fun c=>xB c false (wB (e 15)) fun d=>xB c false (wB (e 10)) fun f=>xB c false (wE .mul d f) fun g=>xB c false (wB (e 16)) fun i=>xB c false (wE .mul (.int .u64 4294967296) i) fun j=>a3y e c g j
def b4R(e:b7):Reg:=xA (wB (e 15)) fun a=>xA (wE .sub a (.int .u64 1)) fun b=>xA (wB b) fun c=>xC (e.upd 15 c)
def b2t(e:b7):Reg:=xA (wB (e 16)) fun a=>xA (wB (e 9)) fun b=>xA (wE .add a b) fun c=>xA (wB c) fun d=>xC (e.upd 16 d)
def b4e(e:b7):Reg:=xA (wB (e 16)) fun a=>xA (wE .geq a (.int .u64 4294967296)) fun b=>xC (e.upd 85 b)
def a0q:CC:=(.seq (.seq (.region b4n) (.cond (fun e=>e 78) .skip (.exit 0))) (.block 1 (.seq (.region b4R) (.seq (.region b2t) (.seq (.region b4e) (.cond (fun e=>e 85) (.exit 0) .skip))))))
def b3f(e:b7):Reg:=xA (wB (e 11)) fun a=>xA (wE .mul a (.int .u64 4294967296)) fun b=>xA (wB (e 13)) fun c=>xA (wE .add b c) fun d=>xA (wB (e 15)) fun f=>xA (wB (e 2)) fun g=>xA (wE .mul f g) fun i=>xA (wE .sub d i) fun j=>xA (wB j) fun k=>xC (e.upd 17 k)
def b4Z(e:b7):Reg:=xA (wB (e 17)) fun a=>xA (wB (e 9)) fun b=>xA (wE .quo a b) fun c=>xA (wB c) fun d=>xC (e.upd 18 d)
def b4b(e:b7):Reg:=xA (wB (e 17)) fun a=>xA (wB (e 18)) fun b=>xA (wB (e 9)) fun c=>xA (wE .mul b c) fun d=>xA (wE .sub a d) fun f=>xA (wB f) fun g=>xC (e.upd 16 g)
def a3x(e:b7)(a b c:Value):Reg:=xB a false (wB (e 14)) fun d=>xB a false (wE .add c d) fun f=>xB a false (wE .gtr b f) fun g=>xA (wK a (.bool true) g) fun i=>xC (e.upd 113 i)
def b2o(e:b7):Reg:=xA (wB (e 18)) fun a=>xA (wE .geq a (.int .u64 4294967296)) fun b=>xA (wB b) fun c=>xB c false (wB (e 18)) fun d=>xB c false (wB (e 10)) fun f=>xB c false (wE .mul d f) fun g=>xB c false (wB (e 16)) fun i=>xB c false (wE .mul (.int .u64 4294967296) i) fun j=>a3x e c g j
def b4L(e:b7):Reg:=xA (wB (e 18)) fun a=>xA (wE .sub a (.int .u64 1)) fun b=>xA (wB b) fun c=>xC (e.upd 18 c)
def b4x(e:b7):Reg:=xA (wB (e 16)) fun a=>xA (wB (e 9)) fun b=>xA (wE .add a b) fun c=>xA (wB c) fun d=>xC (e.upd 16 d)
def b2J(e:b7):Reg:=xA (wB (e 16)) fun a=>xA (wE .geq a (.int .u64 4294967296)) fun b=>xC (e.upd 120 b)
def a0m:CC:=(.seq (.seq (.region b2o) (.cond (fun e=>e 113) .skip (.exit 2))) (.block 3 (.seq (.region b4L) (.seq (.region b4x) (.seq (.region b2J) (.cond (fun e=>e 120) (.exit 2) .skip))))))
def a3v(e:b7)(a b:Value):Reg:=xA (wB (e 18)) fun c=>xA (wB (e 2)) fun d=>xA (wE .mul c d) fun f=>xA (wE .sub b f) fun g=>xA (wB (e 8)) fun i=>xA (wE .shr g i) fun j=>xA (wB a) fun k=>xA (wB j) fun m=>xC ((e.upd 6 k).upd 7 m)
def b3v(e:b7):Reg:=xA (wB (e 15)) fun a=>xA (wE .mul a (.int .u64 4294967296)) fun b=>xA (wB (e 18)) fun c=>xA (wE .add b c) fun d=>xA (wB (e 17)) fun f=>xA (wE .mul f (.int .u64 4294967296)) fun g=>xA (wB (e 14)) fun i=>xA (wE .add g i) fun j=>a3v e d j
def a2b:=an (ro b9z.eq_1)<|an (ro c4N.eq_1)<|an (ro b6K.eq_1)<|an (ro c1A.eq_1)<|an (ro b7L.eq_1)<|an (ro c0O.eq_1)<|an (ro c4z.eq_1)<|an (ro c0S.eq_1)<|an (ro c5h.eq_1)<|an (ro c0h.eq_1)<|an (ro b3m.eq_1)<|an (ro b2G.eq_1)<|an (ro b4w.eq_1)<|an (ro b3a.eq_1)<|an (ro b3Q.eq_1)<|an (ro b3n.eq_1)<|an (ro b2w.eq_1)<|an (W3 a3y.eq_1)<|an (ro b4n.eq_1)<|an (ro b4R.eq_1)<|an (ro b2t.eq_1)<|an (ro b4e.eq_1)<|an (ro b3f.eq_1)<|an (ro b4Z.eq_1)<|an (ro b4b.eq_1)<|an (W3 a3x.eq_1)<|an (ro b2o.eq_1)<|an (ro b4L.eq_1)<|an (ro b4x.eq_1)<|an (ro b2J.eq_1)<|an (O5 a3v.eq_1)<|ro b3v.eq_1
def a0Y:CFn:=⟨(.seq (.region b9z) (.seq (.seq (.region c4N) (.cond (fun e=>e 20) (.region b6K) .skip)) (.seq (.seq (.region c1A) (.cond (fun e=>e 24) (.region b7L) .skip)) (.seq (.seq (.region c0O) (.cond (fun e=>e 27) (.seq (.region c4z) .ret) .skip)) (.seq (.region c0S) (.seq (.region c5h) (.seq (.region c0h) (.seq (.region b3m) (.seq (.region b2G) (.seq (.region b4w) (.seq (.region b3a) (.seq (.region b3Q) (.seq (.region b3n) (.seq (.region b2w) (.seq (.block 0 (.loop a0q)) (.seq (.region b3f) (.seq (.region b4Z) (.seq (.region b4b) (.seq (.block 2 (.loop a0m)) (.seq (.region b3v) .ret)))))))))))))))))))),[.t 6,.t 7]⟩
def e4M:Pers:=⟨19,[20,24,27,78,85,113,120],135,[]⟩
def c5u(e:b7):Reg:=xA (wB (.int .u64 0)) fun a=>xA (wB (.bool false)) fun b=>xC ((e.upd 6 a).upd 7 b)
def a5U(e:b7)(a b c:Value):Reg:=xA (wB a) fun d=>xA (wB b) fun f=>xA (wB c) fun g=>xC (((e.upd 8 d).upd 9 f).upd 10 g)
def b9r(e:b7):Reg:=xA (wB (e 0)) fun a=>xA (wB (e 1)) fun b=>xA (wB (e 2)) fun c=>xA (wD 181 [a,b,c]) fun d=>xA (wB d) fun f=>xA (wG f 0) fun g=>xA (wG f 1) fun i=>xA (wG f 2) fun j=>a5U e g i j
def b9I(e:b7):Reg:=xA (wB (e 8)) fun a=>xA (wB (e 10)) fun b=>xA (wB a) fun c=>xA (wB b) fun d=>xC ((e.upd 6 c).upd 7 d)
def e8i:=an (ro c5u.eq_1)<|an (W3 a5U.eq_1)<|an (ro b9r.eq_1)<|ro b9I.eq_1
def e0x:CFn:=⟨(.seq (.region c5u) (.seq (.region b9r) (.seq (.region b9I) .ret))),[.t 6,.t 7]⟩
def e5C:Pers:=⟨11,[],21,[]⟩
def c5L(e:b7):Reg:=xA (wB (.int .u64 0)) fun a=>xC (e.upd 4 a)
def c5y(e:b7):Reg:=xA (wB (e 0)) fun a=>xA (wB (e 1)) fun b=>xA (wE .add a b) fun c=>xA (wD 90 [c]) fun d=>xA (wB d) fun f=>xC (e.upd 4 f)
def e9d:=an (ro c5L.eq_1)<|ro c5y.eq_1
def d9J:CFn:=⟨(.seq (.region c5L) (.seq (.region c5y) .ret)),[.t 4]⟩
def e3G:Pers:=⟨5,[],9,[]⟩
def b9v(e:b7):Reg:=xA (wB (.int .u64 0)) fun a=>xC (e.upd 4 a)
def c2M(e:b7):Reg:=xA (wB (e 0)) fun a=>xA (wB (e 1)) fun b=>xA (wD 85 [a,b]) fun c=>xA (wB c) fun d=>xA (wG d 0) fun f=>xA (wG d 1) fun g=>xA (wB f) fun i=>xA (wB g) fun j=>xC ((e.upd 5 i).upd 6 j)
def a6s(e:b7)(a b:Value):Reg:=xA (wE .rem b (.int .u64 2305843009213693951)) fun c=>xA (wD 186 [a,c]) fun d=>xA (wB d) fun f=>xC (e.upd 4 f)
def c4q(e:b7):Reg:=xA (wB (e 5)) fun a=>xA (wE .shl a (.int .u64 3)) fun b=>xA (wB (e 6)) fun c=>xA (wE .shr c (.int .u64 61)) fun d=>xA (wE .or b d) fun f=>xA (wD 90 [f]) fun g=>xA (wB (e 6)) fun i=>xA (wE .and i (.int .u64 2305843009213693951)) fun j=>a6s e g j
def e9t:=an (ro b9v.eq_1)<|an (ro c2M.eq_1)<|an (O5 a6s.eq_1)<|ro c4q.eq_1
def e0n:CFn:=⟨(.seq (.region b9v) (.seq (.region c2M) (.seq (.region c4q) .ret))),[.t 4]⟩
def e3J:Pers:=⟨7,[],23,[]⟩
def c1x(e:b7):Reg:=xA (wB (.int .u64 0)) fun a=>xC (e.upd 2 a)
def b9l(e:b7):Reg:=xA (wB (.int .u64 0)) fun a=>xC (e.upd 3 a)
def c2L(e:b7):Reg:=xA (wB (e 0)) fun a=>xA (.lenStr a) fun b=>xA (wB (.int .i64 0)) fun c=>xC ((e.upd 6 b).upd 7 c)
def b9E(e:b7):Reg:=xA (wE .lss (e 7) (e 6)) fun a=>xC (e.upd 8 a)
def c2U(e:b7):Reg:=xA (wB (e 7)) fun a=>xA (wB a) fun b=>xC (e.upd 4 b)
def c0j(e:b7):Reg:=xA (wB (e 3)) fun a=>xA (wE .shl a (.int .u64 8)) fun b=>xA (wB (e 0)) fun c=>xA (wB (e 4)) fun d=>xA (.indexStr c d) fun f=>xA (wO .u64 f) fun g=>xA (wE .or b g) fun i=>xA (wB i) fun j=>xC (e.upd 3 j)
def c0W(e:b7):Reg:=xA (wE .add (e 7) (.int .i64 1)) fun a=>xA (wB a) fun b=>xC (e.upd 7 b)
def a4A:CC:=(.seq (.region b9E) (.seq (.cond (fun e=>e 8) .skip (.exit 0)) (.seq (.block 1 (.seq (.region c2U) (.region c0j))) (.region c0W))))
def c1g(e:b7):Reg:=xA (wB (e 3)) fun a=>xA (wB a) fun b=>xC (e.upd 2 b)
def d9B:=an (ro c1x.eq_1)<|an (ro b9l.eq_1)<|an (ro c2L.eq_1)<|an (ro b9E.eq_1)<|an (ro c2U.eq_1)<|an (ro c0j.eq_1)<|an (ro c0W.eq_1)<|ro c1g.eq_1
def b6p:CFn:=⟨(.seq (.region c1x) (.seq (.region b9l) (.seq (.seq (.region c2L) (.block 0 (.loop a4A))) (.seq (.region c1g) .ret)))),[.t 2]⟩
def e6E:Pers:=⟨5,[6,7,8],19,[]⟩
def c2K(e:b7):Reg:=xA (wB (.int .i64 0)) fun a=>xC (e.upd 2 a)
def c5t(e:b7):Reg:=xA (wB (e 0)) fun a=>xA (wD 190 [a]) fun b=>xA (wE .sub (.int .i64 64) b) fun c=>xA (wB c) fun d=>xC (e.upd 2 d)
def e7S:=an (ro c2K.eq_1)<|ro c5t.eq_1
def e0d:CFn:=⟨(.seq (.region c2K) (.seq (.region c5t) .ret)),[.t 2]⟩
def e7y:Pers:=⟨3,[],6,[]⟩
def c4W(e:b7):Reg:=xA (wB (.int .i64 0)) fun a=>xC (e.upd 2 a)
def c1m(e:b7):Reg:=xA (wB (e 0)) fun a=>xA (wE .geq a (.int .u64 4294967296)) fun b=>xC (e.upd 4 b)
def c3e(e:b7):Reg:=xA (wB (e 0)) fun a=>xA (wE .shr a (.int .u64 32)) fun b=>xA (wB b) fun c=>xC (e.upd 0 c)
def b9w(e:b7):Reg:=xA (wB (.int .i64 32)) fun a=>xC (e.upd 2 a)
def c1V(e:b7):Reg:=xA (wB (e 0)) fun a=>xA (wE .geq a (.int .u64 65536)) fun b=>xC (e.upd 8 b)
def c2b(e:b7):Reg:=xA (wB (e 0)) fun a=>xA (wE .shr a (.int .u64 16)) fun b=>xA (wB b) fun c=>xC (e.upd 0 c)
def c3d(e:b7):Reg:=xA (wB (e 2)) fun a=>xA (wE .add a (.int .i64 16)) fun b=>xA (wB b) fun c=>xC (e.upd 2 c)
def b6I(e:b7):Reg:=xA (wB (e 0)) fun a=>xA (wE .geq a (.int .u64 256)) fun b=>xC (e.upd 14 b)
def c2R(e:b7):Reg:=xA (wB (e 0)) fun a=>xA (wE .shr a (.int .u64 8)) fun b=>xA (wB b) fun c=>xC (e.upd 0 c)
def b9f(e:b7):Reg:=xA (wB (e 2)) fun a=>xA (wE .add a (.int .i64 8)) fun b=>xA (wB b) fun c=>xC (e.upd 2 c)
def b3b(e:b7):Reg:=xA (wB (e 2)) fun a=>xA (wB (e 0)) fun b=>xA (wO .u8 b) fun c=>xA (.indexStr (.string c8P) c) fun d=>xA (wO .i64 d) fun f=>xA (wE .add a f) fun g=>xA (wB g) fun i=>xC (e.upd 2 i)
def b2M:=an (ro c4W.eq_1)<|an (ro c1m.eq_1)<|an (ro c3e.eq_1)<|an (ro b9w.eq_1)<|an (ro c1V.eq_1)<|an (ro c2b.eq_1)<|an (ro c3d.eq_1)<|an (ro b6I.eq_1)<|an (ro c2R.eq_1)<|an (ro b9f.eq_1)<|ro b3b.eq_1
def a7n:CFn:=⟨(.seq (.region c4W) (.seq (.seq (.region c1m) (.cond (fun e=>e 4) (.seq (.region c3e) (.region b9w)) .skip)) (.seq (.seq (.region c1V) (.cond (fun e=>e 8) (.seq (.region c2b) (.region c3d)) .skip)) (.seq (.seq (.region b6I) (.cond (fun e=>e 14) (.seq (.region c2R) (.region b9f)) .skip)) (.seq (.region b3b) .ret))))),[.t 2]⟩
def e4v:Pers:=⟨3,[4,8,14],25,[]⟩
def cpF:FuncId->Option CFn
 |3=>some c3
 |11=>some c11
 |12=>some c12
 |13=>some c13
 |14=>some c14
 |15=>some c15
 |16=>some c16
 |17=>some c17
 |18=>some c18
 |19=>some c19
 |20=>some c20
 |21=>some c21
 |26=>some c26
 |27=>some c27
 |28=>some c28
 |30=>some c30
 |31=>some c31
 |32=>some c32
 |34=>some c34
 |35=>some c35
 |36=>some c36
 |38=>some c38
 |39=>some c39
 |40=>some c40
 |41=>some c41
 |42=>some c42
 |43=>some c43
 |44=>some c44
 |45=>some c45
 |46=>some c46
 |47=>some c47
 |49=>some c49
 |50=>some c50
 |51=>some c51
 |52=>some c52
 |53=>some c53
 |54=>some c54
 |55=>some c55
 |56=>some c56
 |57=>some c57
 |58=>some c58
 |59=>some c59
 |60=>some c60
 |61=>some c61
 |62=>some c62
 |63=>some c63
 |64=>some c64
 |65=>some c65
 |66=>some c66
 |70=>some c70
 |71=>some c71
 |72=>some c72
 |73=>some c73
 |74=>some c74
 |75=>some c75
 |76=>some c76
 |77=>some c77
 |78=>some c78
 |79=>some c79
 |80=>some c80
 |81=>some c81
 |82=>some c82
 |83=>some c83
 |84=>some c84
 |85=>some c85
 |86=>some c86
 |87=>some c87
 |88=>some c88
 |89=>some c89
 |90=>some c90
 |91=>some c91
 |92=>some c92
 |93=>some c93
 |94=>some c94
 |95=>some c95
 |96=>some c96
 |97=>some c97
 |98=>some c98
 |99=>some c99
 |100=>some e0g
 |101=>some b3E
 |117=>some b0X
 |118=>some d7c
 |119=>some d5Z
 |120=>some T9
 |121=>some b5n
 |126=>some d2U
 |127=>some b5d
 |128=>some c7g
 |129=>some e0D
 |130=>some b2h
 |131=>some a0h
 |132=>some b5J
 |133=>some b5P
 |134=>some b2B
 |135=>some d2H
 |136=>some b3K
 |137=>some a7V
 |138=>some d9T
 |139=>some c7A
 |140=>some b1F
 |141=>some d9g
 |142=>some d9M
 |144=>some e0p
 |145=>some e0c
 |147=>some d7r
 |148=>some c8t
 |149=>some d8C
 |150=>some c5X
 |151=>some b5K
 |152=>some a2E
 |153=>some d7q
 |154=>some c7t
 |155=>some d4W
 |156=>some d9D
 |157=>some b2v
 |158=>some d9o
 |159=>some d9i
 |160=>some b1n
 |161=>some e0z
 |162=>some b0Y
 |163=>some c163
 |165=>some b3e
 |166=>some d6b
 |167=>some a8b
 |168=>some d9l
 |169=>some c6o
 |170=>some d7B
 |171=>some c6a
 |172=>some b1u
 |173=>some d2O
 |174=>some e0l
 |175=>some e0w
 |176=>some e0I
 |177=>some c6c
 |178=>some d9k
 |179=>some c9M
 |180=>some e0e
 |181=>some d9Z
 |182=>some d9Y
 |183=>some b5f
 |184=>some a0Y
 |185=>some e0x
 |186=>some d9J
 |187=>some e0n
 |188=>some b6p
 |189=>some e0d
 |190=>some a7n
 |_=>none
def cp:CProg:=⟨cpF,none⟩
theorem e8A:cp 12=some c12:=rfl
theorem e9L:cp 13=some c13:=rfl
theorem e8Z:cp 14=some c14:=rfl
theorem e2d:cp 15=some c15:=rfl
theorem e9R:cp 16=some c16:=rfl
theorem f0e:cp 17=some c17:=rfl
theorem e6c:cp 18=some c18:=rfl
theorem e7H:cp 19=some c19:=rfl
theorem f0S:cp 20=some c20:=rfl
theorem e7T:cp 21=some c21:=rfl
theorem f0F:cp 26=some c26:=rfl
theorem e7L:cp 30=some c30:=rfl
theorem e8u:cp 31=some c31:=rfl
theorem f0E:cp 32=some c32:=rfl
theorem e8E:cp 34=some c34:=rfl
theorem e1J:cp 35=some c35:=rfl
theorem e8r:cp 36=some c36:=rfl
theorem f0s:cp 38=some c38:=rfl
theorem e7Z:cp 39=some c39:=rfl
theorem e8m:cp 40=some c40:=rfl
theorem e7C:cp 41=some c41:=rfl
theorem e3E:cp 42=some c42:=rfl
theorem e8t:cp 43=some c43:=rfl
theorem e9Q:cp 44=some c44:=rfl
theorem f0N:cp 45=some c45:=rfl
theorem e8j:cp 46=some c46:=rfl
theorem f0Q:cp 47=some c47:=rfl
theorem e9e:cp 49=some c49:=rfl
theorem e9p:cp 51=some c51:=rfl
theorem e9S:cp 52=some c52:=rfl
theorem e9i:cp 53=some c53:=rfl
theorem e7B:cp 54=some c54:=rfl
theorem e7U:cp 55=some c55:=rfl
theorem e8I:cp 56=some c56:=rfl
theorem e8B:cp 57=some c57:=rfl
theorem e9n:cp 58=some c58:=rfl
theorem e9F:cp 59=some c59:=rfl
theorem e7E:cp 60=some c60:=rfl
theorem e8a:cp 61=some c61:=rfl
theorem e9D:cp 62=some c62:=rfl
theorem e7Y:cp 63=some c63:=rfl
theorem e8s:cp 64=some c64:=rfl
theorem f0d:cp 65=some c65:=rfl
theorem f0k:cp 66=some c66:=rfl
theorem f0I:cp 70=some c70:=rfl
theorem f0j:cp 71=some c71:=rfl
theorem e9j:cp 72=some c72:=rfl
theorem f0h:cp 73=some c73:=rfl
theorem e3n:cp 74=some c74:=rfl
theorem e9O:cp 75=some c75:=rfl
theorem f0x:cp 76=some c76:=rfl
theorem e8x:cp 77=some c77:=rfl
theorem f0l:cp 78=some c78:=rfl
theorem e7N:cp 79=some c79:=rfl
theorem e9g:cp 80=some c80:=rfl
theorem e9A:cp 81=some c81:=rfl
theorem e8b:cp 82=some c82:=rfl
theorem e8o:cp 83=some c83:=rfl
theorem e8P:cp 84=some c84:=rfl
theorem f0i:cp 85=some c85:=rfl
theorem e9J:cp 86=some c86:=rfl
theorem f0P:cp 87=some c87:=rfl
theorem f0C:cp 88=some c88:=rfl
theorem f0w:cp 89=some c89:=rfl
theorem e9X:cp 90=some c90:=rfl
theorem e8z:cp 91=some c91:=rfl
theorem e8U:cp 92=some c92:=rfl
theorem e9G:cp 93=some c93:=rfl
theorem e8c:cp 94=some c94:=rfl
theorem e9s:cp 95=some c95:=rfl
theorem e8Y:cp 96=some c96:=rfl
theorem e8N:cp 97=some c97:=rfl
theorem e8O:cp 98=some c98:=rfl
theorem e5L:cp 99=some c99:=rfl
theorem e3V:cp 100=some e0g:=rfl
theorem e3q:cp 101=some b3E:=rfl
theorem e5V:cp 117=some b0X:=rfl
theorem e4l:cp 118=some d7c:=rfl
theorem e3a:cp 119=some d5Z:=rfl
theorem e0V:cp 120=some T9:=rfl
theorem e7j:cp 121=some b5n:=rfl
theorem e7q:cp 126=some d2U:=rfl
theorem e4f:cp 127=some b5d:=rfl
theorem e7h:cp 128=some c7g:=rfl
theorem e5U:cp 129=some e0D:=rfl
theorem e5E:cp 130=some b2h:=rfl
theorem e4P:cp 131=some a0h:=rfl
theorem e1c:cp 132=some b5J:=rfl
theorem e6J:cp 133=some b5P:=rfl
theorem e6H:cp 134=some b2B:=rfl
theorem e4t:cp 135=some d2H:=rfl
theorem e6A:cp 136=some b3K:=rfl
theorem e4g:cp 137=some a7V:=rfl
theorem e4b:cp 138=some d9T:=rfl
theorem e5c:cp 139=some c7A:=rfl
theorem e6t:cp 140=some b1F:=rfl
theorem e6W:cp 141=some d9g:=rfl
theorem e2R:cp 142=some d9M:=rfl
theorem e4U:cp 144=some e0p:=rfl
theorem e7r:cp 145=some e0c:=rfl
theorem e6C:cp 147=some d7r:=rfl
theorem e0T:cp 148=some c8t:=rfl
theorem e6i:cp 149=some d8C:=rfl
theorem e3P:cp 150=some c5X:=rfl
theorem e6I:cp 151=some b5K:=rfl
theorem e7f:cp 152=some a2E:=rfl
theorem e4X:cp 153=some d7q:=rfl
theorem e2X:cp 154=some c7t:=rfl
theorem e3Q:cp 155=some d4W:=rfl
theorem e6w:cp 156=some d9D:=rfl
theorem e6G:cp 157=some b2v:=rfl
theorem e6l:cp 158=some d9o:=rfl
theorem e5Y:cp 159=some d9i:=rfl
theorem e4r:cp 160=some b1n:=rfl
theorem e3e:cp 161=some e0z:=rfl
theorem e7w:cp 162=some b0Y:=rfl
theorem e5P:cp 163=some c163:=rfl
theorem e6u:cp 165=some b3e:=rfl
theorem e1a:cp 166=some d6b:=rfl
theorem e4K:cp 167=some a8b:=rfl
theorem e6L:cp 168=some d9l:=rfl
theorem e4S:cp 169=some c6o:=rfl
theorem e6e:cp 170=some d7B:=rfl
theorem e7u:cp 171=some c6a:=rfl
theorem e0Q:cp 172=some b1u:=rfl
theorem e3N:cp 173=some d2O:=rfl
theorem e7b:cp 174=some e0l:=rfl
theorem e3U:cp 175=some e0w:=rfl
theorem e4D:cp 176=some e0I:=rfl
theorem e7x:cp 177=some c6c:=rfl
theorem e5D:cp 178=some d9k:=rfl
theorem e6r:cp 179=some c9M:=rfl
theorem e3s:cp 180=some e0e:=rfl
theorem e7n:cp 181=some d9Z:=rfl
theorem e5h:cp 182=some d9Y:=rfl
theorem e4R:cp 183=some b5f:=rfl
theorem e4x:cp 184=some a0Y:=rfl
theorem e3w:cp 185=some e0x:=rfl
theorem e4A:cp 186=some d9J:=rfl
theorem e2V:cp 187=some e0n:=rfl
theorem e4B:cp 188=some b6p:=rfl
theorem e7p:cp 189=some e0d:=rfl
theorem a3V:cp 190=some a7n:=rfl
theorem fn3:v7 Tryz.prog p3 Tryz.f3=some c3:=by kernel_rfl
theorem f0H:v7 Tryz.prog p11 Tryz.f11=some c11:=by kernel_rfl
theorem f0m:v7 Tryz.prog p12 Tryz.f12=some c12:=by kernel_rfl
theorem f0y:v7 Tryz.prog p13 Tryz.f13=some c13:=by kernel_rfl
theorem e9I:v7 Tryz.prog p14 Tryz.f14=some c14:=by kernel_rfl
theorem e8l:v7 Tryz.prog p15 Tryz.f15=some c15:=by kernel_rfl
theorem e8n:v7 Tryz.prog p16 Tryz.f16=some c16:=by kernel_rfl
theorem e9K:v7 Tryz.prog p17 Tryz.f17=some c17:=by kernel_rfl
theorem e8J:v7 Tryz.prog p18 Tryz.f18=some c18:=by kernel_rfl
theorem e7P:v7 Tryz.prog p19 Tryz.f19=some c19:=by kernel_rfl
theorem e8p:v7 Tryz.prog p20 Tryz.f20=some c20:=by kernel_rfl
theorem e9E:v7 Tryz.prog p21 Tryz.f21=some c21:=by kernel_rfl
theorem e8f:v7 Tryz.prog p26 Tryz.f26=some c26:=by kernel_rfl
theorem f0u:v7 Tryz.prog p27 Tryz.f27=some c27:=by kernel_rfl
theorem e8Q:v7 Tryz.prog p28 Tryz.f28=some c28:=by kernel_rfl
theorem f0O:v7 Tryz.prog p30 Tryz.f30=some c30:=by kernel_rfl
theorem f0b:v7 Tryz.prog p31 Tryz.f31=some c31:=by kernel_rfl
theorem e9q:v7 Tryz.prog p32 Tryz.f32=some c32:=by kernel_rfl
theorem f0g:v7 Tryz.prog p34 Tryz.f34=some c34:=by kernel_rfl
theorem e7O:v7 Tryz.prog p35 Tryz.f35=some c35:=by kernel_rfl
theorem e9T:v7 Tryz.prog p36 Tryz.f36=some c36:=by kernel_rfl
theorem e9H:v7 Tryz.prog p38 Tryz.f38=some c38:=by kernel_rfl
theorem e9z:v7 Tryz.prog p39 Tryz.f39=some c39:=by kernel_rfl
theorem e8C:v7 Tryz.prog p40 Tryz.f40=some c40:=by kernel_rfl
theorem f0z:v7 Tryz.prog p41 Tryz.f41=some c41:=by kernel_rfl
theorem e8w:v7 Tryz.prog p42 Tryz.f42=some c42:=by kernel_rfl
theorem e9a:v7 Tryz.prog p43 Tryz.f43=some c43:=by kernel_rfl
theorem e9x:v7 Tryz.prog p44 Tryz.f44=some c44:=by kernel_rfl
theorem e9b:v7 Tryz.prog p45 Tryz.f45=some c45:=by kernel_rfl
theorem e7R:v7 Tryz.prog p46 Tryz.f46=some c46:=by kernel_rfl
theorem e9P:v7 Tryz.prog p47 Tryz.f47=some c47:=by kernel_rfl
theorem e8K:v7 Tryz.prog p49 Tryz.f49=some c49:=by kernel_rfl
theorem f0T:v7 Tryz.prog p50 Tryz.f50=some c50:=by kernel_rfl
theorem f0A:v7 Tryz.prog p51 Tryz.f51=some c51:=by kernel_rfl
theorem e8R:v7 Tryz.prog p52 Tryz.f52=some c52:=by kernel_rfl
theorem e9c:v7 Tryz.prog p53 Tryz.f53=some c53:=by kernel_rfl
theorem e7G:v7 Tryz.prog p54 Tryz.f54=some c54:=by kernel_rfl
theorem e9Y:v7 Tryz.prog p55 Tryz.f55=some c55:=by kernel_rfl
theorem e9r:v7 Tryz.prog p56 Tryz.f56=some c56:=by kernel_rfl
theorem e8L:v7 Tryz.prog p57 Tryz.f57=some c57:=by kernel_rfl
theorem e9V:v7 Tryz.prog p58 Tryz.f58=some c58:=by kernel_rfl
theorem f0B:v7 Tryz.prog p59 Tryz.f59=some c59:=by kernel_rfl
theorem e9W:v7 Tryz.prog p60 Tryz.f60=some c60:=by kernel_rfl
theorem e7V:v7 Tryz.prog p61 Tryz.f61=some c61:=by kernel_rfl
theorem e9h:v7 Tryz.prog p62 Tryz.f62=some c62:=by kernel_rfl
theorem f0G:v7 Tryz.prog p63 Tryz.f63=some c63:=by kernel_rfl
theorem e8y:v7 Tryz.prog p64 Tryz.f64=some c64:=by kernel_rfl
theorem f0L:v7 Tryz.prog p65 Tryz.f65=some c65:=by kernel_rfl
theorem e7I:v7 Tryz.prog p66 Tryz.f66=some c66:=by kernel_rfl
theorem e8H:v7 Tryz.prog p70 Tryz.f70=some c70:=by kernel_rfl
theorem e8d:v7 Tryz.prog p71 Tryz.f71=some c71:=by kernel_rfl
theorem f0f:v7 Tryz.prog p72 Tryz.f72=some c72:=by kernel_rfl
theorem e7Q:v7 Tryz.prog p73 Tryz.f73=some c73:=by kernel_rfl
theorem e9N:v7 Tryz.prog p74 Tryz.f74=some c74:=by kernel_rfl
theorem e9y:v7 Tryz.prog p75 Tryz.f75=some c75:=by kernel_rfl
theorem f0R:v7 Tryz.prog p76 Tryz.f76=some c76:=by kernel_rfl
theorem e9m:v7 Tryz.prog p77 Tryz.f77=some c77:=by kernel_rfl
theorem e9v:v7 Tryz.prog p78 Tryz.f78=some c78:=by kernel_rfl
theorem e7J:v7 Tryz.prog p79 Tryz.f79=some c79:=by kernel_rfl
theorem e9k:v7 Tryz.prog p80 Tryz.f80=some c80:=by kernel_rfl
theorem e8e:v7 Tryz.prog p81 Tryz.f81=some c81:=by kernel_rfl
theorem e9C:v7 Tryz.prog p82 Tryz.f82=some c82:=by kernel_rfl
theorem e8X:v7 Tryz.prog p83 Tryz.f83=some c83:=by kernel_rfl
theorem e9B:v7 Tryz.prog p84 Tryz.f84=some c84:=by kernel_rfl
theorem e7X:v7 Tryz.prog p85 Tryz.f85=some c85:=by kernel_rfl
theorem f0o:v7 Tryz.prog p86 Tryz.f86=some c86:=by kernel_rfl
theorem f0q:v7 Tryz.prog p87 Tryz.f87=some c87:=by kernel_rfl
theorem e8g:v7 Tryz.prog p88 Tryz.f88=some c88:=by kernel_rfl
theorem e9M:v7 Tryz.prog p89 Tryz.f89=some c89:=by kernel_rfl
theorem e7K:v7 Tryz.prog p90 Tryz.f90=some c90:=by kernel_rfl
theorem f0a:v7 Tryz.prog p91 Tryz.f91=some c91:=by kernel_rfl
theorem e8V:v7 Tryz.prog p92 Tryz.f92=some c92:=by kernel_rfl
theorem e8D:v7 Tryz.prog p93 Tryz.f93=some c93:=by kernel_rfl
theorem f0t:v7 Tryz.prog p94 Tryz.f94=some c94:=by kernel_rfl
theorem e7M:v7 Tryz.prog p95 Tryz.f95=some c95:=by kernel_rfl
theorem e7F:v7 Tryz.prog p96 Tryz.f96=some c96:=by kernel_rfl
theorem e9o:v7 Tryz.prog p97 Tryz.f97=some c97:=by kernel_rfl
theorem f0J:v7 Tryz.prog p98 Tryz.f98=some c98:=by kernel_rfl
theorem f0r:v7 Tryz.prog p99 Tryz.f99=some c99:=by kernel_rfl
theorem e4W:v7 Tryz.prog e5A Tryz.f100=some e0g:=by kernel_rfl
theorem e2T:v7 Tryz.prog e5u Tryz.f101=some b3E:=by kernel_rfl
theorem e3p:v7 Tryz.prog e3c Tryz.f117=some b0X:=by kernel_rfl
theorem e7c:v7 Tryz.prog e6y Tryz.f118=some d7c:=by kernel_rfl
theorem e6P:v7 Tryz.prog e5t Tryz.f119=some d5Z:=by kernel_rfl
theorem e7l:v7 Tryz.prog e4I Tryz.f120=some T9:=by kernel_rfl
theorem e7v:v7 Tryz.prog e4Q Tryz.f121=some b5n:=by kernel_rfl
theorem e7e:v7 Tryz.prog e2N Tryz.f126=some d2U:=by kernel_rfl
theorem e6Q:v7 Tryz.prog e6D Tryz.f127=some b5d:=by kernel_rfl
theorem e5a:v7 Tryz.prog e5p Tryz.f128=some c7g:=by kernel_rfl
theorem e3O:v7 Tryz.prog e6V Tryz.f129=some e0D:=by kernel_rfl
theorem e4u:v7 Tryz.prog e4G Tryz.f130=some b2h:=by kernel_rfl
theorem e5K:v7 Tryz.prog e5B Tryz.f131=some a0h:=by kernel_rfl
theorem e7z:v7 Tryz.prog e4Y Tryz.f132=some b5J:=by kernel_rfl
theorem e3u:v7 Tryz.prog e7o Tryz.f133=some b5P:=by kernel_rfl
theorem e4V:v7 Tryz.prog e5H Tryz.f134=some b2B:=by kernel_rfl
theorem e5X:v7 Tryz.prog e5i Tryz.f135=some d2H:=by kernel_rfl
theorem e3l:v7 Tryz.prog e6k Tryz.f136=some b3K:=by kernel_rfl
theorem e4L:v7 Tryz.prog e3T Tryz.f137=some a7V:=by kernel_rfl
theorem e6q:v7 Tryz.prog e7d Tryz.f138=some d9T:=by kernel_rfl
theorem e7k:v7 Tryz.prog e4z Tryz.f139=some c7A:=by kernel_rfl
theorem e2O:v7 Tryz.prog e4h Tryz.f140=some b1F:=by kernel_rfl
theorem e2Y:v7 Tryz.prog e6N Tryz.f141=some d9g:=by kernel_rfl
theorem e3M:v7 Tryz.prog e3o Tryz.f142=some d9M:=by kernel_rfl
theorem e2Q:v7 Tryz.prog e7i Tryz.f144=some e0p:=by kernel_rfl
theorem e3L:v7 Tryz.prog e3m Tryz.f145=some e0c:=by kernel_rfl
theorem e5d:v7 Tryz.prog e6h Tryz.f147=some d7r:=by kernel_rfl
theorem e4w:v7 Tryz.prog e6S Tryz.f148=some c8t:=by kernel_rfl
theorem e3X:v7 Tryz.prog e7a Tryz.f149=some d8C:=by kernel_rfl
theorem e5Z:v7 Tryz.prog e5o Tryz.f150=some c5X:=by kernel_rfl
theorem e3B:v7 Tryz.prog e4y Tryz.f151=some b5K:=by kernel_rfl
theorem e3R:v7 Tryz.prog e6X Tryz.f152=some a2E:=by kernel_rfl
theorem e5y:v7 Tryz.prog e6F Tryz.f153=some d7q:=by kernel_rfl
theorem e4p:v7 Tryz.prog e4T Tryz.f154=some c7t:=by kernel_rfl
theorem e5s:v7 Tryz.prog e4Z Tryz.f155=some d4W:=by kernel_rfl
theorem e2S:v7 Tryz.prog e5b Tryz.f156=some d9D:=by kernel_rfl
theorem e6K:v7 Tryz.prog e5j Tryz.f157=some b2v:=by kernel_rfl
theorem e7s:v7 Tryz.prog e3F Tryz.f158=some d9o:=by kernel_rfl
theorem e6g:v7 Tryz.prog e3W Tryz.f159=some d9i:=by kernel_rfl
theorem e7t:v7 Tryz.prog e5M Tryz.f160=some b1n:=by kernel_rfl
theorem e4H:v7 Tryz.prog e5z Tryz.f161=some e0z:=by kernel_rfl
theorem e3k:v7 Tryz.prog e6R Tryz.f162=some b0Y:=by kernel_rfl
theorem e5m:v7 Tryz.prog e4J Tryz.f163=some c163:=by kernel_rfl
theorem e3d:v7 Tryz.prog e3h Tryz.f165=some b3e:=by kernel_rfl
theorem e2P:v7 Tryz.prog e6b Tryz.f166=some d6b:=by kernel_rfl
theorem e4c:v7 Tryz.prog e5w Tryz.f167=some a8b:=by kernel_rfl
theorem e4s:v7 Tryz.prog e3y Tryz.f168=some d9l:=by kernel_rfl
theorem e6f:v7 Tryz.prog e3v Tryz.f169=some c6o:=by kernel_rfl
theorem e5N:v7 Tryz.prog e3S Tryz.f170=some d7B:=by kernel_rfl
theorem e4i:v7 Tryz.prog e5n Tryz.f171=some c6a:=by kernel_rfl
theorem e6o:v7 Tryz.prog e4F Tryz.f172=some b1u:=by kernel_rfl
theorem e6d:v7 Tryz.prog e3Y Tryz.f173=some d2O:=by kernel_rfl
theorem e5I:v7 Tryz.prog e4e Tryz.f174=some e0l:=by kernel_rfl
theorem e5q:v7 Tryz.prog e4E Tryz.f175=some e0w:=by kernel_rfl
theorem e3j:v7 Tryz.prog e5f Tryz.f176=some e0I:=by kernel_rfl
theorem e3K:v7 Tryz.prog e7m Tryz.f177=some c6c:=by kernel_rfl
theorem e5v:v7 Tryz.prog e4j Tryz.f178=some d9k:=by kernel_rfl
theorem e4a:v7 Tryz.prog e6a Tryz.f179=some c9M:=by kernel_rfl
theorem e6p:v7 Tryz.prog e5O Tryz.f180=some e0e:=by kernel_rfl
theorem e3r:v7 Tryz.prog e5r Tryz.f181=some d9Z:=by kernel_rfl
theorem e4q:v7 Tryz.prog e3b Tryz.f182=some d9Y:=by kernel_rfl
theorem e6B:v7 Tryz.prog e3f Tryz.f183=some b5f:=by kernel_rfl
theorem e6Y:v7 Tryz.prog e4M Tryz.f184=some a0Y:=by kernel_rfl
theorem e4o:v7 Tryz.prog e5C Tryz.f185=some e0x:=by kernel_rfl
theorem e6Z:v7 Tryz.prog e3G Tryz.f186=some d9J:=by kernel_rfl
theorem e6T:v7 Tryz.prog e3J Tryz.f187=some e0n:=by kernel_rfl
theorem e5Q:v7 Tryz.prog e6E Tryz.f188=some b6p:=by kernel_rfl
theorem e6z:v7 Tryz.prog e7y Tryz.f189=some e0d:=by kernel_rfl
theorem e5x:v7 Tryz.prog e4v Tryz.f190=some a7n:=by kernel_rfl
set_option maxRecDepth 100000 in
theorem c8n:a7J Tryz.prog cp:=by
 refine⟨rfl,fun f fn h=>?_⟩
 have h:cpF f=some fn:=h
 unfold cpF at h
 split at h
 ·obtain rfl:=yA h;exact⟨p3,Tryz.f3,Tryz.func3,fn3⟩
 ·obtain rfl:=yA h;exact⟨p11,Tryz.f11,Tryz.func11,f0H⟩
 ·obtain rfl:=yA h;exact⟨p12,Tryz.f12,Tryz.func12,f0m⟩
 ·obtain rfl:=yA h;exact⟨p13,Tryz.f13,Tryz.func13,f0y⟩
 ·obtain rfl:=yA h;exact⟨p14,Tryz.f14,Tryz.func14,e9I⟩
 ·obtain rfl:=yA h;exact⟨p15,Tryz.f15,Tryz.func15,e8l⟩
 ·obtain rfl:=yA h;exact⟨p16,Tryz.f16,Tryz.func16,e8n⟩
 ·obtain rfl:=yA h;exact⟨p17,Tryz.f17,Tryz.func17,e9K⟩
 ·obtain rfl:=yA h;exact⟨p18,Tryz.f18,Tryz.func18,e8J⟩
 ·obtain rfl:=yA h;exact⟨p19,Tryz.f19,Tryz.func19,e7P⟩
 ·obtain rfl:=yA h;exact⟨p20,Tryz.f20,Tryz.func20,e8p⟩
 ·obtain rfl:=yA h;exact⟨p21,Tryz.f21,Tryz.func21,e9E⟩
 ·obtain rfl:=yA h;exact⟨p26,Tryz.f26,Tryz.func26,e8f⟩
 ·obtain rfl:=yA h;exact⟨p27,Tryz.f27,Tryz.func27,f0u⟩
 ·obtain rfl:=yA h;exact⟨p28,Tryz.f28,Tryz.func28,e8Q⟩
 ·obtain rfl:=yA h;exact⟨p30,Tryz.f30,Tryz.func30,f0O⟩
 ·obtain rfl:=yA h;exact⟨p31,Tryz.f31,Tryz.func31,f0b⟩
 ·obtain rfl:=yA h;exact⟨p32,Tryz.f32,Tryz.func32,e9q⟩
 ·obtain rfl:=yA h;exact⟨p34,Tryz.f34,Tryz.func34,f0g⟩
 ·obtain rfl:=yA h;exact⟨p35,Tryz.f35,Tryz.func35,e7O⟩
 ·obtain rfl:=yA h;exact⟨p36,Tryz.f36,Tryz.func36,e9T⟩
 ·obtain rfl:=yA h;exact⟨p38,Tryz.f38,Tryz.func38,e9H⟩
 ·obtain rfl:=yA h;exact⟨p39,Tryz.f39,Tryz.func39,e9z⟩
 ·obtain rfl:=yA h;exact⟨p40,Tryz.f40,Tryz.func40,e8C⟩
 ·obtain rfl:=yA h;exact⟨p41,Tryz.f41,Tryz.func41,f0z⟩
 ·obtain rfl:=yA h;exact⟨p42,Tryz.f42,Tryz.func42,e8w⟩
 ·obtain rfl:=yA h;exact⟨p43,Tryz.f43,Tryz.func43,e9a⟩
 ·obtain rfl:=yA h;exact⟨p44,Tryz.f44,Tryz.func44,e9x⟩
 ·obtain rfl:=yA h;exact⟨p45,Tryz.f45,Tryz.func45,e9b⟩
 ·obtain rfl:=yA h;exact⟨p46,Tryz.f46,Tryz.func46,e7R⟩
 ·obtain rfl:=yA h;exact⟨p47,Tryz.f47,Tryz.func47,e9P⟩
 ·obtain rfl:=yA h;exact⟨p49,Tryz.f49,Tryz.func49,e8K⟩
 ·obtain rfl:=yA h;exact⟨p50,Tryz.f50,Tryz.func50,f0T⟩
 ·obtain rfl:=yA h;exact⟨p51,Tryz.f51,Tryz.func51,f0A⟩
 ·obtain rfl:=yA h;exact⟨p52,Tryz.f52,Tryz.func52,e8R⟩
 ·obtain rfl:=yA h;exact⟨p53,Tryz.f53,Tryz.func53,e9c⟩
 ·obtain rfl:=yA h;exact⟨p54,Tryz.f54,Tryz.func54,e7G⟩
 ·obtain rfl:=yA h;exact⟨p55,Tryz.f55,Tryz.func55,e9Y⟩
 ·obtain rfl:=yA h;exact⟨p56,Tryz.f56,Tryz.func56,e9r⟩
 ·obtain rfl:=yA h;exact⟨p57,Tryz.f57,Tryz.func57,e8L⟩
 ·obtain rfl:=yA h;exact⟨p58,Tryz.f58,Tryz.func58,e9V⟩
 ·obtain rfl:=yA h;exact⟨p59,Tryz.f59,Tryz.func59,f0B⟩
 ·obtain rfl:=yA h;exact⟨p60,Tryz.f60,Tryz.func60,e9W⟩
 ·obtain rfl:=yA h;exact⟨p61,Tryz.f61,Tryz.func61,e7V⟩
 ·obtain rfl:=yA h;exact⟨p62,Tryz.f62,Tryz.func62,e9h⟩
 ·obtain rfl:=yA h;exact⟨p63,Tryz.f63,Tryz.func63,f0G⟩
 ·obtain rfl:=yA h;exact⟨p64,Tryz.f64,Tryz.func64,e8y⟩
 ·obtain rfl:=yA h;exact⟨p65,Tryz.f65,Tryz.func65,f0L⟩
 ·obtain rfl:=yA h;exact⟨p66,Tryz.f66,Tryz.func66,e7I⟩
 ·obtain rfl:=yA h;exact⟨p70,Tryz.f70,Tryz.func70,e8H⟩
 ·obtain rfl:=yA h;exact⟨p71,Tryz.f71,Tryz.func71,e8d⟩
 ·obtain rfl:=yA h;exact⟨p72,Tryz.f72,Tryz.func72,f0f⟩
 ·obtain rfl:=yA h;exact⟨p73,Tryz.f73,Tryz.func73,e7Q⟩
 ·obtain rfl:=yA h;exact⟨p74,Tryz.f74,Tryz.func74,e9N⟩
 ·obtain rfl:=yA h;exact⟨p75,Tryz.f75,Tryz.func75,e9y⟩
 ·obtain rfl:=yA h;exact⟨p76,Tryz.f76,Tryz.func76,f0R⟩
 ·obtain rfl:=yA h;exact⟨p77,Tryz.f77,Tryz.func77,e9m⟩
 ·obtain rfl:=yA h;exact⟨p78,Tryz.f78,Tryz.func78,e9v⟩
 ·obtain rfl:=yA h;exact⟨p79,Tryz.f79,Tryz.func79,e7J⟩
 ·obtain rfl:=yA h;exact⟨p80,Tryz.f80,Tryz.func80,e9k⟩
 ·obtain rfl:=yA h;exact⟨p81,Tryz.f81,Tryz.func81,e8e⟩
 ·obtain rfl:=yA h;exact⟨p82,Tryz.f82,Tryz.func82,e9C⟩
 ·obtain rfl:=yA h;exact⟨p83,Tryz.f83,Tryz.func83,e8X⟩
 ·obtain rfl:=yA h;exact⟨p84,Tryz.f84,Tryz.func84,e9B⟩
 ·obtain rfl:=yA h;exact⟨p85,Tryz.f85,Tryz.func85,e7X⟩
 ·obtain rfl:=yA h;exact⟨p86,Tryz.f86,Tryz.func86,f0o⟩
 ·obtain rfl:=yA h;exact⟨p87,Tryz.f87,Tryz.func87,f0q⟩
 ·obtain rfl:=yA h;exact⟨p88,Tryz.f88,Tryz.func88,e8g⟩
 ·obtain rfl:=yA h;exact⟨p89,Tryz.f89,Tryz.func89,e9M⟩
 ·obtain rfl:=yA h;exact⟨p90,Tryz.f90,Tryz.func90,e7K⟩
 ·obtain rfl:=yA h;exact⟨p91,Tryz.f91,Tryz.func91,f0a⟩
 ·obtain rfl:=yA h;exact⟨p92,Tryz.f92,Tryz.func92,e8V⟩
 ·obtain rfl:=yA h;exact⟨p93,Tryz.f93,Tryz.func93,e8D⟩
 ·obtain rfl:=yA h;exact⟨p94,Tryz.f94,Tryz.func94,f0t⟩
 ·obtain rfl:=yA h;exact⟨p95,Tryz.f95,Tryz.func95,e7M⟩
 ·obtain rfl:=yA h;exact⟨p96,Tryz.f96,Tryz.func96,e7F⟩
 ·obtain rfl:=yA h;exact⟨p97,Tryz.f97,Tryz.func97,e9o⟩
 ·obtain rfl:=yA h;exact⟨p98,Tryz.f98,Tryz.func98,f0J⟩
 ·obtain rfl:=yA h;exact⟨p99,Tryz.f99,Tryz.func99,f0r⟩
 ·obtain rfl:=yA h;exact⟨e5A,Tryz.f100,Tryz.func100,e4W⟩
 ·obtain rfl:=yA h;exact⟨e5u,Tryz.f101,Tryz.func101,e2T⟩
 ·obtain rfl:=yA h;exact⟨e3c,Tryz.f117,Tryz.func117,e3p⟩
 ·obtain rfl:=yA h;exact⟨e6y,Tryz.f118,Tryz.func118,e7c⟩
 ·obtain rfl:=yA h;exact⟨e5t,Tryz.f119,Tryz.func119,e6P⟩
 ·obtain rfl:=yA h;exact⟨e4I,Tryz.f120,Tryz.func120,e7l⟩
 ·obtain rfl:=yA h;exact⟨e4Q,Tryz.f121,Tryz.func121,e7v⟩
 ·obtain rfl:=yA h;exact⟨e2N,Tryz.f126,Tryz.func126,e7e⟩
 ·obtain rfl:=yA h;exact⟨e6D,Tryz.f127,Tryz.func127,e6Q⟩
 ·obtain rfl:=yA h;exact⟨e5p,Tryz.f128,Tryz.func128,e5a⟩
 ·obtain rfl:=yA h;exact⟨e6V,Tryz.f129,Tryz.func129,e3O⟩
 ·obtain rfl:=yA h;exact⟨e4G,Tryz.f130,Tryz.func130,e4u⟩
 ·obtain rfl:=yA h;exact⟨e5B,Tryz.f131,Tryz.func131,e5K⟩
 ·obtain rfl:=yA h;exact⟨e4Y,Tryz.f132,Tryz.func132,e7z⟩
 ·obtain rfl:=yA h;exact⟨e7o,Tryz.f133,Tryz.func133,e3u⟩
 ·obtain rfl:=yA h;exact⟨e5H,Tryz.f134,Tryz.func134,e4V⟩
 ·obtain rfl:=yA h;exact⟨e5i,Tryz.f135,Tryz.func135,e5X⟩
 ·obtain rfl:=yA h;exact⟨e6k,Tryz.f136,Tryz.func136,e3l⟩
 ·obtain rfl:=yA h;exact⟨e3T,Tryz.f137,Tryz.func137,e4L⟩
 ·obtain rfl:=yA h;exact⟨e7d,Tryz.f138,Tryz.func138,e6q⟩
 ·obtain rfl:=yA h;exact⟨e4z,Tryz.f139,Tryz.func139,e7k⟩
 ·obtain rfl:=yA h;exact⟨e4h,Tryz.f140,Tryz.func140,e2O⟩
 ·obtain rfl:=yA h;exact⟨e6N,Tryz.f141,Tryz.func141,e2Y⟩
 ·obtain rfl:=yA h;exact⟨e3o,Tryz.f142,Tryz.func142,e3M⟩
 ·obtain rfl:=yA h;exact⟨e7i,Tryz.f144,Tryz.func144,e2Q⟩
 ·obtain rfl:=yA h;exact⟨e3m,Tryz.f145,Tryz.func145,e3L⟩
 ·obtain rfl:=yA h;exact⟨e6h,Tryz.f147,Tryz.func147,e5d⟩
 ·obtain rfl:=yA h;exact⟨e6S,Tryz.f148,Tryz.func148,e4w⟩
 ·obtain rfl:=yA h;exact⟨e7a,Tryz.f149,Tryz.func149,e3X⟩
 ·obtain rfl:=yA h;exact⟨e5o,Tryz.f150,Tryz.func150,e5Z⟩
 ·obtain rfl:=yA h;exact⟨e4y,Tryz.f151,Tryz.func151,e3B⟩
 ·obtain rfl:=yA h;exact⟨e6X,Tryz.f152,Tryz.func152,e3R⟩
 ·obtain rfl:=yA h;exact⟨e6F,Tryz.f153,Tryz.func153,e5y⟩
 ·obtain rfl:=yA h;exact⟨e4T,Tryz.f154,Tryz.func154,e4p⟩
 ·obtain rfl:=yA h;exact⟨e4Z,Tryz.f155,Tryz.func155,e5s⟩
 ·obtain rfl:=yA h;exact⟨e5b,Tryz.f156,Tryz.func156,e2S⟩
 ·obtain rfl:=yA h;exact⟨e5j,Tryz.f157,Tryz.func157,e6K⟩
 ·obtain rfl:=yA h;exact⟨e3F,Tryz.f158,Tryz.func158,e7s⟩
 ·obtain rfl:=yA h;exact⟨e3W,Tryz.f159,Tryz.func159,e6g⟩
 ·obtain rfl:=yA h;exact⟨e5M,Tryz.f160,Tryz.func160,e7t⟩
 ·obtain rfl:=yA h;exact⟨e5z,Tryz.f161,Tryz.func161,e4H⟩
 ·obtain rfl:=yA h;exact⟨e6R,Tryz.f162,Tryz.func162,e3k⟩
 ·obtain rfl:=yA h;exact⟨e4J,Tryz.f163,Tryz.func163,e5m⟩
 ·obtain rfl:=yA h;exact⟨e3h,Tryz.f165,Tryz.func165,e3d⟩
 ·obtain rfl:=yA h;exact⟨e6b,Tryz.f166,Tryz.func166,e2P⟩
 ·obtain rfl:=yA h;exact⟨e5w,Tryz.f167,Tryz.func167,e4c⟩
 ·obtain rfl:=yA h;exact⟨e3y,Tryz.f168,Tryz.func168,e4s⟩
 ·obtain rfl:=yA h;exact⟨e3v,Tryz.f169,Tryz.func169,e6f⟩
 ·obtain rfl:=yA h;exact⟨e3S,Tryz.f170,Tryz.func170,e5N⟩
 ·obtain rfl:=yA h;exact⟨e5n,Tryz.f171,Tryz.func171,e4i⟩
 ·obtain rfl:=yA h;exact⟨e4F,Tryz.f172,Tryz.func172,e6o⟩
 ·obtain rfl:=yA h;exact⟨e3Y,Tryz.f173,Tryz.func173,e6d⟩
 ·obtain rfl:=yA h;exact⟨e4e,Tryz.f174,Tryz.func174,e5I⟩
 ·obtain rfl:=yA h;exact⟨e4E,Tryz.f175,Tryz.func175,e5q⟩
 ·obtain rfl:=yA h;exact⟨e5f,Tryz.f176,Tryz.func176,e3j⟩
 ·obtain rfl:=yA h;exact⟨e7m,Tryz.f177,Tryz.func177,e3K⟩
 ·obtain rfl:=yA h;exact⟨e4j,Tryz.f178,Tryz.func178,e5v⟩
 ·obtain rfl:=yA h;exact⟨e6a,Tryz.f179,Tryz.func179,e4a⟩
 ·obtain rfl:=yA h;exact⟨e5O,Tryz.f180,Tryz.func180,e6p⟩
 ·obtain rfl:=yA h;exact⟨e5r,Tryz.f181,Tryz.func181,e3r⟩
 ·obtain rfl:=yA h;exact⟨e3b,Tryz.f182,Tryz.func182,e4q⟩
 ·obtain rfl:=yA h;exact⟨e3f,Tryz.f183,Tryz.func183,e6B⟩
 ·obtain rfl:=yA h;exact⟨e4M,Tryz.f184,Tryz.func184,e6Y⟩
 ·obtain rfl:=yA h;exact⟨e5C,Tryz.f185,Tryz.func185,e4o⟩
 ·obtain rfl:=yA h;exact⟨e3G,Tryz.f186,Tryz.func186,e6Z⟩
 ·obtain rfl:=yA h;exact⟨e3J,Tryz.f187,Tryz.func187,e6T⟩
 ·obtain rfl:=yA h;exact⟨e6E,Tryz.f188,Tryz.func188,e5Q⟩
 ·obtain rfl:=yA h;exact⟨e7y,Tryz.f189,Tryz.func189,e6z⟩
 ·obtain rfl:=yA h;exact⟨e4v,Tryz.f190,Tryz.func190,e5x⟩
 ·cases h
theorem a3e(n:Int):IntKind.u64.wrap n=n % 18446744073709551616:=by simp[IntKind.wrap,IntKind.bits,IntKind.signed]
theorem e8M(n:Int):IntKind.u32.wrap n=n % 4294967296:=by simp[IntKind.wrap,IntKind.bits,IntKind.signed]
theorem wu8(n:Int):IntKind.u8.wrap n=n % 256:=by simp[IntKind.wrap,IntKind.bits,IntKind.signed]
theorem Q4(n:Int):IntKind.i64.wrap n=(n+9223372036854775808) % 18446744073709551616-9223372036854775808:=by
 show(if(true && decide (n % 18446744073709551616>=9223372036854775808))=true then n % 18446744073709551616-18446744073709551616 else n % 18446744073709551616)=_
 simp only[Bool.true_and,decide_eq_true_eq]
 split<;>omega
def C0(n:Int):Prop:= -9223372036854775808<=n/\n<=9223372036854775807
def U64(n:Int):Prop:=0<=n/\n<=18446744073709551615
instance (n:Int):Decidable (C0 n):=by unfold C0;infer_instance
instance (n:Int):Decidable (U64 n):=by unfold U64;infer_instance
theorem e2F{a:Int}(h:(Lit.int .i64 a).wf=true):C0 a:=by
 simp only[Lit.wf,IntKind.min,IntKind.max,IntKind.signed,IntKind.bits,Bool.and_eq_true,decide_eq_true_eq]at h
 simp at h
 unfold C0;omega
theorem b4c(k:IntKind)(i:Nat)(hi:i<=k.bits)(hk:∀n:Int,0<=n->n<2 ^ i->k.wrap n=n)(x:Int):
  k.wrap ((BitVec.ofInt k.bits x &&& BitVec.ofInt k.bits (2 ^ i-1)).toNat:Int)=x % 2 ^ i:=by
 have hp:(2:Nat) ^ i<=2 ^ k.bits:=Nat.pow_le_pow_right (by decide) hi
 have hpos:0<2 ^ i:=Nat.two_pow_pos i
 have hc:((2:Int) ^ i-1)=((2 ^ i-1:Nat):Int):=by rw[Int.natCast_sub hpos];simp
 rw[hc]
 simp only[BitVec.ofInt_natCast,BitVec.toNat_and,BitVec.toNat_ofNat,BitVec.toNat_ofInt]
 rw[Nat.mod_eq_of_lt (a:=2 ^ i-1) (by omega),Nat.and_two_pow_sub_one_eq_mod]
 have e:(((x % ((2 ^ k.bits:Nat):Int)).toNat % 2 ^ i:Nat):Int)=x % 2 ^ i:=by
  have hb:(0:Int)<((2 ^ k.bits:Nat):Int):=by exact_mod_cast Nat.two_pow_pos k.bits
  have h0:0<=x % ((2 ^ k.bits:Nat):Int):=Int.emod_nonneg _ (by omega)
  rw[Int.natCast_emod,Int.toNat_of_nonneg h0]
  have hd:((2 ^ i:Nat):Int) ∣ ((2 ^ k.bits:Nat):Int):=by
   exact_mod_cast Nat.pow_dvd_pow 2 hi
  rw[Int.emod_emod_of_dvd _ hd]
  simp
 rw[e]
 have h2:(0:Int)<2 ^ i:=by exact_mod_cast hpos
 exact hk _ (Int.emod_nonneg _ (by omega)) (Int.emod_lt_of_pos _ h2)
theorem b1e(i:Nat)(hi:i<=64):∀n:Int,0<=n->n<2 ^ i->IntKind.u64.wrap n=n:=fun n h0 h1=>by
 have:(2:Nat) ^ i<=2 ^ 64:=Nat.pow_le_pow_right (by decide) hi
 have h2:(2:Int) ^ i<=2 ^ 64:=by exact_mod_cast this
 rw[a3e];omega
theorem d9G(i:Nat)(hi:i<=63):∀n:Int,0<=n->n<2 ^ i->IntKind.i64.wrap n=n:=fun n h0 h1=>by
 have:(2:Nat) ^ i<=2 ^ 63:=Nat.pow_le_pow_right (by decide) hi
 have h2:(2:Int) ^ i<=2 ^ 63:=by exact_mod_cast this
 rw[Q4];omega
theorem a2e(i:Nat)(hi:i<=64)(x m:Int)(hm:m=2 ^ i-1):IntKind.u64.wrap ((BitVec.ofInt IntKind.u64.bits x &&& BitVec.ofInt IntKind.u64.bits m).toNat:Int)=x % 2 ^ i:=by
 rw[hm];exact b4c .u64 i hi (b1e i hi) x
theorem U4(i:Nat)(hi:i<=63)(x m:Int)(hm:m=2 ^ i-1):IntKind.i64.wrap ((BitVec.ofInt IntKind.i64.bits x &&& BitVec.ofInt IntKind.i64.bits m).toNat:Int)=x % 2 ^ i:=by
 rw[hm];exact b4c .i64 i (by show i<=64;omega) (d9G i hi) x
theorem a2v(k:IntKind)(x:Int)(n:Nat)(h:n<=k.bits):x.fdiv (2 ^ (min n k.bits))=x / 2 ^ n:=by
 rw[Nat.min_eq_left h,Int.fdiv_eq_ediv_of_nonneg _ (by exact_mod_cast Nat.zero_le _)]
theorem b3p(k:IntKind)(x:Int)(n:Nat)(h:n<=k.bits):x*2 ^ (min n k.bits)=x*2 ^ n:=by
 rw[Nat.min_eq_left h]
theorem I7(a b:Int)(h:0<=a):Int.tmod a b=a % b:=Int.tmod_eq_emod_of_nonneg h
theorem a2h(a b:Int)(h:0<=a):Int.tdiv a b=a / b:=Int.tdiv_eq_ediv_of_nonneg h
theorem e1Q(a1 a0 b1 b0 p00 p01 p10 p11:Int)(h00:p00=a0*b0)(h01:p01=a0*b1)(h10:p10=a1*b0)(h11:p11=a1*b1):
  (a1*4294967296+a0)*(b1*4294967296+b0)=p11*18446744073709551616+(p10+p01)*4294967296+p00:=by
 subst h00 h01 h10 h11
 simp only[Int.add_mul,Int.mul_add]
 have e1:a1*4294967296*(b1*4294967296)=a1*b1*18446744073709551616:=by
  rw[Int.mul_assoc,Int.mul_left_comm 4294967296 b1,<-Int.mul_assoc];rfl
 have e2:a0*(b1*4294967296)=a0*b1*4294967296:=(Int.mul_assoc ..).symm
 have e3:a1*4294967296*b0=a1*b0*4294967296:=by rw[Int.mul_assoc,Int.mul_comm 4294967296 b0,<-Int.mul_assoc]
 rw[e1,e2,e3]
 omega
theorem W0(x y m:Int)(hx0:0<=x)(hx:x<=m)(hy0:0<=y)(hy:y<=m):0<=x*y/\x*y<=m*m:=
 ⟨yO hx0 hy0,Int.mul_le_mul hx hy hy0 (by omega)⟩
theorem e3C(a b p00 p01 p10 p11:Int)(ha0:0<=a)(ha:a<18446744073709551616)(hb0:0<=b)(hb:b<18446744073709551616)
  (h00:p00=(a % 4294967296)*(b % 4294967296)) (h01:p01=(a % 4294967296)*(b / 4294967296)) (h10:p10=(a / 4294967296)*(b % 4294967296)) (h11:p11=(a / 4294967296)*(b / 4294967296)):
  a*b=p11*18446744073709551616+(p10+p01)*4294967296+p00/\(0<=p00/\p00<=18446744065119617025)/\(0<=p01/\p01<=18446744065119617025)/\(0<=p10/\p10<=18446744065119617025)/\0<=p11/\p11<=18446744065119617025:=by
 have e:=e1Q (a / 4294967296) (a % 4294967296) (b / 4294967296) (b % 4294967296) p00 p01 p10 p11 h00 h01 h10 h11
 have ea:a / 4294967296*4294967296+a % 4294967296=a:=by omega
 have eb:b / 4294967296*4294967296+b % 4294967296=b:=by omega
 rw[ea,eb]at e
 refine⟨e,?_,?_,?_,?_⟩
 ·rw[h00];exact W0 _ _ 4294967295 (by omega) (by omega) (by omega) (by omega)
 ·rw[h01];exact W0 _ _ 4294967295 (by omega) (by omega) (by omega) (by omega)
 ·rw[h10];exact W0 _ _ 4294967295 (by omega) (by omega) (by omega) (by omega)
 ·rw[h11];exact W0 _ _ 4294967295 (by omega) (by omega) (by omega) (by omega)
theorem d0c(a b:Int)(ha:U64 a)(hb:U64 b):
  (a / 4294967296*(b / 4294967296) % 18446744073709551616+(a / 4294967296*(b % 4294967296) % 18446744073709551616+a % 4294967296*(b % 4294967296) % 18446744073709551616 / 4294967296) % 18446744073709551616 / 4294967296) % 18446744073709551616+
   ((a / 4294967296*(b % 4294967296) % 18446744073709551616+a % 4294967296*(b % 4294967296) % 18446744073709551616 / 4294967296) % 18446744073709551616 % 4294967296+a % 4294967296*(b / 4294967296) % 18446744073709551616) % 18446744073709551616 / 4294967296=a*b / 18446744073709551616:=by
 unfold U64 at ha hb
 obtain⟨e,h0,h1,h2,h3⟩:=e3C a b _ _ _ _ ha.1 (by omega) hb.1 (by omega) rfl rfl rfl rfl
 generalize a % 4294967296*(b % 4294967296)=p00 at*
 generalize a % 4294967296*(b / 4294967296)=p01 at*
 generalize a / 4294967296*(b % 4294967296)=p10 at*
 generalize a / 4294967296*(b / 4294967296)=p11 at*
 rw[e]
 omega
end Go.Proofs.YtlakhgibjfmjjaaGreat.Can
