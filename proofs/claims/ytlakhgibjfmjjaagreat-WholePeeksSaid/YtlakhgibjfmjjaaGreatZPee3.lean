/- Part 3 of 6 of the proof of the row RowWholePeeks: whatever the input, the law returns true. No condition. -/
import Derived.Test.YtlakhgibjfmjjaaGreatZPee2
import Derived.KernelRfl
import Derived.RowKit
import Derived.Test.YtlakhgibjfmjjaaGreatProg
set_option linter.unusedSimpArgs false
set_option linter.unusedVariables false
set_option linter.defProp false
set_option maxHeartbeats 4000000
open Nat renaming reduceEqDiff → zA, reduceAdd → zB, reduceMul → zC, reduceSub → zD, reduceLT → zE, reduceLeDiff → zF, reduceBEq → zG, zero_le → vJz
open Int renaming reduceLT → zH, reduceLE → zI, reduceToNat → zJ, reduceAdd → zK, reduceSub → zL, reduceMul → zM, mul_nonneg → uzO, mul_le_mul → vHz
open Option renaming some.inj → uzA
open Bool renaming and_eq_true → vjz
namespace Go.Proofs.YtlakhgibjfmjjaaGreat.Can
open Go
open Reg renaming op->xA,opg->xB,done->xC,snap->xD,chk->xE
open COp renaming load->wA,mv->wB,fieldAddr->wC,call->wD,bin->wE,store->wF,extract->wG,alloc->wH,indexSl->wI,nilCheck->wJ,pick->wK,lenSl->wL,build->wM,box->wN,conv->wO,un->wP
open CC renaming seq->xF,region->xG
section
variable (e:a7)
def d0s:ByteArray:=⟨#[0,1,2,2,3,3,3,3,4,4,4,4,4,4,4,4,5,5,5,5,5,5,5,5,5,5,5,5,5,5,5,5,6,6,6,6,6,6,6,6,6,6,6,6,6,6,6,6,6,6,6,6,6,6,6,6,6,6,6,6,6,6,6,6,7,7,7,7,7,7,7,7,7,7,7,7,7,7,7,7,7,7,7,7,7,7,7,7,7,7,7,7,7,7,7,7,7,7,7,7,7,7,7,7,7,7,7,7,7,7,7,7,7,7,7,7,7,7,7,7,7,7,7,7,7,7,7,7,8,8,8,8,8,8,8,8,8,8,8,8,8,8,8,8,8,8,8,8,8,8,8,8,8,8,8,8,8,8,8,8,8,8,8,8,8,8,8,8,8,8,8,8,8,8,8,8,8,8,8,8,8,8,8,8,8,8,8,8,8,8,8,8,8,8,8,8,8,8,8,8,8,8,8,8,8,8,8,8,8,8,8,8,8,8,8,8,8,8,8,8,8,8,8,8,8,8,8,8,8,8,8,8,8,8,8,8,8,8,8,8,8,8,8,8,8,8,8,8,8,8,8,8,8,8,8,8]⟩
def e5c:Reg:=xA (wB (.bool false)) fun a=>xC (e.upd 6 a)
def e5d:Reg:=xA (wD 11 []) fun a=>xA (wP .not a) fun b=>xC (e.upd 26 b)
def e5e:Reg:=xA (wB (.bool false)) fun a=>xC (e.upd 6 a)
def e5f:Reg:=xA (wB (e 1)) fun a=>xA (wL a) fun b=>xA (wE .gtr b (.int .i64 50)) fun c=>xA (wB c) fun d=>xB d false (wB (e 2)) fun f=>xB d false (wD 12 [f]) fun g=>xB d false (wP .not g) fun i=>xA (wK d (.bool true) i) fun j=>xC (e.upd 34 j)
def e5g:Reg:=xA (wB (.bool true)) fun a=>xC (e.upd 6 a)
def e5h:Reg:=xA (wB (e 0)) fun a=>xA (wD 13 [a,.int .i64 0]) fun b=>xA (wH 30 [.int .i64 0,.int .i64 0,.int .i64 0,.slice none 0 0]) fun c=>xA (wF 4 c b) fun _=>xC (e.upd 7 c)
def e5i:Reg:=xA (wA (some 4) (e 7)) fun a=>xA (wB (e 1)) fun b=>xA (wD 14 [a,b]) fun c=>xA (wB c) fun d=>xA (wG d 0) fun f=>xA (wG d 1) fun g=>xA (wB f) fun i=>xA (wB g) fun j=>xC ((e.upd 8 i).upd 9 j)
def e5j:Reg:=xA (wA (some 4) (e 7)) fun a=>xA (wB (e 1)) fun b=>xA (wD 14 [a,b]) fun c=>xA (wB c) fun d=>xA (wG d 0) fun f=>xA (wG d 1) fun g=>xA (wB f) fun i=>xA (wB g) fun j=>xC ((e.upd 10 i).upd 11 j)
def e5k:Reg:=xA (wB (e 8)) fun a=>xA (wB (e 10)) fun b=>xA (.buildSlice 35 2 [.pointer none] [(0,1,a),(1,1,b)]) fun c=>xA (wL c) fun d=>xA (wB (.int .i64 0)) fun f=>xC (((e.upd 51 c).upd 52 d).upd 53 f)
def e5l:Reg:=xA (wE .lss (e 53) (e 52)) fun a=>xC (e.upd 54 a)
def e3J:Reg:=xA (wI 1 (e 51) (e 53)) fun a=>xA (wA none a) fun b=>xA (wB b) fun c=>xC (e.upd 13 c)
def e3K:Reg:=xA (wB (e 13)) fun a=>xA (wM [.int .i64 0,.int .i64 0,.int .i64 0,.slice none 0 0,.int .i64 0,.slice none 0 0] [(0,1,(.int .i64 0))]) fun b=>xA (wD 15 [a,b]) fun c=>xC e
def e3L:Reg:=xA (wB (e 13)) fun a=>xA (wM [.int .i64 0,.int .i64 0,.int .i64 0,.slice none 0 0,.int .i64 0,.slice none 0 0] [(0,1,(.int .i64 0)),(2,1,(.int .i64 1))]) fun b=>xA (wD 15 [a,b]) fun c=>xC e
def e3M:Reg:=xA (wE .add (e 53) (.int .i64 1)) fun a=>xA (wB a) fun b=>xC (e.upd 53 b)
def e4Z:CC:=(xF (xG e5l) (xF (.cond (fun e=>e 54) .skip (.exit 0)) (xF (.block 1 (xF (xG e3J) (xF (xG e3K) (xG e3L)))) (xG e3M))))
def e3N:Reg:=xA (wB (.int .i64 0)) fun a=>xC (e.upd 14 a)
def e3O:Reg:=xA (wB (e 2)) fun a=>xA (wL a) fun b=>xA (wB (.int .i64 0)) fun c=>xC (((e.upd 64 a).upd 65 b).upd 66 c)
def e3P:Reg:=xA (wE .lss (e 66) (e 65)) fun a=>xC (e.upd 67 a)
def e3Q:Reg:=xA (wB (e 66)) fun a=>xA (wI 4 (e 64) (e 66)) fun b=>xA (wA (some 4) b) fun c=>xA (wH 48 [.int .i64 0,.int .i64 0,.string ⟨#[]⟩,.bool false]) fun d=>xA (wB a) fun f=>xA (wF 4 d c) fun _=>xC ((e.upd 16 d).upd 15 f)
def e3R:Reg:=xA (wB (e 14)) fun a=>xA (wC 0 (e 16)) fun b=>xA (wA none b) fun c=>xA (wD 16 [c]) fun d=>xA (wE .add a d) fun f=>xA (wB f) fun g=>xC (e.upd 14 g)
def e3S:Reg:=xA (wB (e 15)) fun a=>xA (wC 3 (e 7)) fun b=>xA (wA none b) fun c=>xA (wL c) fun d=>xA (wE .rem a d) fun f=>xA (wB f) fun g=>xC (e.upd 17 g)
def e3T:Reg:=xA (wB (e 17)) fun a=>xA (wC 1 (e 16)) fun b=>xA (wA none b) fun c=>xA (wE .and c (.int .i64 63)) fun d=>xA (wO .u32 d) fun f=>xA (wC 2 (e 16)) fun g=>xA (wA none g) fun i=>xA (wM [.int .i64 0,.int .i64 0,.int .u32 0,.string ⟨#[]⟩,.int .i64 0] [(0,1,(.int .i64 1)),(1,1,a),(2,1,f),(3,1,i)]) fun j=>xA (wD 20 [j]) fun k=>xA (wB k) fun m=>xC (e.upd 18 m)
def e3U:Reg:=xA (wB (.int .i64 2)) fun a=>xC (e.upd 19 a)
def e3V:Reg:=xA (wB (e 19)) fun a=>xA (wE .leq a (.int .i64 4)) fun b=>xC (e.upd 91 b)
def e3X:Reg:=xA (wB (e 19)) fun a=>xA (wB (e 17)) fun b=>xA (wM [.int .i64 0,.int .i64 0,.int .u32 0,.string ⟨#[]⟩,.int .i64 0] [(0,1,a),(1,1,b)]) fun c=>xA (wH 61 [.int .i64 0,.int .i64 0,.int .u32 0,.string ⟨#[]⟩,.int .i64 0]) fun d=>xA (wF 5 d c) fun _=>xC (e.upd 20 d)
def e3Y:Reg:=xA (wB (e 19)) fun a=>xA (wE .eql a (.int .i64 2)) fun b=>xC (e.upd 98 b)
def e3Z:Reg:=xA (wC 2 (e 16)) fun a=>xA (wA none a) fun b=>xA (wC 2 (e 20)) fun c=>xD fun h3=>xA (wF 1 c (.int .u32 1)) fun _=>xE none none (wA none a) b<|xA (wC 3 (e 20)) fun d=>xD fun h5=>xA (wF 1 d b) fun _=>xC e
def e4a:Reg:=xA (wB (e 10)) fun a=>xA (wB (e 14)) fun b=>xA (wA (some 5) (e 20)) fun c=>xA (wD 20 [c]) fun d=>xA (wM [.int .i64 0,.int .i64 0,.int .i64 0,.slice none 0 0,.int .i64 0,.slice none 0 0] [(0,1,(.int .i64 2)),(2,1,(.int .i64 1)),(1,1,b),(3,1,d)]) fun f=>xA (wD 15 [a,f]) fun g=>xC e
def e4b:Reg:=xA (wB (e 10)) fun a=>xA (wB (e 14)) fun b=>xA (wM [.int .i64 0,.int .i64 0,.int .i64 0,.slice none 0 0,.int .i64 0,.slice none 0 0] [(0,1,(.int .i64 3)),(2,1,(.int .i64 1)),(1,1,b),(4,1,(.int .i64 65536))]) fun c=>xA (wD 15 [a,c]) fun d=>xC e
def e3W:Reg:=xA (wB (e 19)) fun a=>xA (wE .add a (.int .i64 1)) fun b=>xA (wB b) fun c=>xC (e.upd 19 c)
def e5a:CC:=(xF (xF (xG e3V) (.cond (fun e=>e 91) .skip (.exit 4))) (xF (.block 5 (xF (xG e3X) (xF (xF (xG e3Y) (.cond (fun e=>e 98) (xG e3Z) .skip)) (xF (xG e4a) (xG e4b))))) (xG e3W)))
def e4c:Reg:=xA (wB (e 8)) fun a=>xA (wB (e 14)) fun b=>xA (wB (e 18)) fun c=>xA (wM [.int .i64 0,.int .i64 0,.int .i64 0,.slice none 0 0,.int .i64 0,.slice none 0 0] [(0,1,(.int .i64 2)),(1,1,b),(3,1,c)]) fun d=>xA (wD 15 [a,d]) fun f=>xA (wB (e 10)) fun g=>xA (wB (e 14)) fun i=>xA (wB (e 18)) fun j=>xA (wM [.int .i64 0,.int .i64 0,.int .i64 0,.slice none 0 0,.int .i64 0,.slice none 0 0] [(0,1,(.int .i64 2)),(1,1,i),(3,1,j)]) fun k=>xA (wD 15 [g,k]) fun m=>xA (wH 42 [.int .i64 0,.int .i64 0,.slice none 0 0,.slice none 0 0]) fun n=>xA (wH 42 [.int .i64 0,.int .i64 0,.slice none 0 0,.slice none 0 0]) fun o=>xA (wF 4 n f) fun _=>xA (wF 4 o m) fun _=>xC ((e.upd 21 n).upd 22 o)
def e4d:Reg:=xA (wB (e 8)) fun a=>xA (wB (e 14)) fun b=>xA (wM [.int .i64 0,.int .i64 0,.int .i64 0,.slice none 0 0,.int .i64 0,.slice none 0 0] [(0,1,(.int .i64 3)),(1,1,b),(4,1,(.int .i64 99))]) fun c=>xA (wD 15 [a,c]) fun d=>xA (wB (e 10)) fun f=>xA (wB (e 14)) fun g=>xA (wM [.int .i64 0,.int .i64 0,.int .i64 0,.slice none 0 0,.int .i64 0,.slice none 0 0] [(0,1,(.int .i64 3)),(1,1,g),(4,1,(.int .i64 99))]) fun i=>xA (wD 15 [f,i]) fun j=>xA (wH 42 [.int .i64 0,.int .i64 0,.slice none 0 0,.slice none 0 0]) fun k=>xA (wH 42 [.int .i64 0,.int .i64 0,.slice none 0 0,.slice none 0 0]) fun m=>xA (wF 4 k d) fun _=>xA (wF 4 m j) fun _=>xC ((e.upd 23 k).upd 24 m)
def e4e:Reg:=xA (wA (some 4) (e 21)) fun a=>xA (wA (some 4) (e 22)) fun b=>xA (wD 25 [a,b]) fun c=>xA (wP .not c) fun d=>xA (wB d) fun f=>xB f false (wA (some 4) (e 23)) fun g=>xB f false (wA (some 4) (e 24)) fun i=>xB f false (wD 25 [g,i]) fun j=>xB f false (wP .not j) fun k=>xA (wK f (.bool true) k) fun m=>xC (e.upd 140 m)
def e4f:Reg:=xA (wB (.bool false)) fun a=>xC (e.upd 6 a)
def e4g:Reg:=xA (wE .add (e 66) (.int .i64 1)) fun a=>xA (wB a) fun b=>xC (e.upd 66 b)
def e5b:CC:=(xF (xG e3P) (xF (.cond (fun e=>e 67) .skip (.exit 2)) (xF (.block 3 (xF (xG e3Q) (xF (xG e3R) (xF (xG e3S) (xF (xG e3T) (xF (xF (xG e3U) (.block 4 (.loop e5a))) (xF (xG e4c) (xF (xG e4d) (xF (xG e4e) (.cond (fun e=>e 140) (xF (xG e4f) .ret) .skip)))))))))) (xG e4g))))
def e4h:Reg:=xA (wB (.bool true)) fun a=>xC (e.upd 6 a)
def c6:CFn:=⟨(xF (xG e5c) (xF (xF (xG e5d) (.cond (fun e=>e 26) (xF (xG e5e) .ret) .skip)) (xF (xF (xG e5f) (.cond (fun e=>e 34) (xF (xG e5g) .ret) .skip)) (xF (xG e5h) (xF (xG e5i) (xF (xG e5j) (xF (xF (xG e5k) (.block 0 (.loop e4Z))) (xF (xG e3N) (xF (xF (xG e3O) (.block 2 (.loop e5b))) (xF (xG e4h) .ret)))))))))),[.t 6]⟩
def p6:Pers:=⟨25,[26,34,51,52,53,54,64,65,66,67,91,98,140],142,[]⟩
def e3c:Reg:=xA (wB (.bool false)) fun a=>xC (e.upd 0 a)
def e3d:Reg:=xA (wM [.int .i64 0,.int .i64 0,.int .i64 0,.int .i64 0,.int .i64 0,.int .i64 0,.int .i64 0,.int .i64 0,.bool false] []) fun a=>xA (.buildSlice 23 1 [.int .i64 0,.int .i64 0,.int .i64 0,.int .i64 0,.int .i64 0,.int .i64 0,.int .i64 0,.int .i64 0,.bool false] [(0,9,a)]) fun b=>xA (wD 13 [b,.int .i64 0]) fun c=>xA (wD 14 [c,.slice none 0 0]) fun d=>xA (wB d) fun f=>xA (wG f 0) fun g=>xA (wG f 1) fun i=>xA (wB g) fun j=>xA (wB i) fun k=>xC ((e.upd 1 j).upd 2 k)
def e3e:Reg:=xA (wB (e 2)) fun a=>xA (wE .neq a (.int .i64 0)) fun b=>xA (wB b) fun c=>xB c false (wB (e 1)) fun d=>xB c false (.eqK .ptr false d (.pointer none)) fun f=>xA (wK c (.bool true) f) fun g=>xC (e.upd 20 g)
def e3f:Reg:=xA (wB (.bool false)) fun a=>xC (e.upd 0 a)
def e3g:Reg:=xA (wB (e 1)) fun a=>xA (wM [.int .i64 0,.int .i64 0,.int .i64 0,.slice none 0 0,.int .i64 0,.slice none 0 0] [(0,1,(.int .i64 0))]) fun b=>xA (wD 15 [a,b]) fun c=>xC e
def e3h:Reg:=xA (wB (e 1)) fun a=>xA (wM [.int .i64 0,.int .i64 0,.int .u32 0,.string ⟨#[]⟩,.int .i64 0] [(0,1,(.int .i64 1)),(2,1,(.int .u32 1)),(3,1,(.string ⟨#[97]⟩))]) fun b=>xA (wD 20 [b]) fun c=>xA (wM [.int .i64 0,.int .i64 0,.int .i64 0,.slice none 0 0,.int .i64 0,.slice none 0 0] [(0,1,(.int .i64 2)),(1,1,(.int .i64 5)),(3,1,c)]) fun d=>xA (wD 15 [a,d]) fun f=>xA (wH 42 [.int .i64 0,.int .i64 0,.slice none 0 0,.slice none 0 0]) fun g=>xA (wF 4 g f) fun _=>xC (e.upd 3 g)
def e3i:Reg:=xA (wB (e 1)) fun a=>xA (wM [.int .i64 0,.int .i64 0,.int .i64 0,.slice none 0 0,.int .i64 0,.slice none 0 0] [(0,1,(.int .i64 3)),(1,1,(.int .i64 5)),(4,1,(.int .i64 99))]) fun b=>xA (wD 15 [a,b]) fun c=>xA (wH 42 [.int .i64 0,.int .i64 0,.slice none 0 0,.slice none 0 0]) fun d=>xA (wF 4 d c) fun _=>xC (e.upd 4 d)
def c7Y(a b c d:Value):Reg:=xA (wF 12 d a) fun _=>xA (wB b) fun f=>xA (wB c) fun g=>xC (((e.upd 5 d).upd 6 f).upd 7 g)
def e3j:Reg:=xA (wC 2 (e 4)) fun a=>xA (wA none a) fun b=>xA (wD 21 [b]) fun c=>xA (wB c) fun d=>xA (wG d 0) fun f=>xA (wG d 1) fun g=>xA (wG d 2) fun i=>xA (wH 66 [.int .i64 0,.int .i64 0,.int .i64 0,.int .i64 0,.int .i64 0,.int .i64 0,.int .i64 0,.int .i64 0,.int .i64 0,.int .i64 0,.slice none 0 0,.int .i64 0]) fun j=>c7Y e f g i j
def c8a(a:Value):Reg:=xA (wB a) fun b=>xB b true (wC 2 (e 5)) fun c=>xB b true (wC 0 c) fun d=>xB b true (wA none d) fun f=>xB b true (wE .eql f (.int .i64 1)) fun g=>xA (wK b g (.bool false)) fun i=>xA (wB i) fun j=>xC (e.upd 0 j)
def c7Z(a b:Value):Reg:=xA (wK a b (.bool false)) fun c=>xA (wB c) fun d=>xB d true (wB (e 7)) fun f=>xA (wK d f (.bool false)) fun g=>xA (wB g) fun i=>xB i true (wB (e 6)) fun j=>xB i true (wE .eql j (.int .i64 22)) fun k=>xA (wK i k (.bool false)) fun m=>c8a e m
def e3k:Reg:=xA (wC 1 (e 3)) fun a=>xA (wA none a) fun b=>xA (wE .eql b (.int .i64 12)) fun c=>xA (wB c) fun d=>xB d true (wC 3 (e 3)) fun f=>xB d true (wA none f) fun g=>xB d true (wL g) fun i=>xB d true (wE .eql i (.int .i64 1)) fun j=>c7Z e d j
def c11:CFn:=⟨(xF (xG e3c) (xF (xG e3d) (xF (xF (xG e3e) (.cond (fun e=>e 20) (xF (xG e3f) .ret) .skip)) (xF (xG e3g) (xF (xG e3h) (xF (xG e3i) (xF (xG e3j) (xF (xG e3k) .ret)))))))),[.t 0]⟩
def p11:Pers:=⟨8,[20],61,[]⟩
def d0B:Reg:=xA (wB (.bool false)) fun a=>xC (e.upd 2 a)
def d0C:Reg:=xA (wB (e 0)) fun a=>xA (wL a) fun b=>xA (wE .gtr b (.int .i64 150)) fun c=>xC (e.upd 7 c)
def d0D:Reg:=xA (wB (.bool false)) fun a=>xC (e.upd 2 a)
def d0E:Reg:=xA (wB (e 0)) fun a=>xA (wL a) fun b=>xA (wB (.int .i64 0)) fun c=>xC (((e.upd 8 a).upd 9 b).upd 10 c)
def d0F:Reg:=xA (wE .lss (e 10) (e 9)) fun a=>xC (e.upd 11 a)
def d0G:Reg:=xA (wI 4 (e 8) (e 10)) fun a=>xA (wA (some 4) a) fun b=>xA (wH 48 [.int .i64 0,.int .i64 0,.string ⟨#[]⟩,.bool false]) fun c=>xA (wF 4 c b) fun _=>xC (e.upd 4 c)
def d0H:Reg:=xA (wC 2 (e 4)) fun a=>xA (wA none a) fun b=>xA (.lenStr b) fun c=>xA (wE .gtr c (.int .i64 64)) fun d=>xC (e.upd 17 d)
def d0I:Reg:=xA (wB (.bool false)) fun a=>xC (e.upd 2 a)
def d0J:Reg:=xA (wE .add (e 10) (.int .i64 1)) fun a=>xA (wB a) fun b=>xC (e.upd 10 b)
def a5Y:CC:=(xF (xG d0F) (xF (.cond (fun e=>e 11) .skip (.exit 0)) (xF (.block 1 (xF (xG d0G) (xF (xG d0H) (.cond (fun e=>e 17) (xF (xG d0I) .ret) .skip)))) (xG d0J))))
def d0K:Reg:=xA (wB (.bool true)) fun a=>xC (e.upd 2 a)
def R12:=an (ro d0B.eq_1)<|an (ro d0C.eq_1)<|an (ro d0D.eq_1)<|an (ro d0E.eq_1)<|an (ro d0F.eq_1)<|an (ro d0G.eq_1)<|an (ro d0H.eq_1)<|an (ro d0I.eq_1)<|an (ro d0J.eq_1)<|ro d0K.eq_1
def c12:CFn:=⟨(xF (xG d0B) (xF (xF (xG d0C) (.cond (fun e=>e 7) (xF (xG d0D) .ret) .skip)) (xF (xF (xG d0E) (.block 0 (.loop a5Y))) (xF (xG d0K) .ret)))),[.t 2]⟩
def p12:Pers:=⟨5,[7,8,9,10,11,17],19,[]⟩
def d0M:Reg:=xA (wH 30 [.int .i64 0,.int .i64 0,.int .i64 0,.slice none 0 0]) fun a=>xC (e.upd 4 a)
def d0N:Reg:=xA (wB (e 1)) fun a=>xA (wE .and a (.int .i64 255)) fun b=>xA (wE .add (.int .i64 660) b) fun c=>xA (wM [.int .i64 0,.int .i64 0,.int .i64 0,.slice none 0 0] [(0,1,(.int .i64 4294967296)),(1,1,(.int .i64 3)),(2,1,c)]) fun d=>xA (wH 30 [.int .i64 0,.int .i64 0,.int .i64 0,.slice none 0 0]) fun f=>xA (wF 4 f d) fun _=>xC (e.upd 5 f)
def d0O:Reg:=xA (wB (e 0)) fun a=>xA (wL a) fun b=>xA (wB (.int .i64 0)) fun c=>xC (((e.upd 12 a).upd 13 b).upd 14 c)
def d0P:Reg:=xA (wE .lss (e 14) (e 13)) fun a=>xC (e.upd 15 a)
def d0Q:Reg:=xA (wB (e 14)) fun a=>xA (wI 9 (e 12) (e 14)) fun b=>xA (wA (some 9) b) fun c=>xA (wH 23 [.int .i64 0,.int .i64 0,.int .i64 0,.int .i64 0,.int .i64 0,.int .i64 0,.int .i64 0,.int .i64 0,.bool false]) fun d=>xA (wB a) fun f=>xA (wF 9 d c) fun _=>xC ((e.upd 7 d).upd 6 f)
def d0R:Reg:=xA (wB (e 6)) fun a=>xA (wE .lss a (.int .i64 3)) fun b=>xC (e.upd 20 b)
def a9h(a b:Value):Reg:=xA (.append 34 9 72 a b) fun c=>xA (wC 3 (e 5)) fun d=>xD fun h7=>xA (wF 1 d c) fun _=>xC e
def d0S:Reg:=xA (wC 3 (e 5)) fun a=>xA (wA none a) fun b=>xA (wA (some 9) (e 7)) fun c=>xD fun h3=>xA (wD 30 [c]) fun d=>xE none none (wA none a) b<|xA (.buildSlice 34 1 [.int .i64 0,.int .i64 0,.int .i64 0,.int .i64 0,.int .i64 0,.int .i64 0,.int .i64 0,.int .i64 0,.bool false] [(0,9,d)]) fun f=>xD fun h5=>a9h e b f
def d0T:Reg:=xA (wE .add (e 14) (.int .i64 1)) fun a=>xA (wB a) fun b=>xC (e.upd 14 b)
def a3u:CC:=(xF (xG d0P) (xF (.cond (fun e=>e 15) .skip (.exit 0)) (xF (.block 1 (xF (xG d0Q) (xF (xG d0R) (.cond (fun e=>e 20) (xG d0S) .skip)))) (xG d0T))))
def d0U:Reg:=xA (wC 3 (e 5)) fun a=>xA (wA none a) fun b=>xA (wL b) fun c=>xA (wE .eql c (.int .i64 0)) fun d=>xC (e.upd 32 d)
def a9i(a b:Value):Reg:=xA (.append 34 9 72 a b) fun c=>xA (wC 3 (e 5)) fun d=>xD fun h7=>xA (wF 1 d c) fun _=>xC e
def d0V:Reg:=xA (wC 3 (e 5)) fun a=>xA (wA none a) fun b=>xA (wM [.int .i64 0,.int .i64 0,.int .i64 0,.int .i64 0,.int .i64 0,.int .i64 0,.int .i64 0,.int .i64 0,.bool false] []) fun c=>xD fun h3=>xA (wD 30 [c]) fun d=>xE none none (wA none a) b<|xA (.buildSlice 34 1 [.int .i64 0,.int .i64 0,.int .i64 0,.int .i64 0,.int .i64 0,.int .i64 0,.int .i64 0,.int .i64 0,.bool false] [(0,9,d)]) fun f=>xD fun h5=>a9i e b f
def c0H:Reg:=xA (wA (some 4) (e 5)) fun a=>xA (wF 4 (e 4) a) fun _=>xC e
def R13:=an (ro d0M.eq_1)<|an (ro d0N.eq_1)<|an (ro d0O.eq_1)<|an (ro d0P.eq_1)<|an (ro d0Q.eq_1)<|an (ro d0R.eq_1)<|an (O5 a9h.eq_1)<|an (ro d0S.eq_1)<|an (ro d0T.eq_1)<|an (ro d0U.eq_1)<|an (O5 a9i.eq_1)<|an (ro d0V.eq_1)<|ro c0H.eq_1
def c13:CFn:=⟨(xF (xG d0M) (xF (xG d0N) (xF (xF (xG d0O) (.block 0 (.loop a3u))) (xF (xF (xG d0U) (.cond (fun e=>e 32) (xG d0V) .skip)) (xF (xG c0H) .ret))))),[.c 4 (some 4)]⟩
def p13:Pers:=⟨8,[12,13,14,15,20,32],41,[]⟩
def d0Z:Reg:=xA (wN 30 (e 0)) fun a=>xA (wB (.pointer none)) fun b=>xA (wB (.int .i64 0)) fun c=>xC (((e.upd 2 a).upd 4 b).upd 5 c)
def d1a:Reg:=xA (wA (some 4) (e 2)) fun a=>xA (wD 31 [a]) fun b=>xA (wP .not b) fun c=>xC (e.upd 9 c)
def d1b:Reg:=xA (wB (.pointer none)) fun a=>xA (wB (.int .i64 1)) fun b=>xC ((e.upd 4 a).upd 5 b)
def d1c:Reg:=xA (wA (some 4) (e 2)) fun a=>xA (wM [.int .i64 0,.int .i64 0,.bool false,.bool false,.int .i64 0,.int .i64 0,.int .i64 0,.slice none 0 0,.slice none 0 0,.slice none 0 0,.slice none 0 0] [(4,4,a)]) fun b=>xA (wN 93 b) fun c=>xA (wB c) fun d=>xC (e.upd 6 d)
def d1d:Reg:=xA (wB (e 6)) fun a=>xA (wC 3 (e 2)) fun b=>xA (wA none b) fun c=>xA (.append 34 9 72 (.slice none 0 0) c) fun d=>xA (wJ a) fun f=>xA (wC 4 f) fun g=>xA (wC 3 g) fun i=>xA (wF 1 i d) fun _=>xC e
def d1e:Reg:=xA (wB (e 6)) fun a=>xA (wB (e 1)) fun b=>xA (wD 32 [a,b]) fun c=>xC e
def d1f:Reg:=xA (wB (e 6)) fun a=>xA (wB a) fun b=>xA (wB (.int .i64 0)) fun c=>xC ((e.upd 4 b).upd 5 c)
def R14:=an (ro d0Z.eq_1)<|an (ro d1a.eq_1)<|an (ro d1b.eq_1)<|an (ro d1c.eq_1)<|an (ro d1d.eq_1)<|an (ro d1e.eq_1)<|ro d1f.eq_1
def c14:CFn:=⟨(xF (xG d0Z) (xF (xF (xG d1a) (.cond (fun e=>e 9) (xF (xG d1b) .ret) .skip)) (xF (xG d1c) (xF (xG d1d) (xF (xG d1e) (xF (xG d1f) .ret)))))),[.t 4,.t 5]⟩
def p14:Pers:=⟨7,[9],24,[]⟩
def d1i:Reg:=xA (wN 35 (e 0)) fun a=>xA (wN 45 (e 1)) fun b=>xA (wH 42 [.int .i64 0,.int .i64 0,.slice none 0 0,.slice none 0 0]) fun c=>xC (((e.upd 2 a).upd 3 b).upd 4 c)
def d1j:Reg:=xA (wA none (e 2)) fun a=>xA (.eqK .ptr false a (.pointer none)) fun b=>xC (e.upd 9 b)
def d1k:Reg:=xA (wM [.int .i64 0,.int .i64 0,.slice none 0 0,.slice none 0 0] [(0,1,(.int .i64 1))]) fun a=>xA (wF 4 (e 4) a) fun _=>xC e
def d1l:Reg:=xA (wC 0 (e 3)) fun a=>xA (wA none a) fun b=>xA (wE .eql b (.int .i64 4)) fun c=>xC (e.upd 13 c)
def d1m:Reg:=xA (wA none (e 2)) fun a=>xA (wJ a) fun b=>xA (wC 0 b) fun c=>xA (wD 33 [c]) fun d=>xC e
def d1n:Reg:=xA (wA none (e 2)) fun a=>xA (wJ a) fun b=>xA (wC 0 b) fun c=>xA (wC 1 (e 3)) fun d=>xA (wA none d) fun f=>xD fun h5=>xA (wD 34 [c,f]) fun g=>xC e
def d1o:Reg:=xA (wA none (e 2)) fun a=>xA (wC 5 (e 3)) fun b=>xA (wA none b) fun c=>xA (wD 32 [a,c]) fun d=>xC e
def d1p:Reg:=xA (wM [.int .i64 0,.int .i64 0,.slice none 0 0,.slice none 0 0] []) fun a=>xA (wF 4 (e 4) a) fun _=>xC e
def d1q:Reg:=xA (wA none (e 2)) fun a=>xA (wJ a) fun b=>xA (wC 0 b) fun c=>xA (wC 1 (e 3)) fun d=>xA (wA none d) fun f=>xD fun h5=>xA (wD 34 [c,f]) fun g=>xC e
def a9k(a b:Value):Reg:=xB a false (wA none (e 2)) fun c=>xB a false (wJ c) fun d=>xB a false (wC 8 d) fun f=>xB a false (wA none f) fun g=>xB a false (wL g) fun i=>xB a false (wE .geq b i) fun j=>xA (wK a (.bool true) j) fun k=>xC (e.upd 57 k)
def a9j(a:Value):Reg:=xA (wB a) fun b=>xB b false (wC 2 (e 3)) fun c=>xB b false (wA none c) fun d=>xB b false (wE .lss d (.int .i64 0)) fun f=>xA (wK b (.bool true) f) fun g=>xA (wB g) fun i=>xB i false (wC 2 (e 3)) fun j=>xB i false (wA none j) fun k=>a9k e i k
def d1r:Reg:=xA (wC 0 (e 3)) fun a=>xA (wA none a) fun b=>xA (wE .lss b (.int .i64 0)) fun c=>xA (wB c) fun d=>xB d false (wC 0 (e 3)) fun f=>xB d false (wA none f) fun g=>xB d false (wE .gtr g (.int .i64 4)) fun i=>xA (wK d (.bool true) i) fun j=>a9j e j
def c2K:Reg:=xA (wM [.int .i64 0,.int .i64 0,.slice none 0 0,.slice none 0 0] [(0,1,(.int .i64 1))]) fun a=>xA (wF 4 (e 4) a) fun _=>xC e
def a6M(a:Value):Reg:=xA (wM [.int .i64 0,.int .i64 0,.slice none 0 0,.slice none 0 0] []) fun b=>xA (wH 42 [.int .i64 0,.int .i64 0,.slice none 0 0,.slice none 0 0]) fun c=>xA (wB a) fun d=>xD fun h11=>xA (wF 4 c b) fun _=>xC ((e.upd 6 c).upd 5 d)
def c2L:Reg:=xA (wA none (e 2)) fun a=>xA (wJ a) fun b=>xA (wC 8 b) fun c=>xA (wA none c) fun d=>xA (wC 2 (e 3)) fun f=>xA (wA none f) fun g=>xA (wI 1 d g) fun i=>xA (wA none i) fun j=>a6M e j
def c2M:Reg:=xA (wB (.bool true)) fun a=>xC (e.upd 7 a)
def c2N:Reg:=xA (wC 0 (e 3)) fun a=>xA (wA none a) fun b=>xC (e.upd 70 b)
def c2R:Reg:=xA (wE .eql (e 70) (.int .i64 0)) fun a=>xA (wB a) fun b=>xC (e.upd 79 b)
def c2S:Reg:=xA (wB (e 5)) fun a=>xA (wD 36 [a]) fun b=>xA (wB b) fun c=>xC (e.upd 7 c)
def c2T:Reg:=xA (wE .eql (e 70) (.int .i64 1)) fun a=>xA (wB a) fun b=>xC (e.upd 83 b)
def c2U:Reg:=xA (wB (e 5)) fun a=>xA (wD 37 [a]) fun b=>xA (wB b) fun c=>xC (e.upd 7 c)
def c2V:Reg:=xA (wE .eql (e 70) (.int .i64 2)) fun a=>xA (wB a) fun b=>xC (e.upd 87 b)
def c2W:Reg:=xA (wB (e 5)) fun a=>xA (wD 38 [a]) fun b=>xA (wB b) fun c=>xC (e.upd 7 c)
def c2X:Reg:=xA (wB (e 7)) fun a=>xC (e.upd 91 a)
def c2Y:Reg:=xA (wB (e 5)) fun a=>xA (wC 3 (e 3)) fun b=>xA (wA none b) fun c=>xA (wA none (e 2)) fun d=>xA (wB (.iface 35 d)) fun f=>xA (wD 39 [a,c,f]) fun g=>xA (wC 1 (e 6)) fun i=>xA (wF 1 i g) fun _=>xC e
def c2O:Reg:=xA (wB (e 5)) fun a=>xA (wD 38 [a]) fun b=>xA (wB b) fun c=>xC (e.upd 7 c)
def c2P:Reg:=xA (wB (e 7)) fun a=>xC (e.upd 73 a)
def c2Q:Reg:=xA (wB (e 5)) fun a=>xA (wC 4 (e 3)) fun b=>xA (wA none b) fun c=>xA (wD 40 [a,c]) fun d=>xA (wC 2 (e 6)) fun f=>xA (wF 1 f d) fun _=>xC e
def c2Z:Reg:=xA (wB (e 7)) fun a=>xA (wP .not a) fun b=>xC (e.upd 100 b)
def c3a:Reg:=xA (wM [.int .i64 0,.int .i64 0,.slice none 0 0,.slice none 0 0] [(0,1,(.int .i64 11))]) fun a=>xA (wF 4 (e 4) a) fun _=>xC e
def c3b:Reg:=xA (wA none (e 2)) fun a=>xA (wJ a) fun b=>xA (wC 10 b) fun c=>xA (wA none c) fun d=>xA (wC 3 (e 6)) fun f=>xA (wF 1 f d) fun _=>xC e
def c3c:Reg:=xA (wA (some 4) (e 6)) fun a=>xA (wF 4 (e 4) a) fun _=>xC e
def R15:=an (ro d1i.eq_1)<|an (ro d1j.eq_1)<|an (ro d1k.eq_1)<|an (ro d1l.eq_1)<|an (ro d1m.eq_1)<|an (ro d1n.eq_1)<|an (ro d1o.eq_1)<|an (ro d1p.eq_1)<|an (ro d1q.eq_1)<|an (O5 a9k.eq_1)<|an (ro1 a9j.eq_1)<|an (ro d1r.eq_1)<|an (ro c2K.eq_1)<|an (ro1 a6M.eq_1)<|an (ro c2L.eq_1)<|an (ro c2M.eq_1)<|an (ro c2N.eq_1)<|an (ro c2R.eq_1)<|an (ro c2S.eq_1)<|an (ro c2T.eq_1)<|an (ro c2U.eq_1)<|an (ro c2V.eq_1)<|an (ro c2W.eq_1)<|an (ro c2X.eq_1)<|an (ro c2Y.eq_1)<|an (ro c2O.eq_1)<|an (ro c2P.eq_1)<|an (ro c2Q.eq_1)<|an (ro c2Z.eq_1)<|an (ro c3a.eq_1)<|an (ro c3b.eq_1)<|ro c3c.eq_1
def c15:CFn:=⟨(.dfr (xF (xG d1i) (xF (xF (xG d1j) (.cond (fun e=>e 9) (xF (xG d1k) .ret) .skip)) (xF (xF (xG d1l) (.cond (fun e=>e 13) (xF (xG d1m) (xF (xG d1n) (xF (xG d1o) (xF (xG d1p) .ret)))) .skip)) (xF (xG d1q) (xF (xF (xG d1r) (.cond (fun e=>e 57) (xF (xG c2K) .ret) .skip)) .skip))))) 35 (fun e=>[(e 2)]) (xF (xG c2L) (xF (xG c2M) (xF (xF (xG c2N) (.block 0 (xF (xG c2R) (.cond (fun e=>e 79) (xG c2S) (xF (xG c2T) (.cond (fun e=>e 83) (xG c2U) (xF (xG c2V) (.cond (fun e=>e 87) (xF (xG c2W) (xF (xG c2X) (.cond (fun e=>e 91) (xG c2Y) .skip))) (xF (xG c2O) (xF (xG c2P) (.cond (fun e=>e 73) (xG c2Q) .skip))))))))))) (xF (xF (xG c2Z) (.cond (fun e=>e 100) (xF (xG c3a) .ret) .skip)) (xF (xG c3b) (xF (xG c3c) .ret))))))),[.c 4 (some 4)]⟩
def p15:Pers:=⟨8,[9,13,57,70,73,79,83,87,91,100],108,[]⟩
def d1t:Reg:=xA (wB (.int .i64 0)) fun a=>xC (e.upd 2 a)
def d1u:Reg:=xA (wB (e 0)) fun a=>xA (wE .and a (.int .i64 1)) fun b=>xA (wE .eql b (.int .i64 1)) fun c=>xC (e.upd 5 c)
def d1v:Reg:=xA (wB (e 0)) fun a=>xA (wE .shr a (.int .u64 1)) fun b=>xA (wE .and b (.int .i64 1023)) fun c=>xA (wB c) fun d=>xC (e.upd 2 d)
def d1w:Reg:=xA (wB (e 0)) fun a=>xA (wE .shr a (.int .u64 1)) fun b=>xA (wE .and b (.int .i64 15)) fun c=>xA (wB c) fun d=>xC (e.upd 2 d)
def R16:=an (ro d1t.eq_1)<|an (ro d1u.eq_1)<|an (ro d1v.eq_1)<|ro d1w.eq_1
def c16:CFn:=⟨(xF (xG d1t) (xF (xF (xG d1u) (.cond (fun e=>e 5) (xF (xG d1v) .ret) .skip)) (xF (xG d1w) .ret))),[.t 2]⟩
def p16:Pers:=⟨3,[5],12,[]⟩
def d1A:Reg:=xA (wN 61 (e 0)) fun a=>xA (wB (.slice none 0 0)) fun b=>xC ((e.upd 1 a).upd 2 b)
def d1B:Reg:=xA (wC 0 (e 1)) fun a=>xA (wA none a) fun b=>xA (wO .u8 b) fun c=>xA (wC 1 (e 1)) fun d=>xA (wA none d) fun f=>xA (wO .u8 f) fun g=>xA (.buildSlice 5 2 [.int .u8 0] [(0,1,c),(1,1,g)]) fun i=>xA (wB i) fun j=>xC (e.upd 3 j)
def d1C:Reg:=xA (wC 0 (e 1)) fun a=>xA (wA none a) fun b=>xC (e.upd 12 b)
def d1D:Reg:=xA (wE .eql (e 12) (.int .i64 1)) fun a=>xA (wB a) fun b=>xC (e.upd 13 b)
def d1E:Reg:=xA (wE .eql (e 12) (.int .i64 2)) fun a=>xA (wB a) fun b=>xC (e.upd 15 b)
def d1F:Reg:=xA (wE .eql (e 12) (.int .i64 4)) fun a=>xA (wB a) fun b=>xC (e.upd 17 b)
def a9l(h4:Heap)(a b c:Value):Reg:=xE none (some h4) (wA none b) c<|xA (.lenStr c) fun d=>xA (wO .u8 d) fun f=>xA (.buildSlice 5 1 [.int .u8 0] [(0,1,f)]) fun g=>xD fun h10=>xA (.append 5 1 1 a g) fun i=>xA (wB i) fun j=>xC (e.upd 3 j)
def d1G:Reg:=xA (wB (e 3)) fun a=>xA (wC 2 (e 1)) fun b=>xA (wA none b) fun c=>xA (wO .u64 c) fun d=>xD fun h4=>xA (wD 44 [a,.int .i64 4,d]) fun f=>xA (wC 3 (e 1)) fun g=>xA (wA none g) fun i=>a9l e h4 f g i
def d1H:Reg:=xA (wB (e 3)) fun a=>xA (wC 3 (e 1)) fun b=>xA (wA none b) fun c=>xA (.append 5 1 1 a c) fun d=>xA (wB d) fun f=>xC (e.upd 3 f)
def d1I:Reg:=xA (wB (e 3)) fun a=>xA (wC 4 (e 1)) fun b=>xA (wA none b) fun c=>xA (wO .u8 c) fun d=>xA (.buildSlice 5 1 [.int .u8 0] [(0,1,d)]) fun f=>xA (.append 5 1 1 a f) fun g=>xA (wB g) fun i=>xC (e.upd 3 i)
def d1J:Reg:=xA (wB (e 3)) fun a=>xA (wD 45 [.int .u8 167,a]) fun b=>xA (wB b) fun c=>xC (e.upd 2 c)
def R20:=an (ro d1A.eq_1)<|an (ro d1B.eq_1)<|an (ro d1C.eq_1)<|an (ro d1D.eq_1)<|an (ro d1E.eq_1)<|an (ro d1F.eq_1)<|an (ro4 a9l.eq_1)<|an (ro d1G.eq_1)<|an (ro d1H.eq_1)<|an (ro d1I.eq_1)<|ro d1J.eq_1
def c20:CFn:=⟨(xF (xG d1A) (xF (xG d1B) (xF (xF (xG d1C) (.block 0 (xF (.block 3 (xF (.block 2 (.block 1 (xF (xF (xF (xG d1D) (.cond (fun e=>e 13) (.exit 1) .skip)) (xF (xF (xG d1E) (.cond (fun e=>e 15) (.exit 2) .skip)) (xF (xG d1F) (.cond (fun e=>e 17) (.exit 3) .skip)))) (.exit 0)))) (xF (xF (xG d1G) (xG d1H)) (.exit 0)))) (xF (xG d1I) (.exit 0))))) (xF (xG d1J) .ret)))),[.t 2]⟩
def p20:Pers:=⟨4,[12,13,15,17],42,[]⟩
def e3l:Reg:=xA (wH 66 [.int .i64 0,.int .i64 0,.int .i64 0,.int .i64 0,.int .i64 0,.int .i64 0,.int .i64 0,.int .i64 0,.int .i64 0,.int .i64 0,.slice none 0 0,.int .i64 0]) fun a=>xA (wB (.int .i64 0)) fun b=>xA (wB (.bool false)) fun c=>xC (((e.upd 2 a).upd 3 b).upd 4 c)
def c8i(a b:Value):Reg:=xA (wK a (.bool true) b) fun c=>xA (wB c) fun d=>xB d false (wB (e 0)) fun f=>xB d false (wI 1 f (.int .i64 1)) fun g=>xB d false (wA none g) fun i=>xB d false (wE .neq i (.int .u8 1)) fun j=>xA (wK d (.bool true) j) fun k=>xC (e.upd 21 k)
def e3m:Reg:=xA (wB (e 0)) fun a=>xA (wL a) fun b=>xA (wE .lss b (.int .i64 6)) fun c=>xA (wB c) fun d=>xB d false (wB (e 0)) fun f=>xB d false (wI 1 f (.int .i64 0)) fun g=>xB d false (wA none g) fun i=>xB d false (wE .neq i (.int .u8 168)) fun j=>c8i e d j
def e3n:Reg:=xA (wM [.int .i64 0,.int .i64 0,.int .i64 0,.int .i64 0,.int .i64 0,.int .i64 0,.int .i64 0,.int .i64 0,.int .i64 0,.int .i64 0,.slice none 0 0,.int .i64 0] []) fun a=>xA (wF 12 (e 2) a) fun _=>xA (wB (.int .i64 0)) fun b=>xA (wB (.bool false)) fun c=>xC ((e.upd 3 b).upd 4 c)
def e3o:Reg:=xA (wB (e 0)) fun a=>xA (.slice 5 1 a (some (.int .i64 2)) (some (.int .i64 4))) fun b=>xA (wD 46 [b]) fun c=>xA (wO .i64 c) fun d=>xA (wE .add (.int .i64 4) d) fun f=>xA (wB f) fun g=>xC (e.upd 5 g)
def c8j(a:Value):Reg:=xA (wB a) fun b=>xB b false (wB (e 0)) fun c=>xB b false (wI 1 c (.int .i64 4)) fun d=>xB b false (wA none d) fun f=>xB b false (wE .lss f (.int .u8 128)) fun g=>xA (wK b (.bool true) g) fun i=>xC (e.upd 41 i)
def e3p:Reg:=xA (wB (e 5)) fun a=>xA (wE .lss a (.int .i64 6)) fun b=>xA (wB b) fun c=>xB c false (wB (e 0)) fun d=>xB c false (wL d) fun f=>xB c false (wB (e 5)) fun g=>xB c false (wE .lss f g) fun i=>xA (wK c (.bool true) i) fun j=>c8j e j
def e3q:Reg:=xA (wM [.int .i64 0,.int .i64 0,.int .i64 0,.int .i64 0,.int .i64 0,.int .i64 0,.int .i64 0,.int .i64 0,.int .i64 0,.int .i64 0,.slice none 0 0,.int .i64 0] []) fun a=>xA (wF 12 (e 2) a) fun _=>xA (wB (.int .i64 0)) fun b=>xA (wB (.bool false)) fun c=>xC ((e.upd 3 b).upd 4 c)
def e3r:Reg:=xA (wB (e 0)) fun a=>xA (wI 1 a (.int .i64 4)) fun b=>xA (wA none b) fun c=>xA (wE .and c (.int .u8 127)) fun d=>xA (wO .i64 d) fun f=>xA (wM [.int .i64 0,.int .i64 0,.int .i64 0,.int .i64 0,.int .i64 0,.int .i64 0,.int .i64 0,.int .i64 0,.int .i64 0,.int .i64 0,.slice none 0 0,.int .i64 0] [(0,1,f)]) fun g=>xA (wH 66 [.int .i64 0,.int .i64 0,.int .i64 0,.int .i64 0,.int .i64 0,.int .i64 0,.int .i64 0,.int .i64 0,.int .i64 0,.int .i64 0,.slice none 0 0,.int .i64 0]) fun i=>xA (wF 12 i g) fun _=>xC (e.upd 6 i)
def e3s:Reg:=xA (wB (e 0)) fun a=>xA (wB (e 5)) fun b=>xA (.slice 5 1 a (some (.int .i64 5)) (some b)) fun c=>xA (wD 47 [(e 6),c]) fun d=>xA (wP .not d) fun f=>xC (e.upd 53 f)
def e3t:Reg:=xA (wM [.int .i64 0,.int .i64 0,.int .i64 0,.int .i64 0,.int .i64 0,.int .i64 0,.int .i64 0,.int .i64 0,.int .i64 0,.int .i64 0,.slice none 0 0,.int .i64 0] []) fun a=>xA (wF 12 (e 2) a) fun _=>xA (wB (.int .i64 0)) fun b=>xA (wB (.bool false)) fun c=>xC ((e.upd 3 b).upd 4 c)
def e3u:Reg:=xA (wA (some 12) (e 6)) fun a=>xA (wB (e 5)) fun b=>xA (wF 12 (e 2) a) fun _=>xA (wB b) fun c=>xA (wB (.bool true)) fun d=>xC ((e.upd 3 c).upd 4 d)
def c21:CFn:=⟨(xF (xG e3l) (xF (xF (xG e3m) (.cond (fun e=>e 21) (xF (xG e3n) .ret) .skip)) (xF (xG e3o) (xF (xF (xG e3p) (.cond (fun e=>e 41) (xF (xG e3q) .ret) .skip)) (xF (xG e3r) (xF (xF (xG e3s) (.cond (fun e=>e 53) (xF (xG e3t) .ret) .skip)) (xF (xG e3u) .ret))))))),[.c 2 (some 12),.t 3,.t 4]⟩
def p21:Pers:=⟨7,[21,41,53],57,[]⟩
def d1K:Reg:=xA (wN 42 (e 0)) fun a=>xA (wN 42 (e 1)) fun b=>xA (wB (.bool false)) fun c=>xC (((e.upd 2 a).upd 3 b).upd 4 c)
def a9o(a b:Value):Reg:=xB a false (wL b) fun c=>xB a false (wC 3 (e 3)) fun d=>xB a false (wA none d) fun f=>xB a false (wL f) fun g=>xB a false (wE .neq c g) fun i=>xA (wK a (.bool true) i) fun j=>xC (e.upd 35 j)
def a9n(a b:Value):Reg:=xB a false (wC 2 (e 3)) fun c=>xB a false (wA none c) fun d=>xB a false (.toStr d) fun f=>xB a false (wE .neq b f) fun g=>xA (wK a (.bool true) g) fun i=>xA (wB i) fun j=>xB j false (wC 3 (e 2)) fun k=>xB j false (wA none k) fun m=>a9o e j m
def a9m(a b:Value):Reg:=xB a false (wC 1 (e 3)) fun c=>xB a false (wA none c) fun d=>xB a false (wE .neq b d) fun f=>xA (wK a (.bool true) f) fun g=>xA (wB g) fun i=>xB i false (wC 2 (e 2)) fun j=>xB i false (wA none j) fun k=>xB i false (.toStr k) fun m=>a9n e i m
def d1L:Reg:=xA (wC 0 (e 2)) fun a=>xA (wA none a) fun b=>xA (wC 0 (e 3)) fun c=>xA (wA none c) fun d=>xA (wE .neq b d) fun f=>xA (wB f) fun g=>xB g false (wC 1 (e 2)) fun i=>xB g false (wA none i) fun j=>a9m e g j
def d1M:Reg:=xA (wB (.bool false)) fun a=>xC (e.upd 4 a)
def d1N:Reg:=xA (wC 3 (e 2)) fun a=>xA (wA none a) fun b=>xA (wL b) fun c=>xA (wB (.int .i64 0)) fun d=>xC ((e.upd 38 c).upd 39 d)
def d1O:Reg:=xA (wE .lss (e 39) (e 38)) fun a=>xC (e.upd 40 a)
def d1P:Reg:=xA (wB (e 39)) fun a=>xA (wB a) fun b=>xC (e.upd 5 b)
def a9p(a b c:Value):Reg:=xA (wI 4 b c) fun d=>xA (wA (some 4) d) fun f=>xA (.eqAgg true [.int,.str,.bool,.int] a f) fun g=>xC (e.upd 52 g)
def d1Q:Reg:=xA (wC 3 (e 2)) fun a=>xA (wA none a) fun b=>xA (wB (e 5)) fun c=>xA (wI 4 b c) fun d=>xA (wA (some 4) d) fun f=>xA (wC 3 (e 3)) fun g=>xA (wA none g) fun i=>xA (wB (e 5)) fun j=>a9p e f i j
def d1R:Reg:=xA (wB (.bool false)) fun a=>xC (e.upd 4 a)
def d1S:Reg:=xA (wE .add (e 39) (.int .i64 1)) fun a=>xA (wB a) fun b=>xC (e.upd 39 b)
def b1K:CC:=(xF (xG d1O) (xF (.cond (fun e=>e 40) .skip (.exit 0)) (xF (.block 1 (xF (xG d1P) (xF (xG d1Q) (.cond (fun e=>e 52) (xF (xG d1R) .ret) .skip)))) (xG d1S))))
def d1T:Reg:=xA (wB (.bool true)) fun a=>xC (e.upd 4 a)
def R25:=an (ro d1K.eq_1)<|an (O5 a9o.eq_1)<|an (O5 a9n.eq_1)<|an (O5 a9m.eq_1)<|an (ro d1L.eq_1)<|an (ro d1M.eq_1)<|an (ro d1N.eq_1)<|an (ro d1O.eq_1)<|an (ro d1P.eq_1)<|an (W2 a9p.eq_1)<|an (ro d1Q.eq_1)<|an (ro d1R.eq_1)<|an (ro d1S.eq_1)<|ro d1T.eq_1
def c25:CFn:=⟨(xF (xG d1K) (xF (xF (xG d1L) (.cond (fun e=>e 35) (xF (xG d1M) .ret) .skip)) (xF (xF (xG d1N) (.block 0 (.loop b1K))) (xF (xG d1T) .ret)))),[.t 4]⟩
def p25:Pers:=⟨6,[35,38,39,40,52],54,[]⟩
def d1U:Reg:=xA (wB (.int .i64 0)) fun a=>xC (e.upd 2 a)
def d1V:Reg:=xA (wB (e 0)) fun a=>xA (wJ a) fun b=>xA (wC 0 b) fun c=>xA (wA none c) fun d=>xA (wB d) fun f=>xC (e.upd 2 f)
def R26:=an (ro d1U.eq_1)<|ro d1V.eq_1
def c26:CFn:=⟨(xF (xG d1U) (xF (xG d1V) .ret)),[.t 2]⟩
def p26:Pers:=⟨3,[],7,[]⟩
def e3v:Reg:=xA (wB (.pointer none)) fun a=>xC (e.upd 4 a)
def c8k(a b:Value):Reg:=xB a false (wB (e 0)) fun c=>xB a false (wJ c) fun d=>xB a false (wC 9 d) fun f=>xB a false (wA none f) fun g=>xB a false (wL g) fun i=>xB a false (wE .geq b i) fun j=>xA (wK a (.bool true) j) fun k=>xC (e.upd 19 k)
def e3w:Reg:=xA (wB (e 0)) fun a=>xA (.eqK .ptr false a (.pointer none)) fun b=>xA (wB b) fun c=>xB c false (wB (e 1)) fun d=>xB c false (wE .lss d (.int .i64 0)) fun f=>xA (wK c (.bool true) f) fun g=>xA (wB g) fun i=>xB i false (wB (e 1)) fun j=>c8k e i j
def e3x:Reg:=xA (wB (.pointer none)) fun a=>xC (e.upd 4 a)
def e3y:Reg:=xA (wB (e 0)) fun a=>xA (wJ a) fun b=>xA (wC 9 b) fun c=>xA (wA none c) fun d=>xA (wB (e 1)) fun f=>xA (wI 1 d f) fun g=>xA (wA none g) fun i=>xA (wB i) fun j=>xC (e.upd 4 j)
def c27:CFn:=⟨(xF (xG e3v) (xF (xF (xG e3w) (.cond (fun e=>e 19) (xF (xG e3x) .ret) .skip)) (xF (xG e3y) .ret))),[.t 4]⟩
def p27:Pers:=⟨5,[19],27,[]⟩
def d1W:Reg:=xA (wH 63 [.int .i64 0,.int .i64 0,.int .i64 0,.int .i64 0,.int .i64 0]) fun a=>xC (e.upd 2 a)
def d1X:Reg:=xA (wB (e 0)) fun a=>xA (wJ a) fun b=>xA (wC 16 b) fun c=>xA (wA (some 5) c) fun d=>xA (wH 63 [.int .i64 0,.int .i64 0,.int .i64 0,.int .i64 0,.int .i64 0]) fun f=>xA (wF 5 f d) fun _=>xC (e.upd 3 f)
def a9r(a:Value):Reg:=xA (wC 4 (e 3)) fun b=>xD fun h13=>xA (wF 1 b a) fun _=>xC e
def a9q(h4:Heap)(a b:Value):Reg:=xA (wC 15 b) fun c=>xA (wA none c) fun d=>xE none (some h4) (wA none c) d<|xD fun h9=>xA (wD 50 [d]) fun f=>xA (wC 3 (e 3)) fun g=>xD fun h11=>xA (wF 1 g a) fun _=>a9r e f
def d1Y:Reg:=xA (wB (e 0)) fun a=>xA (wJ a) fun b=>xA (wC 13 b) fun c=>xA (wA none c) fun d=>xD fun h4=>xA (wD 49 [d]) fun f=>xA (wB (e 0)) fun g=>xA (wJ g) fun i=>a9q e h4 f i
def d1Z:Reg:=xA (wA (some 5) (e 3)) fun a=>xA (wF 5 (e 2) a) fun _=>xC e
def R28:=an (ro d1W.eq_1)<|an (ro d1X.eq_1)<|an (ro1 a9r.eq_1)<|an (W2 a9q.eq_1)<|an (ro d1Y.eq_1)<|ro d1Z.eq_1
def c28:CFn:=⟨(xF (xG d1W) (xF (xG d1X) (xF (xG d1Y) (xF (xG d1Z) .ret)))),[.c 2 (some 5)]⟩
def p28:Pers:=⟨4,[],21,[]⟩
def d2a:Reg:=xA (wN 23 (e 0)) fun a=>xA (wH 34 [.int .i64 0,.int .i64 0,.int .i64 0,.int .i64 0,.int .i64 0,.int .i64 0,.int .i64 0,.int .i64 0,.bool false]) fun b=>xC ((e.upd 1 a).upd 2 b)
def d2b:Reg:=xA (wC 0 (e 1)) fun a=>xA (wA none a) fun b=>xA (wE .and b (.int .i64 31)) fun c=>xA (wE .add c (.int .i64 1)) fun d=>xA (wB d) fun f=>xC (e.upd 3 f)
def d2c:Reg:=xA (wC 3 (e 1)) fun a=>xA (wA none a) fun b=>xA (wE .and b (.int .i64 7)) fun c=>xA (wE .add c (.int .i64 1)) fun d=>xA (wB d) fun f=>xC (e.upd 4 f)
def a9u(a b c d f g i:Value):Reg:=xA (wE .and i (.int .i64 15)) fun j=>xA (wE .add j (.int .i64 1)) fun k=>xA (wC 7 (e 1)) fun m=>xA (wA none m) fun n=>xA (wE .and n (.int .i64 7)) fun o=>xA (wE .add o (.int .i64 1)) fun p=>xA (wM [.int .i64 0,.int .i64 0,.int .i64 0,.int .i64 0,.int .i64 0,.int .i64 0,.int .i64 0,.int .i64 0,.bool false] [(0,1,a),(1,1,b),(2,1,c),(3,1,d),(4,1,f),(5,1,g),(6,1,k),(7,1,p)]) fun q=>xA (wH 34 [.int .i64 0,.int .i64 0,.int .i64 0,.int .i64 0,.int .i64 0,.int .i64 0,.int .i64 0,.int .i64 0,.bool false]) fun r=>xD fun h32=>xA (wF 9 r q) fun _=>xC (e.upd 5 r)
def a9t(a b c d f:Value):Reg:=xA (wE .and f (.int .i64 7)) fun g=>xA (wE .add g (.int .i64 1)) fun i=>xA (wC 5 (e 1)) fun j=>xA (wA none j) fun k=>xA (wE .and k (.int .i64 3)) fun m=>xA (wE .add m (.int .i64 1)) fun n=>xA (wC 6 (e 1)) fun o=>xA (wA none o) fun p=>a9u e a b c d i n p
def a9s(a b c:Value):Reg:=xA (wA none c) fun d=>xA (wE .and d (.int .i64 31)) fun f=>xA (wB (e 3)) fun g=>xA (wE .rem f g) fun i=>xA (wE .add i (.int .i64 1)) fun j=>xA (wB (e 4)) fun k=>xA (wC 4 (e 1)) fun m=>xA (wA none m) fun n=>a9t e a b j k n
def d2d:Reg:=xA (wB (e 3)) fun a=>xA (wC 1 (e 1)) fun b=>xA (wA none b) fun c=>xA (wE .and c (.int .i64 31)) fun d=>xA (wE .add d (.int .i64 1)) fun f=>xA (wB (e 4)) fun g=>xA (wE .mul f g) fun i=>xA (wC 2 (e 1)) fun j=>a9s e a i j
def d2e:Reg:=xA (wC 8 (e 1)) fun a=>xA (wA none a) fun b=>xA (wB b) fun c=>xB c true (wB (e 4)) fun d=>xB c true (wE .gtr d (.int .i64 1)) fun f=>xA (wK c f (.bool false)) fun g=>xA (wC 8 (e 5)) fun i=>xA (wF 1 i g) fun _=>xC e
def d2f:Reg:=xA (wA (some 9) (e 5)) fun a=>xA (wF 9 (e 2) a) fun _=>xC e
def R30:=an (ro d2a.eq_1)<|an (ro d2b.eq_1)<|an (ro d2c.eq_1)<|an (ro7 a9u.eq_1)<|an (ro5 a9t.eq_1)<|an (W2 a9s.eq_1)<|an (ro d2d.eq_1)<|an (ro d2e.eq_1)<|ro d2f.eq_1
def c30:CFn:=⟨(xF (xG d2a) (xF (xG d2b) (xF (xG d2c) (xF (xG d2d) (xF (xG d2e) (xF (xG d2f) .ret)))))),[.c 2 (some 9)]⟩
def p30:Pers:=⟨6,[],53,[]⟩
def d2g:Reg:=xA (wN 30 (e 0)) fun a=>xA (wB (.bool false)) fun b=>xC ((e.upd 1 a).upd 2 b)
def a9w(a b:Value):Reg:=xA (wK a (.bool true) b) fun c=>xA (wB c) fun d=>xB d false (wC 2 (e 1)) fun f=>xB d false (wA none f) fun g=>xB d false (wE .gtr g (.int .i64 65536)) fun i=>xA (wK d (.bool true) i) fun j=>xC (e.upd 26 j)
def a9v(a b:Value):Reg:=xB a false (wD 54 [b,.int .i64 8]) fun c=>xB a false (wP .not c) fun d=>xA (wK a (.bool true) d) fun f=>xA (wB f) fun g=>xB g false (wC 0 (e 1)) fun i=>xB g false (wA none i) fun j=>xB g false (wD 54 [j,.int .i64 4294967296]) fun k=>xB g false (wP .not k) fun m=>a9w e g m
def d2h:Reg:=xA (wC 1 (e 1)) fun a=>xA (wA none a) fun b=>xA (wD 54 [b,.int .i64 16]) fun c=>xA (wP .not c) fun d=>xA (wB d) fun f=>xB f false (wC 3 (e 1)) fun g=>xB f false (wA none g) fun i=>xB f false (wL i) fun j=>a9v e f j
def d2i:Reg:=xA (wB (.bool false)) fun a=>xC (e.upd 2 a)
def d2j:Reg:=xA (wC 3 (e 1)) fun a=>xA (wA none a) fun b=>xA (wL b) fun c=>xA (wB (.int .i64 0)) fun d=>xC (((e.upd 28 b).upd 29 c).upd 30 d)
def d2k:Reg:=xA (wE .lss (e 30) (e 29)) fun a=>xC (e.upd 31 a)
def d2l:Reg:=xA (wI 9 (e 28) (e 30)) fun a=>xA (wA (some 9) a) fun b=>xA (wH 34 [.int .i64 0,.int .i64 0,.int .i64 0,.int .i64 0,.int .i64 0,.int .i64 0,.int .i64 0,.int .i64 0,.bool false]) fun c=>xA (wF 9 c b) fun _=>xC (e.upd 4 c)
def d2m:Reg:=xA (wA (some 9) (e 4)) fun a=>xA (wD 55 [a]) fun b=>xA (wP .not b) fun c=>xC (e.upd 36 c)
def d2n:Reg:=xA (wB (.bool false)) fun a=>xC (e.upd 2 a)
def d2o:Reg:=xA (wE .add (e 30) (.int .i64 1)) fun a=>xA (wB a) fun b=>xC (e.upd 30 b)
def a7u:CC:=(xF (xG d2k) (xF (.cond (fun e=>e 31) .skip (.exit 0)) (xF (.block 1 (xF (xG d2l) (xF (xG d2m) (.cond (fun e=>e 36) (xF (xG d2n) .ret) .skip)))) (xG d2o))))
def a9x(a:Value):Reg:=xB a true (wA (some 4) (e 1)) fun b=>xD fun h7=>xB a true (wD 57 [b]) fun c=>xB a true (wC 0 (e 1)) fun d=>xB a true (wA none d) fun f=>xE (some (a,true)) (some h7) (.load none d) f<|xB a true (wE .leq c f) fun g=>xA (wK a g (.bool false)) fun i=>xA (wB i) fun j=>xC (e.upd 2 j)
def d2p:Reg:=xA (wC 2 (e 1)) fun a=>xA (wA none a) fun b=>xA (wA (some 4) (e 1)) fun c=>xD fun h3=>xA (wD 56 [c]) fun d=>xE none none (wA none a) b<|xA (wE .geq b d) fun f=>xA (wB f) fun g=>a9x e g
def R31:=an (ro d2g.eq_1)<|an (O5 a9w.eq_1)<|an (O5 a9v.eq_1)<|an (ro d2h.eq_1)<|an (ro d2i.eq_1)<|an (ro d2j.eq_1)<|an (ro d2k.eq_1)<|an (ro d2l.eq_1)<|an (ro d2m.eq_1)<|an (ro d2n.eq_1)<|an (ro d2o.eq_1)<|an (ro1 a9x.eq_1)<|ro d2p.eq_1
def c31:CFn:=⟨(xF (xG d2g) (xF (xF (xG d2h) (.cond (fun e=>e 26) (xF (xG d2i) .ret) .skip)) (xF (xF (xG d2j) (.block 0 (.loop a7u))) (xF (xG d2p) .ret)))),[.t 2]⟩
def p31:Pers:=⟨5,[26,28,29,30,31,36],50,[]⟩
def d2q:Reg:=xA (wB (e 0)) fun a=>xA (wB (e 0)) fun b=>xA (wJ a) fun c=>xA (wC 8 c) fun d=>xA (wF 1 d (.slice none 0 0)) fun _=>xA (wJ b) fun f=>xA (wC 9 f) fun g=>xA (wF 1 g (.slice none 0 0)) fun _=>xC e
def d2r:Reg:=xA (wB (e 0)) fun a=>xA (wJ a) fun b=>xA (wC 4 b) fun c=>xA (wC 1 c) fun d=>xA (wA none d) fun f=>xA (wB (.int .i64 0)) fun g=>xC ((e.upd 17 f).upd 18 g)
def d2s:Reg:=xA (wE .lss (e 18) (e 17)) fun a=>xC (e.upd 19 a)
def a9z(a b c d f:Value):Reg:=xD fun h16=>xA (wD 58 [d,f]) fun g=>xE none none (wA none b) c<|xA (.buildSlice 110 1 [.pointer none] [(0,1,g)]) fun i=>xD fun h18=>xA (.append 110 1 8 c i) fun j=>xA (wJ a) fun k=>xA (wC 8 k) fun m=>xD fun h21=>xA (wF 1 m j) fun _=>xC e
def a9y(a b c d:Value):Reg:=xA (wC 3 d) fun f=>xA (wA none f) fun g=>xA (wL g) fun i=>xA (wB (e 0)) fun j=>xA (wJ j) fun k=>xA (wC 4 k) fun m=>xA (wC 2 m) fun n=>xA (wA none n) fun o=>a9z e a b c i o
def d2t:Reg:=xA (wB (e 0)) fun a=>xA (wB (e 0)) fun b=>xA (wJ b) fun c=>xA (wC 8 c) fun d=>xA (wA none d) fun f=>xA (wB (e 0)) fun g=>xA (wJ g) fun i=>xA (wC 4 i) fun j=>a9y e a d f j
def d2u:Reg:=xA (wE .add (e 18) (.int .i64 1)) fun a=>xA (wB a) fun b=>xC (e.upd 18 b)
def b1L:CC:=(xF (xG d2s) (xF (.cond (fun e=>e 19) .skip (.exit 0)) (xF (.block 1 (xG d2t)) (xG d2u))))
def d2v:Reg:=xA (wB (e 0)) fun a=>xA (wJ a) fun b=>xA (wC 4 b) fun c=>xA (wC 3 c) fun d=>xA (wA none d) fun f=>xA (wL f) fun g=>xA (wB (.int .i64 0)) fun i=>xC (((e.upd 46 f).upd 47 g).upd 48 i)
def d2w:Reg:=xA (wE .lss (e 48) (e 47)) fun a=>xC (e.upd 49 a)
def d2x:Reg:=xA (wB (e 48)) fun a=>xA (wI 9 (e 46) (e 48)) fun b=>xA (wA (some 9) b) fun c=>xA (wH 34 [.int .i64 0,.int .i64 0,.int .i64 0,.int .i64 0,.int .i64 0,.int .i64 0,.int .i64 0,.int .i64 0,.bool false]) fun d=>xA (wB a) fun f=>xA (wF 9 d c) fun _=>xC ((e.upd 5 d).upd 4 f)
def d2y:Reg:=xA (wC 5 (e 5)) fun a=>xA (wA none a) fun b=>xA (wE .add b (.int .i64 1)) fun c=>xA (wE .mul (.int .i64 3) c) fun d=>xA (wB d) fun f=>xC (e.upd 6 f)
def a9B(a b c:Value):Reg:=xA (.buildSlice 94 1 [.pointer none] [(0,1,c)]) fun d=>xD fun h12=>xA (.append 94 1 8 b d) fun f=>xA (wJ a) fun g=>xA (wC 9 g) fun i=>xD fun h15=>xA (wF 1 i f) fun _=>xC e
def a9A(a b c d f g:Value):Reg:=xA (wB (e 6)) fun i=>xD fun h9=>xA (wD 60 [f,g,i]) fun j=>xE none none (wA (some 9) (e 5)) d<|xE none none (wA none b) c<|xD fun h10=>xA (wD 59 [d,j]) fun k=>xE none none (wA none b) c<|a9B e a c k
def d2z:Reg:=xA (wB (e 0)) fun a=>xA (wB (e 0)) fun b=>xA (wJ b) fun c=>xA (wC 9 c) fun d=>xA (wA none d) fun f=>xA (wA (some 9) (e 5)) fun g=>xA (wB (e 1)) fun i=>xA (wB (e 4)) fun j=>a9A e a d f g i j
def c6o:Reg:=xA (wE .add (e 48) (.int .i64 1)) fun a=>xA (wB a) fun b=>xC (e.upd 48 b)
def b1M:CC:=(xF (xG d2w) (xF (.cond (fun e=>e 49) .skip (.exit 2)) (xF (.block 3 (xF (xG d2x) (xF (xG d2y) (xG d2z)))) (xG c6o))))
def R32:=an (ro d2q.eq_1)<|an (ro d2r.eq_1)<|an (ro d2s.eq_1)<|an (ro5 a9z.eq_1)<|an (ro4 a9y.eq_1)<|an (ro d2t.eq_1)<|an (ro d2u.eq_1)<|an (ro d2v.eq_1)<|an (ro d2w.eq_1)<|an (ro d2x.eq_1)<|an (ro d2y.eq_1)<|an (W2 a9B.eq_1)<|an (ro6 a9A.eq_1)<|an (ro d2z.eq_1)<|ro c6o.eq_1
def c32:CFn:=⟨(xF (xG d2q) (xF (xF (xG d2r) (.block 0 (.loop b1L))) (xF (xG d2v) (.block 2 (.loop b1M))))),[]⟩
def p32:Pers:=⟨7,[17,18,19,46,47,48,49],73,[]⟩
def d2A:Reg:=xA (wB (.int .i64 0)) fun a=>xC (e.upd 4 a)
def d2B:Reg:=xA (wB (e 0)) fun a=>xA (wB (e 0)) fun b=>xA (wJ b) fun c=>xA (wC 0 c) fun d=>xA (wA none d) fun f=>xA (wB (e 1)) fun g=>xA (.minmax true [f,g,.int .i64 0]) fun i=>xA (wJ a) fun j=>xA (wC 0 j) fun k=>xA (wF 1 k i) fun _=>xC e
def d2C:Reg:=xA (wB (e 0)) fun a=>xA (wJ a) fun b=>xA (wC 3 b) fun c=>xA (wA none c) fun d=>xA (wP .not d) fun f=>xC (e.upd 18 f)
def a9C(a b c:Value):Reg:=xA (wF 1 c b) fun _=>xA (wJ a) fun d=>xA (wC 3 d) fun f=>xA (wF 1 f (.bool true)) fun _=>xC e
def d2D:Reg:=xA (wB (e 0)) fun a=>xA (wB (e 0)) fun b=>xA (wB (e 0)) fun c=>xA (wJ c) fun d=>xA (wC 0 d) fun f=>xA (wA none f) fun g=>xA (wJ a) fun i=>xA (wC 1 i) fun j=>a9C e b g j
def d2E:Reg:=xA (wB (e 0)) fun a=>xA (wJ a) fun b=>xA (wC 0 b) fun c=>xA (wA none c) fun d=>xA (wB d) fun f=>xC (e.upd 4 f)
def R34:=an (ro d2A.eq_1)<|an (ro d2B.eq_1)<|an (ro d2C.eq_1)<|an (W2 a9C.eq_1)<|an (ro d2D.eq_1)<|ro d2E.eq_1
def c34:CFn:=⟨(xF (xG d2A) (xF (xG d2B) (xF (xF (xG d2C) (.cond (fun e=>e 18) (xG d2D) .skip)) (xF (xG d2E) .ret)))),[.t 4]⟩
def p34:Pers:=⟨5,[18],33,[]⟩
def d2F:Reg:=xA (wA none (e 0)) fun a=>xA (wJ a) fun b=>xA (wC 10 b) fun c=>xA (wF 1 c (.slice none 0 0)) fun _=>xC e
def R35:=ro d2F.eq_1
def c35:CFn:=⟨(xG d2F),[]⟩
def p35:Pers:=⟨0,[0],4,[]⟩
def d2G:Reg:=xA (wB (.bool false)) fun a=>xC (e.upd 2 a)
def d2H:Reg:=xA (wB (e 0)) fun a=>xA (.eqK .ptr false a (.pointer none)) fun b=>xA (wB b) fun c=>xB c false (wB (e 0)) fun d=>xB c false (wJ d) fun f=>xB c false (wC 80 f) fun g=>xB c false (wA none g) fun i=>xA (wK c (.bool true) i) fun j=>xC (e.upd 10 j)
def d2I:Reg:=xA (wB (.bool false)) fun a=>xC (e.upd 2 a)
def a9D(a b c:Value):Reg:=xA (wC 0 c) fun d=>xA (wF 78 d b) fun _=>xA (wJ a) fun f=>xA (wC 80 f) fun g=>xA (wF 1 g (.bool true)) fun _=>xC e
def d2J:Reg:=xA (wB (e 0)) fun a=>xA (wB (e 0)) fun b=>xA (wB (e 0)) fun c=>xA (wJ c) fun d=>xA (wC 79 d) fun f=>xA (wA none f) fun g=>xA (wD 51 [g]) fun i=>xA (wJ a) fun j=>a9D e b i j
def d2K:Reg:=xA (wB (e 0)) fun a=>xA (wJ a) fun b=>xA (wC 78 b) fun c=>xA (wA none c) fun d=>xA (wD 61 [d]) fun f=>xC e
def d2L:Reg:=xA (wB (.bool true)) fun a=>xC (e.upd 2 a)
def R36:=an (ro d2G.eq_1)<|an (ro d2H.eq_1)<|an (ro d2I.eq_1)<|an (W2 a9D.eq_1)<|an (ro d2J.eq_1)<|an (ro d2K.eq_1)<|ro d2L.eq_1
def c36:CFn:=⟨(xF (xG d2G) (xF (xF (xG d2H) (.cond (fun e=>e 10) (xF (xG d2I) .ret) .skip)) (xF (xG d2J) (xF (xG d2K) (xF (xG d2L) .ret))))),[.t 2]⟩
def p36:Pers:=⟨3,[10],27,[]⟩
def d2M:Reg:=xA (wB (.bool false)) fun a=>xC (e.upd 2 a)
def d2N:Reg:=xA (wB (e 0)) fun a=>xA (.eqK .ptr true a (.pointer none)) fun b=>xA (wB b) fun c=>xB c true (wB (e 0)) fun d=>xB c true (wJ d) fun f=>xB c true (wC 80 f) fun g=>xB c true (wA none g) fun i=>xA (wK c i (.bool false)) fun j=>xA (wB j) fun k=>xC (e.upd 2 k)
def R38:=an (ro d2M.eq_1)<|ro d2N.eq_1
def c38:CFn:=⟨(xF (xG d2M) (xF (xG d2N) .ret)),[.t 2]⟩
def p38:Pers:=⟨3,[],11,[]⟩
def d2O:Reg:=xA (wB (.int .i64 0)) fun a=>xC (e.upd 6 a)
def d2P:Reg:=xA (wB (e 0)) fun a=>xA (wD 38 [a]) fun b=>xA (wP .not b) fun c=>xC (e.upd 16 c)
def d2Q:Reg:=xA (wB (.int .i64 0)) fun a=>xC (e.upd 6 a)
def d2R:Reg:=xA (wB (e 1)) fun a=>xA (wL a) fun b=>xA (wB (.int .i64 0)) fun c=>xC (((e.upd 17 a).upd 18 b).upd 19 c)
def d2S:Reg:=xA (wE .lss (e 19) (e 18)) fun a=>xC (e.upd 20 a)
def d2T:Reg:=xA (wB (e 19)) fun a=>xA (wI 1 (e 17) (e 19)) fun b=>xA (wA none b) fun c=>xA (wB a) fun d=>xA (wB c) fun f=>xC ((e.upd 7 d).upd 8 f)
def d2U:Reg:=xA (wB (e 0)) fun a=>xA (wJ a) fun b=>xA (wC 0 b) fun c=>xA (wD 62 [c]) fun d=>xA (wE .neq d (.int .i64 0)) fun f=>xC (e.upd 28 f)
def d2V:Reg:=xA (wB (e 7)) fun a=>xA (wB a) fun b=>xC (e.upd 6 b)
def a9E(a b c:Value):Reg:=xA (wG a 2) fun d=>xA (wH 61 [.int .i64 0,.int .i64 0,.int .u32 0,.string ⟨#[]⟩,.int .i64 0]) fun f=>xA (wF 5 f b) fun _=>xA (wB c) fun g=>xA (wB d) fun i=>xC (((e.upd 9 f).upd 10 g).upd 11 i)
def d2W:Reg:=xA (wB (e 0)) fun a=>xA (wJ a) fun b=>xA (wC 0 b) fun c=>xA (wB (e 8)) fun d=>xA (wD 52 [c,d]) fun f=>xA (wB f) fun g=>xA (wG g 0) fun i=>xA (wG g 1) fun j=>a9E e g i j
def d2X:Reg:=xA (wB (e 11)) fun a=>xA (wE .neq a (.int .i64 0)) fun b=>xA (wB b) fun c=>xC (e.upd 39 c)
def c6p:Reg:=xA (wB (e 0)) fun a=>xA (wJ a) fun b=>xA (wC 78 b) fun c=>xA (wA none c) fun d=>xA (wD 63 [d]) fun f=>xA (wE .lss f (.int .i64 6)) fun g=>xC (e.upd 47 g)
def c6q:Reg:=xA (wB (e 7)) fun a=>xA (wB a) fun b=>xC (e.upd 6 b)
def c6r:Reg:=xA (wB (e 0)) fun a=>xA (wJ a) fun b=>xA (wC 78 b) fun c=>xA (wA none c) fun d=>xA (wB (e 11)) fun f=>xD fun h5=>xA (wD 65 [f]) fun g=>xE none none (wA none c) d<|xD fun h6=>xA (wD 64 [d,g]) fun i=>xC e
def c6s:Reg:=xA (wB (e 10)) fun a=>xA (wB a) fun b=>xC (e.upd 56 b)
def a7w(h4:Heap)(a b c:Value):Reg:=xE none (some h4) (wA (some 5) (e 9)) c<|xD fun h7=>xA (.callv (a3c [(35,118)] b) [c]) fun d=>xA (wE .lss a d) fun f=>xC (e.upd 66 f)
def c6t:Reg:=xA (wB (e 0)) fun a=>xA (wJ a) fun b=>xA (wC 78 b) fun c=>xA (wA none c) fun d=>xD fun h4=>xA (wD 63 [d]) fun f=>xA (wB (e 2)) fun g=>xA (wA (some 5) (e 9)) fun i=>a7w e h4 f g i
def c6u:Reg:=xA (wB (e 7)) fun a=>xA (wB a) fun b=>xC (e.upd 6 b)
def a7x(a b c:Value):Reg:=xE none none (wA none a) b<|xD fun h7=>xA (wD 64 [b,c]) fun d=>xC e
def c6v:Reg:=xA (wB (e 0)) fun a=>xA (wJ a) fun b=>xA (wC 78 b) fun c=>xA (wA none c) fun d=>xA (wB (e 2)) fun f=>xA (wA (some 5) (e 9)) fun g=>xD fun h6=>xA (.callv (a3c [(35,117)] f) [g]) fun i=>a7x e c d i
def c6w:Reg:=xA (wB (e 2)) fun a=>xA (.assertI 291 [] .nilIface a) fun b=>xA (wB b) fun c=>xA (wG c 0) fun d=>xA (wG c 1) fun f=>xA (wB d) fun g=>xA (wB f) fun i=>xC ((e.upd 12 g).upd 13 i)
def c6x:Reg:=xA (wB (e 13)) fun a=>xC (e.upd 81 a)
def c6y:Reg:=xA (wB (e 12)) fun a=>xA (wA (some 5) (e 9)) fun b=>xA (.callv (a3c [] a) [b]) fun c=>xC e
def c6z:Reg:=xA (wB (e 0)) fun a=>xA (wJ a) fun b=>xA (wC 0 b) fun c=>xA (wB (e 8)) fun d=>xA (wD 53 [c,d]) fun f=>xC e
def c6A:Reg:=xA (wE .add (e 19) (.int .i64 1)) fun a=>xA (wB a) fun b=>xC (e.upd 19 b)
def a7v:CC:=(xF (xG d2S) (xF (.cond (fun e=>e 20) .skip (.exit 0)) (xF (.block 1 (xF (xG d2T) (xF (xF (xG d2U) (.cond (fun e=>e 28) (xF (xG d2V) .ret) .skip)) (xF (xG d2W) (xF (.block 2 (xF (xG d2X) (.cond (fun e=>e 39) (xF (xF (xG c6p) (.cond (fun e=>e 47) (xF (xG c6q) .ret) .skip)) (xG c6r)) (xF (xG c6s) (.cond (fun e=>e 56) (xF (xF (xG c6t) (.cond (fun e=>e 66) (xF (xG c6u) .ret) .skip)) (xF (xG c6v) (xF (xG c6w) (xF (xG c6x) (.cond (fun e=>e 81) (xG c6y) .skip))))) .skip))))) (xG c6z)))))) (xG c6A))))
def c6B:Reg:=xA (wB (e 1)) fun a=>xA (wL a) fun b=>xA (wB b) fun c=>xC (e.upd 6 c)
def R39:=an (ro d2O.eq_1)<|an (ro d2P.eq_1)<|an (ro d2Q.eq_1)<|an (ro d2R.eq_1)<|an (ro d2S.eq_1)<|an (ro d2T.eq_1)<|an (ro d2U.eq_1)<|an (ro d2V.eq_1)<|an (W2 a9E.eq_1)<|an (ro d2W.eq_1)<|an (ro d2X.eq_1)<|an (ro c6p.eq_1)<|an (ro c6q.eq_1)<|an (ro c6r.eq_1)<|an (ro c6s.eq_1)<|an (ro4 a7w.eq_1)<|an (ro c6t.eq_1)<|an (ro c6u.eq_1)<|an (W2 a7x.eq_1)<|an (ro c6v.eq_1)<|an (ro c6w.eq_1)<|an (ro c6x.eq_1)<|an (ro c6y.eq_1)<|an (ro c6z.eq_1)<|an (ro c6A.eq_1)<|ro c6B.eq_1
def c39:CFn:=⟨(xF (xG d2O) (xF (xF (xG d2P) (.cond (fun e=>e 16) (xF (xG d2Q) .ret) .skip)) (xF (xF (xG d2R) (.block 0 (.loop a7v))) (xF (xG c6B) .ret)))),[.t 6]⟩
def p39:Pers:=⟨14,[16,17,18,19,20,28,39,47,56,66,81],93,[]⟩
def d2Y:Reg:=xA (wB (.slice none 0 0)) fun a=>xC (e.upd 4 a)
def d2Z:Reg:=xA (wB (e 0)) fun a=>xA (wD 38 [a]) fun b=>xA (wP .not b) fun c=>xC (e.upd 7 c)
def d3a:Reg:=xA (wB (.slice none 0 0)) fun a=>xC (e.upd 4 a)
def d3b:Reg:=xA (wB (e 0)) fun a=>xA (wJ a) fun b=>xA (wC 78 b) fun c=>xA (wA none c) fun d=>xA (wB (e 1)) fun f=>xA (wD 66 [d,f]) fun g=>xA (wB g) fun i=>xC (e.upd 4 i)
def R40:=an (ro d2Y.eq_1)<|an (ro d2Z.eq_1)<|an (ro d3a.eq_1)<|ro d3b.eq_1
def c40:CFn:=⟨(xF (xG d2Y) (xF (xF (xG d2Z) (.cond (fun e=>e 7) (xF (xG d3a) .ret) .skip)) (xF (xG d3b) .ret))),[.t 4]⟩
def p40:Pers:=⟨5,[7],14,[]⟩
def d3c:Reg:=xA (wB (.slice none 0 0)) fun a=>xC (e.upd 6 a)
def d3d:Reg:=xA (wB (e 1)) fun a=>xA (wE .sub a (.int .i64 1)) fun b=>xA (wB b) fun c=>xC (e.upd 7 c)
def d3e:Reg:=xA (wB (e 7)) fun a=>xA (wE .geq a (.int .i64 0)) fun b=>xC (e.upd 11 b)
def d3g:Reg:=xA (wB (e 0)) fun a=>xA (wB (e 2)) fun b=>xA (wB (e 7)) fun c=>xA (wE .mul (.int .i64 8) c) fun d=>xA (wE .shr b d) fun f=>xA (wO .u8 f) fun g=>xA (.buildSlice 5 1 [.int .u8 0] [(0,1,g)]) fun i=>xA (.append 5 1 1 a i) fun j=>xA (wB j) fun k=>xC (e.upd 0 k)
def d3f:Reg:=xA (wB (e 7)) fun a=>xA (wE .sub a (.int .i64 1)) fun b=>xA (wB b) fun c=>xC (e.upd 7 c)
def a2p:CC:=(xF (xF (xG d3e) (.cond (fun e=>e 11) .skip (.exit 0))) (xF (.block 1 (xG d3g)) (xG d3f)))
def d3h:Reg:=xA (wB (e 0)) fun a=>xA (wB a) fun b=>xC (e.upd 6 b)
def R44:=an (ro d3c.eq_1)<|an (ro d3d.eq_1)<|an (ro d3e.eq_1)<|an (ro d3g.eq_1)<|an (ro d3f.eq_1)<|ro d3h.eq_1
def c44:CFn:=⟨(xF (xG d3c) (xF (xF (xG d3d) (.block 0 (.loop a2p))) (xF (xG d3h) .ret))),[.t 6]⟩
def p44:Pers:=⟨8,[11],23,[]⟩
def d3i:Reg:=xA (wB (.slice none 0 0)) fun a=>xC (e.upd 4 a)
def a9F(a b c:Value):Reg:=xA (.buildSlice 5 4 [.int .u8 0] [(0,1,a),(1,1,(.int .u8 1)),(2,1,b),(3,1,c)]) fun d=>xA (wB (e 1)) fun f=>xA (.append 5 1 1 d f) fun g=>xA (wB g) fun i=>xC (e.upd 4 i)
def d3j:Reg:=xA (wB (e 0)) fun a=>xA (wB (e 1)) fun b=>xA (wL b) fun c=>xA (wE .shr c (.int .u64 8)) fun d=>xA (wO .u8 d) fun f=>xA (wB (e 1)) fun g=>xA (wL g) fun i=>xA (wO .u8 i) fun j=>a9F e a f j
def R45:=an (ro d3i.eq_1)<|an (W2 a9F.eq_1)<|ro d3j.eq_1
def c45:CFn:=⟨(xF (xG d3i) (xF (xG d3j) .ret)),[.t 4]⟩
def p45:Pers:=⟨5,[],16,[]⟩
def d3k:Reg:=xA (wB (.int .u64 0)) fun a=>xC (e.upd 2 a)
def d3l:Reg:=xA (wB (.int .u64 0)) fun a=>xC (e.upd 3 a)
def d3m:Reg:=xA (wB (e 0)) fun a=>xA (wL a) fun b=>xA (wB (.int .i64 0)) fun c=>xC (((e.upd 6 a).upd 7 b).upd 8 c)
def d3n:Reg:=xA (wE .lss (e 8) (e 7)) fun a=>xC (e.upd 9 a)
def d3o:Reg:=xA (wI 1 (e 6) (e 8)) fun a=>xA (wA none a) fun b=>xA (wB b) fun c=>xC (e.upd 5 c)
def d3p:Reg:=xA (wB (e 3)) fun a=>xA (wE .shl a (.int .u64 8)) fun b=>xA (wB (e 5)) fun c=>xA (wO .u64 c) fun d=>xA (wE .or b d) fun f=>xA (wB f) fun g=>xC (e.upd 3 g)
def d3q:Reg:=xA (wE .add (e 8) (.int .i64 1)) fun a=>xA (wB a) fun b=>xC (e.upd 8 b)
def b1N:CC:=(xF (xG d3n) (xF (.cond (fun e=>e 9) .skip (.exit 0)) (xF (.block 1 (xF (xG d3o) (xG d3p))) (xG d3q))))
def d3r:Reg:=xA (wB (e 3)) fun a=>xA (wB a) fun b=>xC (e.upd 2 b)
def R46:=an (ro d3k.eq_1)<|an (ro d3l.eq_1)<|an (ro d3m.eq_1)<|an (ro d3n.eq_1)<|an (ro d3o.eq_1)<|an (ro d3p.eq_1)<|an (ro d3q.eq_1)<|ro d3r.eq_1
def c46:CFn:=⟨(xF (xG d3k) (xF (xG d3l) (xF (xF (xG d3m) (.block 0 (.loop b1N))) (xF (xG d3r) .ret)))),[.t 2]⟩
def p46:Pers:=⟨6,[6,7,8,9],19,[]⟩
def e3z:Reg:=xA (wN 39 (e 1)) fun a=>xA (wB (.bool false)) fun b=>xC ((e.upd 3 a).upd 4 b)
def c8n(a:Value):Reg:=xB a true (wA none (e 3)) fun b=>xB a true (wI 1 b (.int .i64 0)) fun c=>xB a true (wA none c) fun d=>xB a true (wE .leq d (.int .u8 3)) fun f=>xA (wK a f (.bool false)) fun g=>xA (wB g) fun i=>xC (e.upd 6 i)
def c8m(a b:Value):Reg:=xA (wK a b (.bool false)) fun c=>xA (wB c) fun d=>xB d true (wA none (e 3)) fun f=>xB d true (wI 1 f (.int .i64 0)) fun g=>xB d true (wA none g) fun i=>xB d true (wE .geq i (.int .u8 1)) fun j=>xA (wK d j (.bool false)) fun k=>xA (wB k) fun m=>c8n e m
def c8l(a b:Value):Reg:=xB a false (wC 0 b) fun c=>xB a false (wA none c) fun d=>xB a false (wE .eql d (.int .i64 2)) fun f=>xA (wK a (.bool true) f) fun g=>xA (wB g) fun i=>xB i true (wA none (e 3)) fun j=>xB i true (wL j) fun k=>xB i true (wE .eql k (.int .i64 17)) fun m=>c8m e i m
def e3B:Reg:=xA (wB (e 0)) fun a=>xA (wJ a) fun b=>xA (wC 0 b) fun c=>xA (wA none c) fun d=>xA (wE .eql d (.int .i64 1)) fun f=>xA (wB f) fun g=>xB g false (wB (e 0)) fun i=>xB g false (wJ i) fun j=>c8l e g j
def c8p(a b c d f g i:Value):Reg:=xD fun h11=>xA (wD 46 [i]) fun j=>xE none none (wA none c) d<|xE none none (wA none (e 3)) b<|xA (wO .i64 j) fun k=>xA (wM [.int .i64 0,.int .i64 0,.int .i64 0] [(0,1,f),(1,1,g),(2,1,k)]) fun m=>xA (wJ a) fun n=>xA (wC 2 n) fun o=>xD fun h16=>xA (wF 3 o m) fun _=>xC e
def c8o(a b c d f g:Value)(h7:Heap):Reg:=xA (wD 46 [g]) fun i=>xE none none (wA none c) d<|xE none none (wA none (e 3)) b<|xA (wO .i64 i) fun j=>xA (wA none (e 3)) fun k=>xE none (some h7) (wA none (e 3)) k<|xA (.slice 5 1 k (some (.int .i64 9)) none) fun m=>xE none (some h7) (.slice 5 1 k (some (.int .i64 9)) none) m<|c8p e a b c d f j m
def e3C:Reg:=xA (wB (e 0)) fun a=>xA (wA none (e 3)) fun b=>xA (wI 1 b (.int .i64 0)) fun c=>xA (wA none c) fun d=>xA (wO .i64 d) fun f=>xA (wA none (e 3)) fun g=>xA (.slice 5 1 g (some (.int .i64 1)) (some (.int .i64 9))) fun i=>xD fun h7=>c8o e a b c d f i h7
def c8q(a b:Value):Reg:=xB a true (wE .eql b (.int .i64 41)) fun c=>xA (wK a c (.bool false)) fun d=>xA (wB d) fun f=>xC (e.upd 52 f)
def e3D:Reg:=xA (wB (e 0)) fun a=>xA (wJ a) fun b=>xA (wC 0 b) fun c=>xA (wA none c) fun d=>xA (wE .eql d (.int .i64 3)) fun f=>xA (wB f) fun g=>xB g true (wA none (e 3)) fun i=>xB g true (wL i) fun j=>c8q e g j
def e3E:Reg:=xA (wB (e 0)) fun a=>xA (wA none (e 3)) fun b=>xA (wI 1 b (.int .i64 0)) fun c=>xA (wA none c) fun d=>xA (wO .i64 d) fun f=>xA (wJ a) fun g=>xA (wC 1 g) fun i=>xA (wF 1 i f) fun _=>xC e
def e3F:Reg:=xA (.makeFunc 67 [] [(e 3)]) fun a=>xA (wB a) fun b=>xC (e.upd 5 b)
def c8r(a b c d f:Value):Reg:=xA (.callv f [.int .i64 3]) fun g=>xA (wB (e 5)) fun i=>xA (.callv i [.int .i64 4]) fun j=>xA (wM [.int .i64 0,.int .i64 0,.int .i64 0,.int .i64 0,.int .i64 0] [(0,1,b),(1,1,c),(2,1,d),(3,1,g),(4,1,j)]) fun k=>xA (wJ a) fun m=>xA (wC 5 m) fun n=>xA (wF 5 n k) fun _=>xC e
def e3G:Reg:=xA (wB (e 0)) fun a=>xA (wB (e 5)) fun b=>xA (.callv b [.int .i64 0]) fun c=>xA (wB (e 5)) fun d=>xA (.callv d [.int .i64 1]) fun f=>xA (wB (e 5)) fun g=>xA (.callv g [.int .i64 2]) fun i=>xA (wB (e 5)) fun j=>c8r e a c f i j
def c8s(a b:Value):Reg:=xB a true (wE .geq b (.int .i64 2)) fun c=>xA (wK a c (.bool false)) fun d=>xA (wB d) fun f=>xC (e.upd 85 f)
def e3H:Reg:=xA (wB (e 0)) fun a=>xA (wJ a) fun b=>xA (wC 0 b) fun c=>xA (wA none c) fun d=>xA (wE .eql d (.int .i64 4)) fun f=>xA (wB f) fun g=>xB g true (wA none (e 3)) fun i=>xB g true (wL i) fun j=>c8s e g j
def e3I:Reg:=xA (wB (e 0)) fun a=>xA (wA none (e 3)) fun b=>xA (wI 1 b (.int .i64 0)) fun c=>xA (wA none c) fun d=>xA (wO .i64 d) fun f=>xA (wJ a) fun g=>xA (wC 1 g) fun i=>xA (wF 1 i f) fun _=>xC e
def e1u:Reg:=xA (wB (e 0)) fun a=>xA (wA none (e 3)) fun b=>xA (.slice 5 1 b (some (.int .i64 2)) none) fun c=>xA (wA none (e 3)) fun d=>xA (wI 1 d (.int .i64 1)) fun f=>xA (wA none f) fun g=>xA (wO .i64 g) fun i=>xD fun h7=>xA (wD 68 [a,c,i]) fun j=>xA (wB j) fun k=>xC (e.upd 4 k)
def b6n(a b:Value):Reg:=xB a true (wE .eql b (.int .i64 1)) fun c=>xA (wK a c (.bool false)) fun d=>xA (wB d) fun f=>xB f true (wA none (e 3)) fun g=>xB f true (wI 1 g (.int .i64 0)) fun i=>xB f true (wA none i) fun j=>xB f true (wE .gtr j (.int .u8 0)) fun k=>xA (wK f k (.bool false)) fun m=>xA (wB m) fun n=>xC (e.upd 111 n)
def e1v:Reg:=xA (wB (e 0)) fun a=>xA (wJ a) fun b=>xA (wC 0 b) fun c=>xA (wA none c) fun d=>xA (wE .eql d (.int .i64 127)) fun f=>xA (wB f) fun g=>xB g true (wA none (e 3)) fun i=>xB g true (wL i) fun j=>b6n e g j
def e1w:Reg:=xA (wB (e 0)) fun a=>xA (wA none (e 3)) fun b=>xA (wI 1 b (.int .i64 0)) fun c=>xA (wA none c) fun d=>xA (wO .i64 d) fun f=>xA (wJ a) fun g=>xA (wC 11 g) fun i=>xA (wF 1 i f) fun _=>xC e
def e3A:Reg:=xA (wB (.bool false)) fun a=>xC (e.upd 4 a)
def e1x:Reg:=xA (wB (.bool true)) fun a=>xC (e.upd 4 a)
def c47:CFn:=⟨(xF (xG e3z) (xF (.block 0 (xF (xG e3B) (.cond (fun e=>e 6) (xG e3C) (xF (xG e3D) (.cond (fun e=>e 52) (xF (xG e3E) (xF (xG e3F) (xG e3G))) (xF (xG e3H) (.cond (fun e=>e 85) (xF (xG e3I) (xF (xG e1u) .ret)) (xF (xG e1v) (.cond (fun e=>e 111) (xG e1w) (xF (xG e3A) .ret)))))))))) (xF (xG e1x) .ret))),[.t 4]⟩
def p47:Pers:=⟨6,[6,52,85,111],135,[]⟩
def d3s:Reg:=xA (wB (.int .i64 0)) fun a=>xC (e.upd 2 a)
def d3t:Reg:=xA (wB (e 0)) fun a=>xA (.eqK .ptr false a (.pointer none)) fun b=>xC (e.upd 4 b)
def d3u:Reg:=xA (wB (.int .i64 0)) fun a=>xC (e.upd 2 a)
def d3v:Reg:=xA (wB (e 0)) fun a=>xA (wJ a) fun b=>xA (wC 0 b) fun c=>xA (wA none c) fun d=>xA (wD 70 [d]) fun f=>xA (wB f) fun g=>xC (e.upd 2 g)
def R49:=an (ro d3s.eq_1)<|an (ro d3t.eq_1)<|an (ro d3u.eq_1)<|ro d3v.eq_1
def c49:CFn:=⟨(xF (xG d3s) (xF (xF (xG d3t) (.cond (fun e=>e 4) (xF (xG d3u) .ret) .skip)) (xF (xG d3v) .ret))),[.t 2]⟩
def p49:Pers:=⟨3,[4],10,[]⟩
def d3w:Reg:=xA (wB (.int .i64 0)) fun a=>xC (e.upd 2 a)
def d3x:Reg:=xA (wB (e 0)) fun a=>xA (.eqK .ptr false a (.pointer none)) fun b=>xC (e.upd 4 b)
def d3y:Reg:=xA (wB (.int .i64 0)) fun a=>xC (e.upd 2 a)
def d3z:Reg:=xA (wB (e 0)) fun a=>xA (wJ a) fun b=>xA (wC 6 b) fun c=>xA (wA none c) fun d=>xA (wB d) fun f=>xC (e.upd 2 f)
def R50:=an (ro d3w.eq_1)<|an (ro d3x.eq_1)<|an (ro d3y.eq_1)<|ro d3z.eq_1
def c50:CFn:=⟨(xF (xG d3w) (xF (xF (xG d3x) (.cond (fun e=>e 4) (xF (xG d3y) .ret) .skip)) (xF (xG d3z) .ret))),[.t 2]⟩
def p50:Pers:=⟨3,[4],9,[]⟩
def d3A:Reg:=xA (wH 135 [.int .u8 0,.int .u8 0,.int .u8 0,.int .u8 0,.int .u8 0,.int .u8 0,.int .u8 0,.int .u8 0,.int .u8 0,.int .u8 0,.int .u8 0,.int .u8 0,.int .u8 0,.int .u8 0,.int .u8 0,.int .u8 0,.int .u8 0,.int .u8 0,.int .u8 0,.int .u8 0,.int .u8 0,.int .u8 0,.int .u8 0,.int .u8 0,.int .u8 0,.int .u8 0,.int .u8 0,.int .u8 0,.int .u8 0,.int .u8 0,.int .u8 0,.int .u8 0,.int .u8 0,.int .u8 0,.int .u8 0,.int .u8 0,.int .u8 0,.int .u8 0,.int .u8 0,.int .u8 0,.int .u8 0,.int .u8 0,.int .u8 0,.int .u8 0,.int .u8 0,.int .u8 0,.int .u8 0,.int .u8 0,.int .u8 0,.int .u8 0,.int .u8 0,.int .u8 0,.int .u8 0,.int .u8 0,.int .u8 0,.int .u8 0,.int .u8 0,.int .u8 0,.int .u8 0,.int .u8 0,.int .u8 0,.int .u8 0,.int .u8 0,.int .u8 0,.int .u8 0,.int .u8 0,.int .u8 0,.int .u8 0,.int .u8 0,.int .u8 0,.int .u8 0,.int .u8 0,.int .u8 0,.int .u8 0,.int .u8 0,.int .i64 0,.int .i64 0,.int .i64 0]) fun a=>xC (e.upd 2 a)
def d3B:Reg:=xA (wB (e 0)) fun a=>xA (wM [.int .u8 0,.int .u8 0,.int .u8 0,.int .u8 0,.int .u8 0,.int .u8 0,.int .u8 0,.int .u8 0,.int .u8 0,.int .u8 0,.int .u8 0,.int .u8 0,.int .u8 0,.int .u8 0,.int .u8 0,.int .u8 0,.int .u8 0,.int .u8 0,.int .u8 0,.int .u8 0,.int .u8 0,.int .u8 0,.int .u8 0,.int .u8 0,.int .u8 0,.int .u8 0,.int .u8 0,.int .u8 0,.int .u8 0,.int .u8 0,.int .u8 0,.int .u8 0,.int .u8 0,.int .u8 0,.int .u8 0,.int .u8 0,.int .u8 0,.int .u8 0,.int .u8 0,.int .u8 0,.int .u8 0,.int .u8 0,.int .u8 0,.int .u8 0,.int .u8 0,.int .u8 0,.int .u8 0,.int .u8 0,.int .u8 0,.int .u8 0,.int .u8 0,.int .u8 0,.int .u8 0,.int .u8 0,.int .u8 0,.int .u8 0,.int .u8 0,.int .u8 0,.int .u8 0,.int .u8 0,.int .u8 0,.int .u8 0,.int .u8 0,.int .u8 0,.int .u8 0,.int .u8 0,.int .u8 0,.int .u8 0,.int .u8 0,.int .u8 0,.int .u8 0,.int .u8 0,.int .u8 0,.int .u8 0,.int .u8 0,.int .i64 0,.int .i64 0,.int .i64 0] [(76,1,a)]) fun b=>xA (wF 78 (e 2) b) fun _=>xC e
def R51:=an (ro d3A.eq_1)<|ro d3B.eq_1
def c51:CFn:=⟨(xF (xG d3A) (xF (xG d3B) .ret)),[.c 2 (some 78)]⟩
def p51:Pers:=⟨3,[],5,[]⟩
def d3C:Reg:=xA (wH 61 [.int .i64 0,.int .i64 0,.int .u32 0,.string ⟨#[]⟩,.int .i64 0]) fun a=>xA (wB (.bool false)) fun b=>xA (wB (.int .i64 0)) fun c=>xC (((e.upd 4 a).upd 5 b).upd 6 c)
def d3D:Reg:=xA (wB (e 0)) fun a=>xA (wJ a) fun b=>xA (wC 77 b) fun c=>xA (wA none c) fun d=>xA (wE .neq d (.int .i64 0)) fun f=>xC (e.upd 15 f)
def d3E:Reg:=xA (wM [.int .i64 0,.int .i64 0,.int .u32 0,.string ⟨#[]⟩,.int .i64 0] []) fun a=>xA (wB (e 0)) fun b=>xA (wJ b) fun c=>xA (wC 77 c) fun d=>xA (wA none d) fun f=>xD fun h5=>xA (wF 5 (e 4) a) fun _=>xE none none (wA none d) f<|xA (wB (.bool false)) fun g=>xA (wB f) fun i=>xC ((e.upd 5 g).upd 6 i)
def d3F:Reg:=xA (wB (e 0)) fun a=>xA (wB (e 0)) fun b=>xA (wJ b) fun c=>xA (wC 75 c) fun d=>xA (wA none d) fun f=>xA (wJ a) fun g=>xA (wC 0 g) fun i=>xA (.indexArr 75 1 i f) fun j=>xA (wA none j) fun k=>xA (wB k) fun m=>xC (e.upd 7 m)
def a9G(a b c:Value):Reg:=xA (.indexArr 75 1 c a) fun d=>xD fun h9=>xA (wF 1 d b) fun _=>xC e
def d3G:Reg:=xA (wB (e 0)) fun a=>xA (wB (e 0)) fun b=>xA (wJ b) fun c=>xA (wC 75 c) fun d=>xA (wA none d) fun f=>xA (wB (e 1)) fun g=>xA (wJ a) fun i=>xA (wC 0 i) fun j=>a9G e f g j
def a9J(a b c:Value):Reg:=xA (wH 61 [.int .i64 0,.int .i64 0,.int .u32 0,.string ⟨#[]⟩,.int .i64 0]) fun d=>xD fun h24=>xA (wF 5 d a) fun _=>xA (wB b) fun f=>xA (wB c) fun g=>xC (((e.upd 8 d).upd 9 f).upd 10 g)
def a9I(a b:Value):Reg:=xA (wC 76 b) fun c=>xA (wA none c) fun d=>xD fun h18=>xA (wD 71 [a,d]) fun f=>xA (wB f) fun g=>xA (wG g 0) fun i=>xA (wG g 1) fun j=>xA (wG g 2) fun k=>a9J e i j k
def a9H(a b:Value):Reg:=xA (wB (e 0)) fun c=>xA (wJ c) fun d=>xA (wC 75 d) fun f=>xA (wA none f) fun g=>xA (wE .add g (.int .i64 1)) fun i=>xA (.sliceArr3 75 1 a none (some b) i) fun j=>xA (wB (e 0)) fun k=>xA (wJ k) fun m=>a9I e j m
def d3H:Reg:=xA (wB (e 0)) fun a=>xA (wJ a) fun b=>xA (wC 0 b) fun c=>xA (wB (e 0)) fun d=>xA (wJ d) fun f=>xA (wC 75 f) fun g=>xA (wA none g) fun i=>xA (wE .add i (.int .i64 1)) fun j=>a9H e c j
def a9K(a b c:Value):Reg:=xA (.indexArr 75 1 c a) fun d=>xD fun h9=>xA (wF 1 d b) fun _=>xC e
def d3I:Reg:=xA (wB (e 0)) fun a=>xA (wB (e 0)) fun b=>xA (wJ b) fun c=>xA (wC 75 c) fun d=>xA (wA none d) fun f=>xA (wB (e 7)) fun g=>xA (wJ a) fun i=>xA (wC 0 i) fun j=>a9K e f g j
def d3J:Reg:=xA (wA (some 5) (e 8)) fun a=>xA (wB (e 9)) fun b=>xA (wE .gtr b (.int .i64 0)) fun c=>xA (wB (e 10)) fun d=>xA (wF 5 (e 4) a) fun _=>xA (wB c) fun f=>xA (wB d) fun g=>xC ((e.upd 5 f).upd 6 g)
def R52:=an (ro d3C.eq_1)<|an (ro d3D.eq_1)<|an (ro d3E.eq_1)<|an (ro d3F.eq_1)<|an (W2 a9G.eq_1)<|an (ro d3G.eq_1)<|an (W2 a9J.eq_1)<|an (O5 a9I.eq_1)<|an (O5 a9H.eq_1)<|an (ro d3H.eq_1)<|an (W2 a9K.eq_1)<|an (ro d3I.eq_1)<|ro d3J.eq_1
def c52:CFn:=⟨(xF (xG d3C) (xF (xF (xG d3D) (.cond (fun e=>e 15) (xF (xG d3E) .ret) .skip)) (xF (xG d3F) (xF (xG d3G) (xF (xG d3H) (xF (xG d3I) (xF (xG d3J) .ret))))))),[.c 4 (some 5),.t 5,.t 6]⟩
def p52:Pers:=⟨11,[15],75,[]⟩
def d3K:Reg:=xA (wH 61 [.int .i64 0,.int .i64 0,.int .u32 0,.string ⟨#[]⟩,.int .i64 0]) fun a=>xA (wB (.bool false)) fun b=>xA (wB (.int .i64 0)) fun c=>xC (((e.upd 4 a).upd 5 b).upd 6 c)
def a9L(a b c d:Value):Reg:=xA (wF 5 d a) fun _=>xA (wB b) fun f=>xA (wB c) fun g=>xC (((e.upd 7 d).upd 8 f).upd 9 g)
def d3L:Reg:=xA (wB (e 0)) fun a=>xA (wB (e 1)) fun b=>xA (wD 52 [a,b]) fun c=>xA (wB c) fun d=>xA (wG d 0) fun f=>xA (wG d 1) fun g=>xA (wG d 2) fun i=>xA (wH 61 [.int .i64 0,.int .i64 0,.int .u32 0,.string ⟨#[]⟩,.int .i64 0]) fun j=>a9L e f g i j
def d3O:Reg:=xA (wB (e 9)) fun a=>xA (wE .neq a (.int .i64 0)) fun b=>xA (wB b) fun c=>xC (e.upd 33 c)
def d3P:Reg:=xA (wB (e 0)) fun a=>xA (wB (e 0)) fun b=>xA (wB (e 9)) fun c=>xA (wJ a) fun d=>xA (wC 77 d) fun f=>xA (wF 1 f c) fun _=>xA (wJ b) fun g=>xA (wC 75 g) fun i=>xA (wF 1 i (.int .i64 0)) fun _=>xC e
def d3Q:Reg:=xA (wB (e 8)) fun a=>xA (wB a) fun b=>xC (e.upd 43 b)
def d3R:Reg:=xA (wB (e 0)) fun a=>xA (wJ a) fun b=>xA (wC 75 b) fun c=>xA (wF 1 c (.int .i64 0)) fun _=>xC e
def a9M(a b c:Value):Reg:=xA (.indexArr 75 1 c a) fun d=>xD fun h9=>xA (wF 1 d b) fun _=>xC e
def d3M:Reg:=xA (wB (e 0)) fun a=>xA (wB (e 0)) fun b=>xA (wJ b) fun c=>xA (wC 75 c) fun d=>xA (wA none d) fun f=>xA (wB (e 1)) fun g=>xA (wJ a) fun i=>xA (wC 0 i) fun j=>a9M e f g j
def d3N:Reg:=xA (wB (e 0)) fun a=>xA (wJ a) fun b=>xA (wC 75 b) fun c=>xA (wA none c) fun d=>xA (wE .add d (.int .i64 1)) fun f=>xA (wJ a) fun g=>xA (wC 75 g) fun i=>xA (wF 1 i f) fun _=>xC e
def d3S:Reg:=xA (wA (some 5) (e 7)) fun a=>xA (wB (e 8)) fun b=>xA (wB (e 9)) fun c=>xA (wF 5 (e 4) a) fun _=>xA (wB b) fun d=>xA (wB c) fun f=>xC ((e.upd 5 d).upd 6 f)
def R53:=an (ro d3K.eq_1)<|an (ro4 a9L.eq_1)<|an (ro d3L.eq_1)<|an (ro d3O.eq_1)<|an (ro d3P.eq_1)<|an (ro d3Q.eq_1)<|an (ro d3R.eq_1)<|an (W2 a9M.eq_1)<|an (ro d3M.eq_1)<|an (ro d3N.eq_1)<|ro d3S.eq_1
def c53:CFn:=⟨(xF (xG d3K) (xF (xG d3L) (xF (.block 0 (xF (xG d3O) (.cond (fun e=>e 33) (xG d3P) (xF (xG d3Q) (.cond (fun e=>e 43) (xG d3R) (xF (xG d3M) (xG d3N))))))) (xF (xG d3S) .ret)))),[.c 4 (some 5),.t 5,.t 6]⟩
def p53:Pers:=⟨10,[33,43],51,[]⟩
def d3T:Reg:=xA (wB (.bool false)) fun a=>xC (e.upd 4 a)
def d3U:Reg:=xA (wB (e 0)) fun a=>xA (wE .geq a (.int .i64 1)) fun b=>xA (wB b) fun c=>xB c true (wB (e 0)) fun d=>xB c true (wB (e 1)) fun f=>xB c true (wE .leq d f) fun g=>xA (wK c g (.bool false)) fun i=>xA (wB i) fun j=>xC (e.upd 4 j)
def R54:=an (ro d3T.eq_1)<|ro d3U.eq_1
def c54:CFn:=⟨(xF (xG d3T) (xF (xG d3U) .ret)),[.t 4]⟩
def p54:Pers:=⟨5,[],12,[]⟩
def d3V:Reg:=xA (wN 34 (e 0)) fun a=>xA (wB (.bool false)) fun b=>xC ((e.upd 1 a).upd 2 b)
def d3W:Reg:=xA (wA (some 9) (e 1)) fun a=>xA (wM [.int .i64 0,.int .i64 0,.int .i64 0,.int .i64 0,.int .i64 0,.int .i64 0,.int .i64 0,.int .i64 0,.bool false] []) fun b=>xA (.eqAgg false [.int,.int,.int,.int,.int,.int,.int,.int,.bool] a b) fun c=>xC (e.upd 7 c)
def d3X:Reg:=xA (wB (.bool false)) fun a=>xC (e.upd 2 a)
def a9P(a:Value):Reg:=xA (wB a) fun b=>xB b false (wC 1 (e 1)) fun c=>xB b false (wA none c) fun d=>xB b false (wC 3 (e 1)) fun f=>xB b false (wA none f) fun g=>xB b false (wE .rem d g) fun i=>xB b false (wE .neq i (.int .i64 0)) fun j=>xA (wK b (.bool true) j) fun k=>xC (e.upd 39 k)
def a9O(a b:Value):Reg:=xB a false (wP .not b) fun c=>xA (wK a (.bool true) c) fun d=>xA (wB d) fun f=>xB f false (wC 3 (e 1)) fun g=>xB f false (wA none g) fun i=>xB f false (wD 54 [i,.int .i64 64]) fun j=>xB f false (wP .not j) fun k=>xA (wK f (.bool true) k) fun m=>a9P e m
def a9N(a b:Value):Reg:=xB a false (wP .not b) fun c=>xA (wK a (.bool true) c) fun d=>xA (wB d) fun f=>xB f false (wC 2 (e 1)) fun g=>xB f false (wA none g) fun i=>xB f false (wC 0 (e 1)) fun j=>xB f false (wA none j) fun k=>xB f false (wD 54 [i,k]) fun m=>a9O e f m
def d3Y:Reg:=xA (wC 0 (e 1)) fun a=>xA (wA none a) fun b=>xA (wD 54 [b,.int .i64 2147483648]) fun c=>xA (wP .not c) fun d=>xA (wB d) fun f=>xB f false (wC 1 (e 1)) fun g=>xB f false (wA none g) fun i=>xB f false (wD 54 [i,.int .i64 1099511627776]) fun j=>a9N e f j
def d3Z:Reg:=xA (wB (.bool false)) fun a=>xC (e.upd 2 a)
def a9S(a b:Value):Reg:=xB a false (wA none b) fun c=>xB a false (wB c) fun d=>xB d true (wC 3 (e 1)) fun f=>xB d true (wA none f) fun g=>xB d true (wE .lss g (.int .i64 2)) fun i=>xB a false (wK d i (.bool false)) fun j=>xA (wK a (.bool true) j) fun k=>xC (e.upd 70 k)
def a9R(a:Value):Reg:=xA (wB a) fun b=>xB b false (wC 7 (e 1)) fun c=>xB b false (wA none c) fun d=>xB b false (wD 54 [d,.int .i64 64]) fun f=>xB b false (wP .not f) fun g=>xA (wK b (.bool true) g) fun i=>xA (wB i) fun j=>xB j false (wC 8 (e 1)) fun k=>a9S e j k
def a9Q(a b:Value):Reg:=xB a false (wP .not b) fun c=>xA (wK a (.bool true) c) fun d=>xA (wB d) fun f=>xB f false (wC 6 (e 1)) fun g=>xB f false (wA none g) fun i=>xB f false (wD 54 [i,.int .i64 4096]) fun j=>xB f false (wP .not j) fun k=>xA (wK f (.bool true) k) fun m=>a9R e m
def d4a:Reg:=xA (wC 4 (e 1)) fun a=>xA (wA none a) fun b=>xA (wD 54 [b,.int .i64 1024]) fun c=>xA (wP .not c) fun d=>xA (wB d) fun f=>xB f false (wC 5 (e 1)) fun g=>xB f false (wA none g) fun i=>xB f false (wD 54 [i,.int .i64 8]) fun j=>a9Q e f j
def d4b:Reg:=xA (wB (.bool false)) fun a=>xC (e.upd 2 a)
def a9U(a:Value):Reg:=xA (wG a 0) fun b=>xA (wG a 1) fun c=>xA (wB b) fun d=>xA (wB c) fun f=>xC ((e.upd 3 d).upd 4 f)
def a9T(a b c d f:Value):Reg:=xA (wA none f) fun g=>xA (wE .sub d g) fun i=>xD fun h10=>xA (wD 73 [c,i]) fun j=>xE none none (wA none a) b<|xD fun h11=>xA (wD 72 [b,j]) fun k=>xA (wB k) fun m=>a9U e m
def d4c:Reg:=xA (wC 2 (e 1)) fun a=>xA (wA none a) fun b=>xA (wC 1 (e 1)) fun c=>xA (wA none c) fun d=>xA (wC 0 (e 1)) fun f=>xA (wA none f) fun g=>xA (wE .add g (.int .i64 1)) fun i=>xA (wC 2 (e 1)) fun j=>a9T e a b d i j
def d4d:Reg:=xA (wB (e 4)) fun a=>xA (wB a) fun b=>xB b true (wB (e 3)) fun c=>xB b true (wE .leq c (.int .i64 1152921504606846976)) fun d=>xA (wK b d (.bool false)) fun f=>xA (wB f) fun g=>xC (e.upd 2 g)
def R55:=an (ro d3V.eq_1)<|an (ro d3W.eq_1)<|an (ro d3X.eq_1)<|an (ro1 a9P.eq_1)<|an (O5 a9O.eq_1)<|an (O5 a9N.eq_1)<|an (ro d3Y.eq_1)<|an (ro d3Z.eq_1)<|an (O5 a9S.eq_1)<|an (ro1 a9R.eq_1)<|an (O5 a9Q.eq_1)<|an (ro d4a.eq_1)<|an (ro d4b.eq_1)<|an (ro1 a9U.eq_1)<|an (ro5 a9T.eq_1)<|an (ro d4c.eq_1)<|ro d4d.eq_1
def c55:CFn:=⟨(xF (xG d3V) (xF (xF (xG d3W) (.cond (fun e=>e 7) (xF (xG d3X) .ret) .skip)) (xF (xF (xG d3Y) (.cond (fun e=>e 39) (xF (xG d3Z) .ret) .skip)) (xF (xF (xG d4a) (.cond (fun e=>e 70) (xF (xG d4b) .ret) .skip)) (xF (xG d4c) (xF (xG d4d) .ret)))))),[.t 2]⟩
def p55:Pers:=⟨5,[7,39,70],91,[]⟩
def d4f:Reg:=xA (wN 30 (e 0)) fun a=>xA (wB (.int .i64 0)) fun b=>xC ((e.upd 1 a).upd 2 b)
def d4g:Reg:=xA (wB (.int .i64 6)) fun a=>xC (e.upd 3 a)
def d4h:Reg:=xA (wC 3 (e 1)) fun a=>xA (wA none a) fun b=>xA (wL b) fun c=>xA (wB (.int .i64 0)) fun d=>xC (((e.upd 9 b).upd 10 c).upd 11 d)
def d4i:Reg:=xA (wE .lss (e 11) (e 10)) fun a=>xC (e.upd 12 a)
def d4j:Reg:=xA (wI 9 (e 9) (e 11)) fun a=>xA (wA (some 9) a) fun b=>xA (wH 34 [.int .i64 0,.int .i64 0,.int .i64 0,.int .i64 0,.int .i64 0,.int .i64 0,.int .i64 0,.int .i64 0,.bool false]) fun c=>xA (wF 9 c b) fun _=>xC (e.upd 5 c)
def d4k:Reg:=xA (wM [.int .i64 0,.int .i64 0,.int .i64 0] [(0,1,(.int .i64 1)),(1,1,(.int .i64 3)),(2,1,(.int .i64 4))]) fun a=>xA (wB (.int .i64 0)) fun b=>xC ((e.upd 15 a).upd 16 b)
def d4l:Reg:=xA (wE .lss (e 16) (.int .i64 3)) fun a=>xC (e.upd 17 a)
def d4m:Reg:=xA (.indexAgg 3 1 none (e 15) (e 16)) fun a=>xA (wB a) fun b=>xC (e.upd 7 b)
def d4n:Reg:=xA (wB (e 3)) fun a=>xA (wB (e 7)) fun b=>xA (wC 7 (e 5)) fun c=>xA (wA none c) fun d=>xA (wM [.int .i64 0,.int .i64 0,.int .u32 0,.string ⟨#[]⟩,.int .i64 0] [(0,1,b),(4,1,d)]) fun f=>xA (wC 7 (e 5)) fun g=>xA (wA none g) fun i=>xA (wD 74 [f,i]) fun j=>xA (.minmax true [a,j]) fun k=>xA (wB k) fun m=>xC (e.upd 3 m)
def d4o:Reg:=xA (wE .add (e 16) (.int .i64 1)) fun a=>xA (wB a) fun b=>xC (e.upd 16 b)
def d4e:CC:=(xF (xG d4l) (xF (.cond (fun e=>e 17) .skip (.exit 2)) (xF (.block 3 (xF (xG d4m) (xG d4n))) (xG d4o))))
def c6C:Reg:=xA (wE .add (e 11) (.int .i64 1)) fun a=>xA (wB a) fun b=>xC (e.upd 11 b)
def b1O:CC:=(xF (xG d4i) (xF (.cond (fun e=>e 12) .skip (.exit 0)) (xF (.block 1 (xF (xG d4j) (xF (xG d4k) (.block 2 (.loop d4e))))) (xG c6C))))
def c6D:Reg:=xA (wB (e 3)) fun a=>xA (wB a) fun b=>xC (e.upd 2 b)
def R56:=an (ro d4f.eq_1)<|an (ro d4g.eq_1)<|an (ro d4h.eq_1)<|an (ro d4i.eq_1)<|an (ro d4j.eq_1)<|an (ro d4k.eq_1)<|an (ro d4l.eq_1)<|an (ro d4m.eq_1)<|an (ro d4n.eq_1)<|an (ro d4o.eq_1)<|an (ro c6C.eq_1)<|ro c6D.eq_1
def c56:CFn:=⟨(xF (xG d4f) (xF (xG d4g) (xF (xF (xG d4h) (.block 0 (.loop b1O))) (xF (xG c6D) .ret)))),[.t 2]⟩
def p56:Pers:=⟨8,[9,10,11,12,15,16,17],31,[]⟩
def d4p:Reg:=xA (wN 30 (e 0)) fun a=>xA (wB (.int .i64 0)) fun b=>xC ((e.upd 1 a).upd 2 b)
def d4q:Reg:=xA (wC 1 (e 1)) fun a=>xA (wA none a) fun b=>xA (wC 2 (e 1)) fun c=>xA (wA none c) fun d=>xD fun h4=>xA (wD 75 [d]) fun f=>xE none none (wA none a) b<|xA (wE .mul b f) fun g=>xA (wB g) fun i=>xC (e.upd 3 i)
def d4r:Reg:=xA (wC 3 (e 1)) fun a=>xA (wA none a) fun b=>xA (wL b) fun c=>xA (wB (.int .i64 0)) fun d=>xC (((e.upd 13 b).upd 14 c).upd 15 d)
def d4s:Reg:=xA (wE .lss (e 15) (e 14)) fun a=>xC (e.upd 16 a)
def d4t:Reg:=xA (wI 9 (e 13) (e 15)) fun a=>xA (wA (some 9) a) fun b=>xA (wH 34 [.int .i64 0,.int .i64 0,.int .i64 0,.int .i64 0,.int .i64 0,.int .i64 0,.int .i64 0,.int .i64 0,.bool false]) fun c=>xA (wF 9 c b) fun _=>xC (e.upd 5 c)
def d4u:Reg:=xA (wB (e 3)) fun a=>xA (wA (some 9) (e 5)) fun b=>xA (wD 76 [b]) fun c=>xA (wE .add a c) fun d=>xA (wB d) fun f=>xC (e.upd 3 f)
def d4v:Reg:=xA (wE .add (e 15) (.int .i64 1)) fun a=>xA (wB a) fun b=>xC (e.upd 15 b)
def b1P:CC:=(xF (xG d4s) (xF (.cond (fun e=>e 16) .skip (.exit 0)) (xF (.block 1 (xF (xG d4t) (xG d4u))) (xG d4v))))
def d4w:Reg:=xA (wB (e 3)) fun a=>xA (wB a) fun b=>xC (e.upd 2 b)
def R57:=an (ro d4p.eq_1)<|an (ro d4q.eq_1)<|an (ro d4r.eq_1)<|an (ro d4s.eq_1)<|an (ro d4t.eq_1)<|an (ro d4u.eq_1)<|an (ro d4v.eq_1)<|ro d4w.eq_1
def c57:CFn:=⟨(xF (xG d4p) (xF (xG d4q) (xF (xF (xG d4r) (.block 0 (.loop b1P))) (xF (xG d4w) .ret)))),[.t 2]⟩
def p57:Pers:=⟨6,[13,14,15,16],25,[]⟩
def d4x:Reg:=xA (wB (.pointer none)) fun a=>xC (e.upd 4 a)
def d4y:Reg:=xA (wB (e 1)) fun a=>xA (wD 77 [a]) fun b=>xA (wB b) fun c=>xC (e.upd 5 c)
def d4z:Reg:=xA (wB (e 5)) fun a=>xA (.eqK .ptr false a (.pointer none)) fun b=>xC (e.upd 9 b)
def d4A:Reg:=xA (wB (.pointer none)) fun a=>xC (e.upd 4 a)
def d4B:Reg:=xA (wB (e 5)) fun a=>xA (wB (e 0)) fun b=>xA (wM [.int .u8 0,.int .u8 0,.int .u8 0,.int .u8 0,.int .u8 0,.int .u8 0,.int .u8 0,.int .u8 0,.int .u8 0,.int .u8 0,.int .u8 0,.int .u8 0,.int .u8 0,.int .u8 0,.int .u8 0,.int .u8 0,.int .u8 0,.int .u8 0,.int .u8 0,.int .u8 0,.int .u8 0,.int .u8 0,.int .u8 0,.int .u8 0,.int .u8 0,.int .u8 0,.int .u8 0,.int .u8 0,.int .u8 0,.int .u8 0,.int .u8 0,.int .u8 0,.int .u8 0,.int .u8 0,.int .u8 0,.int .u8 0,.int .u8 0,.int .u8 0,.int .u8 0,.int .u8 0,.int .u8 0,.int .u8 0,.int .u8 0,.int .u8 0,.int .u8 0,.int .u8 0,.int .u8 0,.int .u8 0,.int .u8 0,.int .u8 0,.int .u8 0,.int .u8 0,.int .u8 0,.int .u8 0,.int .u8 0,.int .u8 0,.int .u8 0,.int .u8 0,.int .u8 0,.int .u8 0,.int .u8 0,.int .u8 0,.int .u8 0,.int .u8 0,.int .u8 0,.int .u8 0,.int .u8 0,.int .u8 0,.int .u8 0,.int .u8 0,.int .u8 0,.int .u8 0,.int .u8 0,.int .u8 0,.int .u8 0,.int .i64 0,.int .i64 0,.int .i64 0,.pointer none,.int .i64 0,.bool false] [(78,1,a),(79,1,b)]) fun c=>xA (wN 149 c) fun d=>xA (wB d) fun f=>xC (e.upd 4 f)
def R58:=an (ro d4x.eq_1)<|an (ro d4y.eq_1)<|an (ro d4z.eq_1)<|an (ro d4A.eq_1)<|ro d4B.eq_1
def c58:CFn:=⟨(xF (xG d4x) (xF (xG d4y) (xF (xF (xG d4z) (.cond (fun e=>e 9) (xF (xG d4A) .ret) .skip)) (xF (xG d4B) .ret)))),[.t 4]⟩
def p58:Pers:=⟨6,[9],14,[]⟩
def d4C:Reg:=xA (wN 34 (e 0)) fun a=>xA (wB (.pointer none)) fun b=>xC ((e.upd 2 a).upd 4 b)
def d4D:Reg:=xA (wB (e 1)) fun a=>xA (wC 5 (e 2)) fun b=>xA (wA none b) fun c=>xA (wE .add c (.int .i64 1)) fun d=>xA (wD 78 [a,d]) fun f=>xA (wB f) fun g=>xC (e.upd 5 g)
def d4E:Reg:=xA (wB (e 5)) fun a=>xA (wB (e 5)) fun b=>xA (wL b) fun c=>xA (wE .sub c (.int .i64 1)) fun d=>xA (wI 3 a d) fun f=>xA (wA (some 3) f) fun g=>xA (wH 182 [.int .u64 0,.int .u64 0,.int .u64 0]) fun i=>xA (wF 3 i g) fun _=>xC (e.upd 6 i)
def a9Y(a:Value)(h2:Heap)(b:Value)(h6:Heap)(c:Value)(h12:Heap)(d f:Value):Reg:=xA (wA (some 3) (e 6)) fun g=>xE none (some h12) (wA (some 3) (e 6)) g<|xE none (some h6) (wA (some 3) (e 6)) g<|xE none (some h2) (wA (some 3) (e 6)) g<|xD fun h16=>xA (wD 82 [f,g]) fun i=>xE none none (wA (some 9) (e 2)) a<|xA (wM [.int .i64 0,.int .i64 0,.int .i64 0,.int .i64 0,.int .i64 0,.int .i64 0,.int .i64 0,.int .i64 0,.bool false,.int .i64 0,.int .i64 0,.int .i64 0,.int .i64 0,.pointer none,.pointer none,.pointer none,.int .i64 0,.int .i64 0,.int .i64 0,.int .i64 0,.int .i64 0] [(0,9,a),(9,4,b),(13,1,c),(14,1,d),(15,1,i)]) fun j=>xA (wN 131 j) fun k=>xA (wB k) fun m=>xC (e.upd 4 m)
def a9X(a:Value)(h2:Heap)(b:Value)(h6:Heap)(c d f:Value):Reg:=xD fun h12=>xA (wD 81 [d,f]) fun g=>xE none none (wA (some 9) (e 2)) a<|xA (wC 7 (e 2)) fun i=>xA (wA none i) fun j=>xE none (some h12) (wA none i) j<|xE none (some h6) (wA none i) j<|xE none (some h2) (wA none i) j<|a9Y e a h2 b h6 c h12 g j
def a9W(a:Value)(h2:Heap)(b:Value)(h6:Heap)(c d:Value):Reg:=xA (wB (e 5)) fun f=>xA (wC 5 (e 2)) fun g=>xA (wA none g) fun i=>xE none (some h6) (wA none g) i<|xE none (some h2) (wA none g) i<|xA (.slice 182 3 f none (some i)) fun j=>xE none (some h6) (.slice 182 3 f none (some i)) j<|xE none (some h2) (.slice 182 3 f none (some i)) j<|a9X e a h2 b h6 c d j
def a9V(a:Value)(h2:Heap)(b c:Value):Reg:=xA (wA (some 3) (e 6)) fun d=>xE none (some h2) (wA (some 3) (e 6)) d<|xD fun h6=>xA (wD 80 [c,d]) fun f=>xE none none (wA (some 9) (e 2)) a<|xA (wA (some 9) (e 2)) fun g=>xE none (some h6) (wA (some 9) (e 2)) g<|xE none (some h2) (wA (some 9) (e 2)) g<|a9W e a h2 b h6 f g
def d4F:Reg:=xA (wA (some 9) (e 2)) fun a=>xA (wA (some 9) (e 2)) fun b=>xD fun h2=>xA (wD 79 [b]) fun c=>xE none none (wA (some 9) (e 2)) a<|xA (wC 4 (e 2)) fun d=>xA (wA none d) fun f=>xE none (some h2) (wA none d) f<|a9V e a h2 c f
def R59:=an (ro d4C.eq_1)<|an (ro d4D.eq_1)<|an (ro d4E.eq_1)<|an (ro8 a9Y.eq_1)<|an (ro7 a9X.eq_1)<|an (ro6 a9W.eq_1)<|an (ro4 a9V.eq_1)<|ro d4F.eq_1
def c59:CFn:=⟨(xF (xG d4C) (xF (xG d4D) (xF (xG d4E) (xF (xG d4F) .ret)))),[.t 4]⟩
def p59:Pers:=⟨7,[],37,[]⟩
def d4G:Reg:=xA (wB (.slice none 0 0)) fun a=>xC (e.upd 6 a)
def d4H:Reg:=xA (wB (e 2)) fun a=>xA (.makeSlice 78 1 8 [.int .u64 0] a a) fun b=>xA (wB b) fun c=>xC (e.upd 7 c)
def d4I:Reg:=xA (wB (e 7)) fun a=>xA (wL a) fun b=>xA (wB (.int .i64 0)) fun c=>xC ((e.upd 12 b).upd 13 c)
def d4J:Reg:=xA (wE .lss (e 13) (e 12)) fun a=>xC (e.upd 14 a)
def d4K:Reg:=xA (wB (e 13)) fun a=>xA (wB a) fun b=>xC (e.upd 8 b)
def d4L:Reg:=xA (wB (e 0)) fun a=>xA (wL a) fun b=>xA (wE .gtr b (.int .i64 0)) fun c=>xC (e.upd 18 c)
def b0a(a b c d:Value):Reg:=xA (wO .u64 d) fun f=>xA (wE .mul f (.int .u64 11400714819323198485)) fun g=>xA (wE .xor c g) fun i=>xA (wI 1 a b) fun j=>xA (wF 1 j i) fun _=>xC e
def a9Z(a b c d f:Value):Reg:=xA (wE .rem d f) fun g=>xA (wI 1 c g) fun i=>xA (wA none i) fun j=>xA (wB (e 1)) fun k=>xA (wO .u64 k) fun m=>xA (wE .shl m (.int .u64 56)) fun n=>xA (wE .xor j n) fun o=>xA (wB (e 8)) fun p=>b0a e a b o p
def d4M:Reg:=xA (wB (e 7)) fun a=>xA (wB (e 8)) fun b=>xA (wB (e 0)) fun c=>xA (wB (e 1)) fun d=>xA (wB (e 8)) fun f=>xA (wE .add d f) fun g=>xA (wB (e 0)) fun i=>xA (wL i) fun j=>a9Z e a b c g j
def d4N:Reg:=xA (wE .add (e 13) (.int .i64 1)) fun a=>xA (wB a) fun b=>xC (e.upd 13 b)
def a7y:CC:=(xF (xG d4J) (xF (.cond (fun e=>e 14) .skip (.exit 0)) (xF (.block 1 (xF (xG d4K) (xF (xG d4L) (.cond (fun e=>e 18) (xG d4M) .skip)))) (xG d4N))))
def d4O:Reg:=xA (wB (e 7)) fun a=>xA (wB a) fun b=>xC (e.upd 6 b)
def R60:=an (ro d4G.eq_1)<|an (ro d4H.eq_1)<|an (ro d4I.eq_1)<|an (ro d4J.eq_1)<|an (ro d4K.eq_1)<|an (ro d4L.eq_1)<|an (ro4 b0a.eq_1)<|an (ro5 a9Z.eq_1)<|an (ro d4M.eq_1)<|an (ro d4N.eq_1)<|ro d4O.eq_1
def c60:CFn:=⟨(xF (xG d4G) (xF (xG d4H) (xF (xF (xG d4I) (.block 0 (.loop a7y))) (xF (xG d4O) .ret)))),[.t 6]⟩
def p60:Pers:=⟨9,[12,13,14,18],41,[]⟩
def d4P:Reg:=xA (wB (e 0)) fun a=>xA (.eqK .ptr true a (.pointer none)) fun b=>xC (e.upd 3 b)
def d4Q:Reg:=xA (wB (e 0)) fun a=>xA (wB (e 0)) fun b=>xA (wJ a) fun c=>xA (wC 1 c) fun d=>xA (wF 1 d (.int .i64 0)) fun _=>xA (wJ b) fun f=>xA (wC 2 f) fun g=>xA (wF 1 g (.int .i64 0)) fun _=>xC e
def R61:=an (ro d4P.eq_1)<|ro d4Q.eq_1
def c61:CFn:=⟨(xF (xG d4P) (.cond (fun e=>e 3) (xG d4Q) .skip)),[]⟩
def p61:Pers:=⟨2,[3],10,[]⟩
def d4R:Reg:=xA (wB (.int .i64 0)) fun a=>xC (e.upd 2 a)
def d4S:Reg:=xA (wB (e 0)) fun a=>xA (wJ a) fun b=>xA (wC 77 b) fun c=>xA (wA none c) fun d=>xA (wB d) fun f=>xC (e.upd 2 f)
def R62:=an (ro d4R.eq_1)<|ro d4S.eq_1
def c62:CFn:=⟨(xF (xG d4R) (xF (xG d4S) .ret)),[.t 2]⟩
def p62:Pers:=⟨3,[],7,[]⟩
def d4T:Reg:=xA (wB (.int .i64 0)) fun a=>xC (e.upd 2 a)
def d4U:Reg:=xA (wB (e 0)) fun a=>xA (.eqK .ptr false a (.pointer none)) fun b=>xC (e.upd 4 b)
def d4V:Reg:=xA (wB (.int .i64 0)) fun a=>xC (e.upd 2 a)
def b0b(a b:Value):Reg:=xA (wA none b) fun c=>xA (wE .sub a c) fun d=>xA (wB d) fun f=>xC (e.upd 2 f)
def d4W:Reg:=xA (wB (e 0)) fun a=>xA (wJ a) fun b=>xA (wC 0 b) fun c=>xA (wA none c) fun d=>xA (wL d) fun f=>xA (wB (e 0)) fun g=>xA (wJ g) fun i=>xA (wC 2 i) fun j=>b0b e f j
def R63:=an (ro d4T.eq_1)<|an (ro d4U.eq_1)<|an (ro d4V.eq_1)<|an (O5 b0b.eq_1)<|ro d4W.eq_1
def c63:CFn:=⟨(xF (xG d4T) (xF (xF (xG d4U) (.cond (fun e=>e 4) (xF (xG d4V) .ret) .skip)) (xF (xG d4W) .ret))),[.t 2]⟩
def p63:Pers:=⟨3,[4],15,[]⟩
def d4X:Reg:=xA (wB (.bool false)) fun a=>xC (e.upd 4 a)
def d4Y:Reg:=xA (wB (e 1)) fun a=>xA (wL a) fun b=>xA (wB (e 0)) fun c=>xA (wD 63 [c]) fun d=>xA (wE .gtr b d) fun f=>xC (e.upd 11 f)
def d4Z:Reg:=xA (wB (.bool false)) fun a=>xC (e.upd 4 a)
def d5a:Reg:=xA (wB (e 1)) fun a=>xA (wL a) fun b=>xA (wB (.int .i64 0)) fun c=>xC (((e.upd 12 a).upd 13 b).upd 14 c)
def d5b:Reg:=xA (wE .lss (e 14) (e 13)) fun a=>xC (e.upd 15 a)
def d5c:Reg:=xA (wI 1 (e 12) (e 14)) fun a=>xA (wA none a) fun b=>xA (wB b) fun c=>xC (e.upd 6 c)
def b0d(a b c:Value):Reg:=xA (wA none c) fun d=>xA (wL d) fun f=>xA (wE .rem b f) fun g=>xA (wB (e 6)) fun i=>xA (wI 1 a g) fun j=>xD fun h21=>xA (wF 1 j i) fun _=>xC e
def b0c(a b:Value):Reg:=xA (wB (e 0)) fun c=>xA (wJ c) fun d=>xA (wC 2 d) fun f=>xA (wA none f) fun g=>xA (wE .add b g) fun i=>xA (wB (e 0)) fun j=>xA (wJ j) fun k=>xA (wC 0 k) fun m=>b0d e a i m
def d5d:Reg:=xA (wB (e 0)) fun a=>xA (wJ a) fun b=>xA (wC 0 b) fun c=>xA (wA none c) fun d=>xA (wB (e 0)) fun f=>xA (wJ f) fun g=>xA (wC 1 g) fun i=>xA (wA none i) fun j=>b0c e d j
def d5e:Reg:=xA (wB (e 0)) fun a=>xA (wJ a) fun b=>xA (wC 2 b) fun c=>xA (wA none c) fun d=>xA (wE .add d (.int .i64 1)) fun f=>xA (wJ a) fun g=>xA (wC 2 g) fun i=>xA (wF 1 i f) fun _=>xC e
def d5f:Reg:=xA (wE .add (e 14) (.int .i64 1)) fun a=>xA (wB a) fun b=>xC (e.upd 14 b)
def b1Q:CC:=(xF (xG d5b) (xF (.cond (fun e=>e 15) .skip (.exit 0)) (xF (.block 1 (xF (xG d5c) (xF (xG d5d) (xG d5e)))) (xG d5f))))
def d5g:Reg:=xA (wB (.bool true)) fun a=>xC (e.upd 4 a)
def R64:=an (ro d4X.eq_1)<|an (ro d4Y.eq_1)<|an (ro d4Z.eq_1)<|an (ro d5a.eq_1)<|an (ro d5b.eq_1)<|an (ro d5c.eq_1)<|an (W2 b0d.eq_1)<|an (O5 b0c.eq_1)<|an (ro d5d.eq_1)<|an (ro d5e.eq_1)<|an (ro d5f.eq_1)<|ro d5g.eq_1
def c64:CFn:=⟨(xF (xG d4X) (xF (xF (xG d4Y) (.cond (fun e=>e 11) (xF (xG d4Z) .ret) .skip)) (xF (xF (xG d5a) (.block 0 (.loop b1Q))) (xF (xG d5g) .ret)))),[.t 4]⟩
def p64:Pers:=⟨7,[11,12,13,14,15],47,[]⟩
def d5h:Reg:=xA (wB (.slice none 0 0)) fun a=>xC (e.upd 2 a)
def d5i:Reg:=xA (wB (e 0)) fun a=>xA (wO .u8 a) fun b=>xA (.buildSlice 5 2 [.int .u8 0] [(0,1,(.int .u8 255)),(1,1,b)]) fun c=>xA (wD 45 [.int .u8 168,c]) fun d=>xA (wB d) fun f=>xC (e.upd 2 f)
def R65:=an (ro d5h.eq_1)<|ro d5i.eq_1
def c65:CFn:=⟨(xF (xG d5h) (xF (xG d5i) .ret)),[.t 2]⟩
def p65:Pers:=⟨3,[],7,[]⟩
def d5j:Reg:=xA (wB (.slice none 0 0)) fun a=>xC (e.upd 4 a)
def d5k:Reg:=xA (wB (.slice none 0 0)) fun a=>xC (e.upd 5 a)
def d5l:Reg:=xA (wB (e 1)) fun a=>xA (.minmax true [a,.int .i64 0]) fun b=>xA (wB (e 0)) fun c=>xA (wD 83 [c]) fun d=>xA (.minmax false [b,d]) fun f=>xA (wB (.int .i64 0)) fun g=>xC ((e.upd 10 f).upd 11 g)
def d5m:Reg:=xA (wE .lss (e 11) (e 10)) fun a=>xC (e.upd 12 a)
def b0e(a b c:Value):Reg:=xA (wA none c) fun d=>xA (wI 1 b d) fun f=>xA (wA none f) fun g=>xA (.buildSlice 5 1 [.int .u8 0] [(0,1,g)]) fun i=>xD fun h12=>xA (.append 5 1 1 a i) fun j=>xA (wB j) fun k=>xC (e.upd 5 k)
def d5n:Reg:=xA (wB (e 5)) fun a=>xA (wB (e 0)) fun b=>xA (wJ b) fun c=>xA (wC 0 c) fun d=>xA (wA none d) fun f=>xA (wB (e 0)) fun g=>xA (wJ g) fun i=>xA (wC 1 i) fun j=>b0e e a f j
def b0f(a b c:Value):Reg:=xA (wC 0 c) fun d=>xA (wA none d) fun f=>xA (wL f) fun g=>xA (wE .rem b g) fun i=>xA (wJ a) fun j=>xA (wC 1 j) fun k=>xD fun h14=>xA (wF 1 k i) fun _=>xC e
def d5o:Reg:=xA (wB (e 0)) fun a=>xA (wB (e 0)) fun b=>xA (wJ b) fun c=>xA (wC 1 c) fun d=>xA (wA none d) fun f=>xA (wE .add f (.int .i64 1)) fun g=>xA (wB (e 0)) fun i=>xA (wJ i) fun j=>b0f e a g j
def d5p:Reg:=xA (wB (e 0)) fun a=>xA (wJ a) fun b=>xA (wC 2 b) fun c=>xA (wA none c) fun d=>xA (wE .sub d (.int .i64 1)) fun f=>xA (wJ a) fun g=>xA (wC 2 g) fun i=>xA (wF 1 i f) fun _=>xC e
def d5q:Reg:=xA (wE .add (e 11) (.int .i64 1)) fun a=>xA (wB a) fun b=>xC (e.upd 11 b)
def b1R:CC:=(xF (xG d5m) (xF (.cond (fun e=>e 12) .skip (.exit 0)) (xF (.block 1 (xF (xG d5n) (xF (xG d5o) (xG d5p)))) (xG d5q))))
def d5r:Reg:=xA (wB (e 5)) fun a=>xA (wB a) fun b=>xC (e.upd 4 b)
def R66:=an (ro d5j.eq_1)<|an (ro d5k.eq_1)<|an (ro d5l.eq_1)<|an (ro d5m.eq_1)<|an (W2 b0e.eq_1)<|an (ro d5n.eq_1)<|an (W2 b0f.eq_1)<|an (ro d5o.eq_1)<|an (ro d5p.eq_1)<|an (ro d5q.eq_1)<|ro d5r.eq_1
def c66:CFn:=⟨(xF (xG d5j) (xF (xG d5k) (xF (xF (xG d5l) (.block 0 (.loop b1R))) (xF (xG d5r) .ret)))),[.t 4]⟩
def p66:Pers:=⟨6,[10,11,12],49,[]⟩
def d5s:Reg:=xA (wB (.int .i64 0)) fun a=>xC (e.upd 2 a)
def d5t:Reg:=xA (wB (e 0)) fun a=>xA (.eqK .ptr false a (.pointer none)) fun b=>xC (e.upd 4 b)
def d5u:Reg:=xA (wB (.int .i64 0)) fun a=>xC (e.upd 2 a)
def d5v:Reg:=xA (wB (e 0)) fun a=>xA (wJ a) fun b=>xA (wC 4 b) fun c=>xA (wA none c) fun d=>xA (wB d) fun f=>xC (e.upd 2 f)
def R70:=an (ro d5s.eq_1)<|an (ro d5t.eq_1)<|an (ro d5u.eq_1)<|ro d5v.eq_1
def c70:CFn:=⟨(xF (xG d5s) (xF (xF (xG d5t) (.cond (fun e=>e 4) (xF (xG d5u) .ret) .skip)) (xF (xG d5v) .ret))),[.t 2]⟩
def p70:Pers:=⟨3,[4],9,[]⟩
def d5w:Reg:=xA (wH 61 [.int .i64 0,.int .i64 0,.int .u32 0,.string ⟨#[]⟩,.int .i64 0]) fun a=>xA (wB (.int .i64 0)) fun b=>xA (wB (.int .i64 0)) fun c=>xC (((e.upd 4 a).upd 5 b).upd 6 c)
def d5x:Reg:=xA (wB (e 0)) fun a=>xA (wB (e 1)) fun b=>xA (wD 84 [a,b]) fun c=>xA (wB c) fun d=>xC (e.upd 7 d)
def d5y:Reg:=xA (wB (e 7)) fun a=>xA (wE .neq a (.int .i64 0)) fun b=>xC (e.upd 14 b)
def d5z:Reg:=xA (wM [.int .i64 0,.int .i64 0,.int .u32 0,.string ⟨#[]⟩,.int .i64 0] []) fun a=>xA (wB (e 7)) fun b=>xA (wF 5 (e 4) a) fun _=>xA (wB (.int .i64 0)) fun c=>xA (wB b) fun d=>xC ((e.upd 5 c).upd 6 d)
def b0g(a b c:Value):Reg:=xB a false (wA none c) fun d=>xB a false (wO .i64 d) fun f=>xB a false (wE .add (.int .i64 4) f) fun g=>xB a false (wE .lss b g) fun i=>xA (wK a (.bool true) i) fun j=>xC (e.upd 29 j)
def d5A:Reg:=xA (wB (e 0)) fun a=>xA (wL a) fun b=>xA (wE .lss b (.int .i64 4)) fun c=>xA (wB c) fun d=>xB d false (wB (e 0)) fun f=>xB d false (wL f) fun g=>xB d false (wB (e 0)) fun i=>xB d false (wI 1 i (.int .i64 3)) fun j=>b0g e d g j
def d5B:Reg:=xA (wM [.int .i64 0,.int .i64 0,.int .u32 0,.string ⟨#[]⟩,.int .i64 0] []) fun a=>xA (wF 5 (e 4) a) fun _=>xA (wB (.int .i64 0)) fun b=>xA (wB (.int .i64 0)) fun c=>xC ((e.upd 5 b).upd 6 c)
def d5C:Reg:=xA (wB (e 0)) fun a=>xA (wI 1 a (.int .i64 3)) fun b=>xA (wA none b) fun c=>xA (wO .i64 c) fun d=>xA (wE .add (.int .i64 4) d) fun f=>xA (wB f) fun g=>xC (e.upd 8 g)
def b0h(a b:Value):Reg:=xA (wM [.int .i64 0,.int .i64 0,.int .u32 0,.string ⟨#[]⟩,.int .i64 0] [(0,1,a),(1,1,b)]) fun c=>xA (wH 61 [.int .i64 0,.int .i64 0,.int .u32 0,.string ⟨#[]⟩,.int .i64 0]) fun d=>xD fun h10=>xA (wF 5 d c) fun _=>xC (e.upd 9 d)
def d5D:Reg:=xA (wB (e 0)) fun a=>xA (wI 1 a (.int .i64 4)) fun b=>xA (wA none b) fun c=>xA (wO .i64 c) fun d=>xA (wB (e 0)) fun f=>xA (wI 1 f (.int .i64 5)) fun g=>xA (wA none g) fun i=>xA (wO .i64 i) fun j=>b0h e d j
def d5E:Reg:=xA (wC 0 (e 9)) fun a=>xA (wA none a) fun b=>xC (e.upd 46 b)
def d5F:Reg:=xA (wE .eql (e 46) (.int .i64 1)) fun a=>xA (wB a) fun b=>xC (e.upd 47 b)
def c6E:Reg:=xA (wE .eql (e 46) (.int .i64 2)) fun a=>xA (wB a) fun b=>xC (e.upd 47 b)
def a7A(a:Value):Reg:=xA (wC 3 (e 9)) fun b=>xD fun h11=>xA (wF 1 b a) fun _=>xC e
def a7z(h2:Heap)(a b c d:Value):Reg:=xE none (some h2) (.slice 5 1 b (some (.int .i64 11)) (some c)) d<|xA (.toStr d) fun f=>xE none (some h2) (.toStr d) f<|xA (wC 2 (e 9)) fun g=>xD fun h9=>xA (wF 1 g a) fun _=>xE none none (.toStr d) f<|xE none none (.slice 5 1 b (some (.int .i64 11)) (some c)) d<|a7A e f
def c6F:Reg:=xA (wB (e 0)) fun a=>xA (.slice 5 1 a (some (.int .i64 6)) (some (.int .i64 10))) fun b=>xD fun h2=>xA (wD 46 [b]) fun c=>xA (wO .u32 c) fun d=>xA (wB (e 0)) fun f=>xA (wB (e 8)) fun g=>xA (.slice 5 1 f (some (.int .i64 11)) (some g)) fun i=>a7z e h2 d f g i
def c6G:Reg:=xA (wE .eql (e 46) (.int .i64 4)) fun a=>xA (wB a) fun b=>xC (e.upd 60 b)
def c6H:Reg:=xA (wB (e 0)) fun a=>xA (wI 1 a (.int .i64 6)) fun b=>xA (wA none b) fun c=>xA (wO .i64 c) fun d=>xA (wC 4 (e 9)) fun f=>xA (wF 1 f d) fun _=>xC e
def c6I:Reg:=xA (wA (some 5) (e 9)) fun a=>xA (wB (e 8)) fun b=>xA (wF 5 (e 4) a) fun _=>xA (wB b) fun c=>xA (wB (.int .i64 0)) fun d=>xC ((e.upd 5 c).upd 6 d)
def R71:=an (ro d5w.eq_1)<|an (ro d5x.eq_1)<|an (ro d5y.eq_1)<|an (ro d5z.eq_1)<|an (W2 b0g.eq_1)<|an (ro d5A.eq_1)<|an (ro d5B.eq_1)<|an (ro d5C.eq_1)<|an (O5 b0h.eq_1)<|an (ro d5D.eq_1)<|an (ro d5E.eq_1)<|an (ro d5F.eq_1)<|an (ro c6E.eq_1)<|an (ro1 a7A.eq_1)<|an (ro5 a7z.eq_1)<|an (ro c6F.eq_1)<|an (ro c6G.eq_1)<|an (ro c6H.eq_1)<|ro c6I.eq_1
def c71:CFn:=⟨(xF (xG d5w) (xF (xF (xG d5x) (xF (xG d5y) (.cond (fun e=>e 14) (xF (xG d5z) .ret) .skip))) (xF (xF (xG d5A) (.cond (fun e=>e 29) (xF (xG d5B) .ret) .skip)) (xF (xG d5C) (xF (xG d5D) (xF (xF (xG d5E) (.block 0 (xF (xF (xG d5F) (.cond (fun e=>e 47) .skip (xG c6E))) (.cond (fun e=>e 47) (xG c6F) (xF (xG c6G) (.cond (fun e=>e 60) (xG c6H) .skip)))))) (xF (xG c6I) .ret))))))),[.c 4 (some 5),.t 5,.t 6]⟩
def p71:Pers:=⟨10,[14,29,46,47,60],69,[]⟩
def d5G:Reg:=xA (wB (.int .i64 0)) fun a=>xA (wB (.bool false)) fun b=>xC ((e.upd 4 a).upd 5 b)
def d5H:Reg:=xA (wB (e 0)) fun a=>xA (wO .u64 a) fun b=>xA (wB (e 1)) fun c=>xA (wO .u64 c) fun d=>xA (wD 85 [b,d]) fun f=>xA (wB f) fun g=>xA (wG g 0) fun i=>xA (wG g 1) fun j=>xA (wB i) fun k=>xA (wB j) fun m=>xC ((e.upd 6 k).upd 7 m)
def d5I:Reg:=xA (wB (e 6)) fun a=>xA (wO .i64 a) fun b=>xA (wB b) fun c=>xC (e.upd 8 c)
def d5J:Reg:=xA (wB (e 0)) fun a=>xA (wE .lss a (.int .i64 0)) fun b=>xC (e.upd 20 b)
def d5K:Reg:=xA (wB (e 8)) fun a=>xA (wB (e 1)) fun b=>xA (wE .sub a b) fun c=>xA (wB c) fun d=>xC (e.upd 8 d)
def d5L:Reg:=xA (wB (e 1)) fun a=>xA (wE .lss a (.int .i64 0)) fun b=>xC (e.upd 25 b)
def d5M:Reg:=xA (wB (e 8)) fun a=>xA (wB (e 0)) fun b=>xA (wE .sub a b) fun c=>xA (wB c) fun d=>xC (e.upd 8 d)
def d5N:Reg:=xA (wB (e 7)) fun a=>xA (wO .i64 a) fun b=>xA (wB (e 8)) fun c=>xA (wB (e 7)) fun d=>xA (wO .i64 d) fun f=>xA (wE .shr f (.int .u64 63)) fun g=>xA (wE .eql c g) fun i=>xA (wB b) fun j=>xA (wB i) fun k=>xC ((e.upd 4 j).upd 5 k)
def R72:=an (ro d5G.eq_1)<|an (ro d5H.eq_1)<|an (ro d5I.eq_1)<|an (ro d5J.eq_1)<|an (ro d5K.eq_1)<|an (ro d5L.eq_1)<|an (ro d5M.eq_1)<|ro d5N.eq_1
def c72:CFn:=⟨(xF (xG d5G) (xF (xG d5H) (xF (xG d5I) (xF (xF (xG d5J) (.cond (fun e=>e 20) (xG d5K) .skip)) (xF (xF (xG d5L) (.cond (fun e=>e 25) (xG d5M) .skip)) (xF (xG d5N) .ret)))))),[.t 4,.t 5]⟩
def p72:Pers:=⟨9,[20,25],36,[]⟩
def d5O:Reg:=xA (wB (.int .i64 0)) fun a=>xC (e.upd 4 a)
def d5P:Reg:=xA (wB (e 0)) fun a=>xA (wE .lss a (.int .i64 0)) fun b=>xA (wB b) fun c=>xB c false (wB (e 1)) fun d=>xB c false (wE .lss d (.int .i64 1)) fun f=>xA (wK c (.bool true) f) fun g=>xC (e.upd 11 g)
def d5Q:Reg:=xA (wB (.int .i64 0)) fun a=>xC (e.upd 4 a)
def d5R:Reg:=xA (wB (e 0)) fun a=>xA (wB (e 1)) fun b=>xA (wE .quo a b) fun c=>xA (wB c) fun d=>xC (e.upd 5 d)
def d5S:Reg:=xA (wB (e 0)) fun a=>xA (wB (e 1)) fun b=>xA (wE .rem a b) fun c=>xA (wE .gtr c (.int .i64 0)) fun d=>xC (e.upd 18 d)
def d5T:Reg:=xA (wB (e 5)) fun a=>xA (wE .add a (.int .i64 1)) fun b=>xA (wB b) fun c=>xC (e.upd 5 c)
def d5U:Reg:=xA (wB (e 5)) fun a=>xA (wB a) fun b=>xC (e.upd 4 b)
def R73:=an (ro d5O.eq_1)<|an (ro d5P.eq_1)<|an (ro d5Q.eq_1)<|an (ro d5R.eq_1)<|an (ro d5S.eq_1)<|an (ro d5T.eq_1)<|ro d5U.eq_1
def c73:CFn:=⟨(xF (xG d5O) (xF (xF (xG d5P) (.cond (fun e=>e 11) (xF (xG d5Q) .ret) .skip)) (xF (xG d5R) (xF (xF (xG d5S) (.cond (fun e=>e 18) (xG d5T) .skip)) (xF (xG d5U) .ret))))),[.t 4]⟩
def p73:Pers:=⟨6,[11,18],22,[]⟩
def d5V:Reg:=xA (wN 61 (e 0)) fun a=>xA (wB (.int .i64 0)) fun b=>xC ((e.upd 2 a).upd 4 b)
def d5W:Reg:=xA (wC 0 (e 2)) fun a=>xA (wA none a) fun b=>xC (e.upd 6 b)
def d5X:Reg:=xA (wE .eql (e 6) (.int .i64 3)) fun a=>xA (wB a) fun b=>xC (e.upd 7 b)
def d5Y:Reg:=xA (wB (.int .i64 46)) fun a=>xC (e.upd 4 a)
def d5Z:Reg:=xA (wE .eql (e 6) (.int .i64 4)) fun a=>xA (wB a) fun b=>xC (e.upd 9 b)
def d6a:Reg:=xA (wC 4 (e 2)) fun a=>xA (wA none a) fun b=>xA (.minmax true [b,.int .i64 1]) fun c=>xA (wB (e 1)) fun d=>xA (.minmax false [c,d]) fun f=>xA (wE .mul f (.int .i64 81)) fun g=>xA (wE .add (.int .i64 7) g) fun i=>xA (wB i) fun j=>xC (e.upd 4 j)
def d6b:Reg:=xA (wB (.int .i64 22)) fun a=>xC (e.upd 4 a)
def R74:=an (ro d5V.eq_1)<|an (ro d5W.eq_1)<|an (ro d5X.eq_1)<|an (ro d5Y.eq_1)<|an (ro d5Z.eq_1)<|an (ro d6a.eq_1)<|ro d6b.eq_1
def c74:CFn:=⟨(xF (xG d5V) (xF (xF (xG d5W) (.block 0 (xF (xG d5X) (.cond (fun e=>e 7) (xF (xG d5Y) .ret) (xF (xG d5Z) (.cond (fun e=>e 9) (xF (xG d6a) .ret) .skip)))))) (xF (xG d6b) .ret))),[.t 4]⟩
def p74:Pers:=⟨5,[6,7,9],18,[]⟩
def d6c:Reg:=xA (wB (.int .i64 0)) fun a=>xC (e.upd 2 a)
def d6d:Reg:=xA (wB (e 0)) fun a=>xA (wB a) fun b=>xC (e.upd 2 b)
def R75:=an (ro d6c.eq_1)<|ro d6d.eq_1
def c75:CFn:=⟨(xF (xG d6c) (xF (xG d6d) .ret)),[.t 2]⟩
def p75:Pers:=⟨3,[],4,[]⟩
def d6e:Reg:=xA (wN 34 (e 0)) fun a=>xA (wB (.int .i64 0)) fun b=>xC ((e.upd 1 a).upd 2 b)
def b0j(h2 h4 h8:Heap)(a:Value):Reg:=xA (wC 5 (e 1)) fun b=>xA (wA none b) fun c=>xE none (some h8) (wA none b) c<|xE none (some h4) (wA none b) c<|xE none (some h2) (wA none b) c<|xA (wE .add c (.int .i64 1)) fun d=>xA (wE .mul (.int .i64 24) d) fun f=>xA (wE .add a f) fun g=>xA (wB g) fun i=>xC (e.upd 2 i)
def b0i(h2:Heap)(a:Value)(h4:Heap)(b:Value):Reg:=xA (wE .add a b) fun c=>xA (wC 7 (e 1)) fun d=>xA (wA none d) fun f=>xE none (some h4) (wA none d) f<|xE none (some h2) (wA none d) f<|xD fun h8=>xA (wD 88 [f]) fun g=>xA (wE .add c g) fun i=>b0j e h2 h4 h8 i
def d6f:Reg:=xA (wC 4 (e 1)) fun a=>xA (wA none a) fun b=>xD fun h2=>xA (wD 86 [b]) fun c=>xA (wA (some 9) (e 1)) fun d=>xE none (some h2) (wA (some 9) (e 1)) d<|xD fun h4=>xA (wD 87 [d]) fun f=>b0i e h2 c h4 f
def R76:=an (ro d6e.eq_1)<|an (ro4 b0j.eq_1)<|an (ro4 b0i.eq_1)<|ro d6f.eq_1
def c76:CFn:=⟨(xF (xG d6e) (xF (xG d6f) .ret)),[.t 2]⟩
def p76:Pers:=⟨3,[],18,[]⟩
def d6g:Reg:=xA (wB (.pointer none)) fun a=>xC (e.upd 2 a)
def d6h:Reg:=xA (wB (e 0)) fun a=>xA (wE .lss a (.int .i64 1)) fun b=>xA (wB b) fun c=>xB c false (wB (e 0)) fun d=>xB c false (wE .gtr d (.int .i64 65536)) fun f=>xA (wK c (.bool true) f) fun g=>xC (e.upd 8 g)
def d6i:Reg:=xA (wB (.pointer none)) fun a=>xC (e.upd 2 a)
def d6j:Reg:=xA (wB (e 0)) fun a=>xA (.makeSlice 5 1 1 [.int .u8 0] a a) fun b=>xA (wM [.slice none 0 0,.int .i64 0,.int .i64 0] [(0,1,b)]) fun c=>xA (wN 188 c) fun d=>xA (wB d) fun f=>xC (e.upd 2 f)
def R77:=an (ro d6g.eq_1)<|an (ro d6h.eq_1)<|an (ro d6i.eq_1)<|ro d6j.eq_1
def c77:CFn:=⟨(xF (xG d6g) (xF (xF (xG d6h) (.cond (fun e=>e 8) (xF (xG d6i) .ret) .skip)) (xF (xG d6j) .ret))),[.t 2]⟩
def p77:Pers:=⟨3,[8],13,[]⟩
def d6k:Reg:=xA (wB (.slice none 0 0)) fun a=>xC (e.upd 4 a)
def d6l:Reg:=xA (wB (.slice none 0 0)) fun a=>xC (e.upd 5 a)
def d6m:Reg:=xA (wB (e 1)) fun a=>xA (.minmax true [a,.int .i64 0]) fun b=>xA (.minmax false [b,.int .i64 9]) fun c=>xA (wB (.int .i64 0)) fun d=>xC ((e.upd 9 c).upd 10 d)
def d6n:Reg:=xA (wE .lss (e 10) (e 9)) fun a=>xC (e.upd 11 a)
def d6o:Reg:=xA (wB (e 10)) fun a=>xA (wB a) fun b=>xC (e.upd 6 b)
def b0l(a b c d:Value):Reg:=xA (wM [.int .u64 0,.int .u64 0,.int .u64 0] [(0,1,b),(1,1,c),(2,1,d)]) fun f=>xA (.buildSlice 182 1 [.int .u64 0,.int .u64 0,.int .u64 0] [(0,3,f)]) fun g=>xA (.append 182 3 24 a g) fun i=>xA (wB i) fun j=>xC (e.upd 5 j)
def b0k(a b c d:Value):Reg:=xA (wE .add d (.int .i64 1)) fun f=>xA (wD 89 [c,f]) fun g=>xA (wB (e 0)) fun i=>xA (wB (e 6)) fun j=>xA (wE .mul (.int .i64 3) j) fun k=>xA (wE .add k (.int .i64 2)) fun m=>xA (wD 91 [i,m]) fun n=>xA (wD 90 [n]) fun o=>b0l e a b g o
def d6p:Reg:=xA (wB (e 5)) fun a=>xA (wB (e 0)) fun b=>xA (wB (e 6)) fun c=>xA (wE .mul (.int .i64 3) c) fun d=>xA (wD 89 [b,d]) fun f=>xA (wB (e 0)) fun g=>xA (wB (e 6)) fun i=>xA (wE .mul (.int .i64 3) i) fun j=>b0k e a f g j
def d6q:Reg:=xA (wE .add (e 10) (.int .i64 1)) fun a=>xA (wB a) fun b=>xC (e.upd 10 b)
def b1S:CC:=(xF (xG d6n) (xF (.cond (fun e=>e 11) .skip (.exit 0)) (xF (.block 1 (xF (xG d6o) (xG d6p))) (xG d6q))))
def d6r:Reg:=xA (wB (e 5)) fun a=>xA (wB a) fun b=>xC (e.upd 4 b)
def R78:=an (ro d6k.eq_1)<|an (ro d6l.eq_1)<|an (ro d6m.eq_1)<|an (ro d6n.eq_1)<|an (ro d6o.eq_1)<|an (ro4 b0l.eq_1)<|an (ro4 b0k.eq_1)<|an (ro d6p.eq_1)<|an (ro d6q.eq_1)<|ro d6r.eq_1
def c78:CFn:=⟨(xF (xG d6k) (xF (xG d6l) (xF (xF (xG d6m) (.block 0 (.loop b1S))) (xF (xG d6r) .ret)))),[.t 4]⟩
def p78:Pers:=⟨7,[9,10,11],34,[]⟩
def d6s:Reg:=xA (wN 34 (e 0)) fun a=>xA (wH 126 [.int .i64 0,.int .i64 0,.int .i64 0,.int .i64 0]) fun b=>xC ((e.upd 1 a).upd 2 b)
def b0n(h8:Heap)(a b c:Value):Reg:=xA (wC 0 (e 1)) fun d=>xA (wA none d) fun f=>xE none (some h8) (wA none d) f<|xA (wM [.int .i64 0,.int .i64 0,.int .i64 0,.int .i64 0] [(0,1,a),(1,1,b),(2,1,c),(3,1,f)]) fun g=>xD fun h16=>xA (wF 4 (e 2) g) fun _=>xC e
def b0m(a b:Value):Reg:=xD fun h8=>xA (wD 73 [a,b]) fun c=>xA (wC 1 (e 1)) fun d=>xA (wA none d) fun f=>xE none (some h8) (wA none d) f<|xA (wC 2 (e 1)) fun g=>xA (wA none g) fun i=>xE none (some h8) (wA none g) i<|b0n e h8 c f i
def d6t:Reg:=xA (wC 1 (e 1)) fun a=>xA (wA none a) fun b=>xA (wC 0 (e 1)) fun c=>xA (wA none c) fun d=>xA (wE .add d (.int .i64 1)) fun f=>xA (wC 2 (e 1)) fun g=>xA (wA none g) fun i=>xA (wE .sub f i) fun j=>b0m e b j
def R79:=an (ro d6s.eq_1)<|an (ro4 b0n.eq_1)<|an (O5 b0m.eq_1)<|ro d6t.eq_1
def c79:CFn:=⟨(xF (xG d6s) (xF (xG d6t) .ret)),[.c 2 (some 4)]⟩
def p79:Pers:=⟨3,[],19,[]⟩
def d6u:Reg:=xA (wN 182 (e 1)) fun a=>xA (wB (.pointer none)) fun b=>xC ((e.upd 3 a).upd 4 b)
def d6v:Reg:=xA (wB (e 0)) fun a=>xA (wE .lss a (.int .i64 1)) fun b=>xA (wB b) fun c=>xB c false (wB (e 0)) fun d=>xB c false (wE .gtr d (.int .i64 1024)) fun f=>xA (wK c (.bool true) f) fun g=>xC (e.upd 11 g)
def d6w:Reg:=xA (wB (.pointer none)) fun a=>xC (e.upd 4 a)
def d6x:Reg:=xA (wB (e 0)) fun a=>xD fun h1=>xA (wD 92 [a]) fun b=>xA (wB (e 0)) fun c=>xA (.makeSlice 250 4 32 [.int .i64 0,.int .i64 0,.int .i64 0,.int .i64 0] c c) fun d=>xA (wM [.pointer none,.pointer none,.slice none 0 0] [(0,1,b),(2,1,d)]) fun f=>xA (wN 165 f) fun g=>xA (wB g) fun i=>xC (e.upd 5 i)
def b0o(a b:Value):Reg:=xA (wJ a) fun c=>xA (wC 1 c) fun d=>xD fun h9=>xA (wF 1 d b) fun _=>xC e
def d6y:Reg:=xA (wB (e 5)) fun a=>xA (wB (e 5)) fun b=>xA (wJ b) fun c=>xA (wC 0 c) fun d=>xA (wA none d) fun f=>xA (wA (some 3) (e 3)) fun g=>xD fun h6=>xA (wD 93 [f,g]) fun i=>b0o e a i
def d6z:Reg:=xA (wB (e 5)) fun a=>xA (wB a) fun b=>xC (e.upd 4 b)
def R80:=an (ro d6u.eq_1)<|an (ro d6v.eq_1)<|an (ro d6w.eq_1)<|an (ro d6x.eq_1)<|an (O5 b0o.eq_1)<|an (ro d6y.eq_1)<|ro d6z.eq_1
def c80:CFn:=⟨(xF (xG d6u) (xF (xF (xG d6v) (.cond (fun e=>e 11) (xF (xG d6w) .ret) .skip)) (xF (xG d6x) (xF (xG d6y) (xF (xG d6z) .ret))))),[.t 4]⟩
def p80:Pers:=⟨6,[11],28,[]⟩
def d6A:Reg:=xA (wN 34 (e 0)) fun a=>xA (wB (.pointer none)) fun b=>xC ((e.upd 2 a).upd 4 b)
def b0q(a:Value):Reg:=xA (wB a) fun b=>xB b false (wB (e 1)) fun c=>xB b false (wL c) fun d=>xB b false (wE .eql d (.int .i64 0)) fun f=>xA (wK b (.bool true) f) fun g=>xA (wB g) fun i=>xB i false (wC 6 (e 2)) fun j=>xB i false (wA none j) fun k=>xB i false (wE .lss k (.int .i64 1)) fun m=>xA (wK i (.bool true) m) fun n=>xC (e.upd 32 n)
def b0p(a:Value):Reg:=xA (wB a) fun b=>xB b false (wC 1 (e 2)) fun c=>xB b false (wA none c) fun d=>xB b false (wC 3 (e 2)) fun f=>xB b false (wA none f) fun g=>xB b false (wE .quo d g) fun i=>xB b false (wE .lss i (.int .i64 1)) fun j=>xA (wK b (.bool true) j) fun k=>b0q e k
def d6B:Reg:=xA (wC 3 (e 2)) fun a=>xA (wA none a) fun b=>xA (wE .lss b (.int .i64 1)) fun c=>xA (wB c) fun d=>xB d false (wC 3 (e 2)) fun f=>xB d false (wA none f) fun g=>xB d false (wE .gtr g (.int .i64 64)) fun i=>xA (wK d (.bool true) i) fun j=>b0p e j
def d6C:Reg:=xA (wB (.pointer none)) fun a=>xC (e.upd 4 a)
def b0s(a b c d f:Value):Reg:=xA (wA none f) fun g=>xA (wC 8 (e 2)) fun i=>xA (wA none i) fun j=>xA (wM [.slice none 0 0,.slice none 0 0,.int .i64 0,.int .i64 0,.int .i64 0,.bool false,.int .i64 0] [(0,1,a),(1,1,b),(2,1,c),(3,1,d),(4,1,g),(5,1,j)]) fun k=>xA (wN 201 k) fun m=>xA (wB m) fun n=>xC (e.upd 5 n)
def b0r(a b:Value):Reg:=xA (wC 1 (e 2)) fun c=>xA (wA none c) fun d=>xA (wC 3 (e 2)) fun f=>xA (wA none f) fun g=>xA (wE .quo d g) fun i=>xA (wB (e 1)) fun j=>xA (wL j) fun k=>xA (wC 0 (e 2)) fun m=>b0s e a b i k m
def d6D:Reg:=xA (wC 3 (e 2)) fun a=>xA (wA none a) fun b=>xA (wE .add b (.int .i64 1)) fun c=>xA (.makeSlice 202 1 8 [.pointer none] c c) fun d=>xA (wC 3 (e 2)) fun f=>xA (wA none f) fun g=>xA (wE .add g (.int .i64 1)) fun i=>xA (.makeSlice 2 1 8 [.int .i64 0] i i) fun j=>b0r e d j
def d6E:Reg:=xA (wB (e 5)) fun a=>xA (wJ a) fun b=>xA (wC 0 b) fun c=>xA (wA none c) fun d=>xA (wL d) fun f=>xA (wB (.int .i64 0)) fun g=>xC ((e.upd 58 f).upd 59 g)
def d6F:Reg:=xA (wE .lss (e 59) (e 58)) fun a=>xC (e.upd 60 a)
def d6G:Reg:=xA (wB (e 59)) fun a=>xA (wB a) fun b=>xC (e.upd 6 b)
def b0t(a b c d f:Value):Reg:=xD fun h8=>xA (wD 94 [d,f]) fun g=>xE none none (wA none a) b<|xA (wI 1 b c) fun i=>xD fun h10=>xA (wF 1 i g) fun _=>xC e
def d6H:Reg:=xA (wB (e 5)) fun a=>xA (wJ a) fun b=>xA (wC 0 b) fun c=>xA (wA none c) fun d=>xA (wB (e 6)) fun f=>xA (wB (e 1)) fun g=>xA (wC 6 (e 2)) fun i=>xA (wA none i) fun j=>b0t e c d f g j
def d6I:Reg:=xA (wE .add (e 59) (.int .i64 1)) fun a=>xA (wB a) fun b=>xC (e.upd 59 b)
def b1T:CC:=(xF (xG d6F) (xF (.cond (fun e=>e 60) .skip (.exit 0)) (xF (.block 1 (xF (xG d6G) (xG d6H))) (xG d6I))))
def d6J:Reg:=xA (wB (e 5)) fun a=>xA (wB a) fun b=>xC (e.upd 4 b)
def R81:=an (ro d6A.eq_1)<|an (ro1 b0q.eq_1)<|an (ro1 b0p.eq_1)<|an (ro d6B.eq_1)<|an (ro d6C.eq_1)<|an (ro5 b0s.eq_1)<|an (O5 b0r.eq_1)<|an (ro d6D.eq_1)<|an (ro d6E.eq_1)<|an (ro d6F.eq_1)<|an (ro d6G.eq_1)<|an (ro5 b0t.eq_1)<|an (ro d6H.eq_1)<|an (ro d6I.eq_1)<|ro d6J.eq_1
def c81:CFn:=⟨(xF (xG d6A) (xF (xF (xG d6B) (.cond (fun e=>e 32) (xF (xG d6C) .ret) .skip)) (xF (xG d6D) (xF (xF (xG d6E) (.block 0 (.loop b1T))) (xF (xG d6J) .ret))))),[.t 4]⟩
def p81:Pers:=⟨7,[32,58,59,60],74,[]⟩
def d6K:Reg:=xA (wN 182 (e 1)) fun a=>xA (wB (.pointer none)) fun b=>xC ((e.upd 3 a).upd 4 b)
def d6L:Reg:=xA (wB (e 0)) fun a=>xA (wE .lss a (.int .i64 1)) fun b=>xA (wB b) fun c=>xB c false (wB (e 0)) fun d=>xB c false (wE .gtr d (.int .i64 64)) fun f=>xA (wK c (.bool true) f) fun g=>xC (e.upd 11 g)
def d6M:Reg:=xA (wB (.pointer none)) fun a=>xC (e.upd 4 a)
def b0u(a b c d:Value):Reg:=xA (.makeSlice 21 1 4 [.int .i32 0] d d) fun f=>xA (wB (e 0)) fun g=>xA (.makeSlice 21 1 4 [.int .i32 0] g g) fun i=>xA (wM [.pointer none,.pointer none,.slice none 0 0,.slice none 0 0,.slice none 0 0,.slice none 0 0,.int .i64 0] [(0,1,a),(2,1,b),(3,1,c),(4,1,f),(5,1,i)]) fun j=>xA (wN 169 j) fun k=>xA (wB k) fun m=>xC (e.upd 5 m)
def d6N:Reg:=xA (wB (e 0)) fun a=>xD fun h1=>xA (wD 92 [a]) fun b=>xA (wB (e 0)) fun c=>xA (.makeSlice 2 1 8 [.int .i64 0] c c) fun d=>xA (wB (e 0)) fun f=>xA (.makeSlice 2 1 8 [.int .i64 0] f f) fun g=>xA (wB (e 0)) fun i=>b0u e b d g i
def b0v(a b:Value):Reg:=xA (wJ a) fun c=>xA (wC 1 c) fun d=>xD fun h9=>xA (wF 1 d b) fun _=>xC e
def d6O:Reg:=xA (wB (e 5)) fun a=>xA (wB (e 5)) fun b=>xA (wJ b) fun c=>xA (wC 0 c) fun d=>xA (wA none d) fun f=>xA (wA (some 3) (e 3)) fun g=>xD fun h6=>xA (wD 93 [f,g]) fun i=>b0v e a i
def d6P:Reg:=xA (wB (e 5)) fun a=>xA (wB a) fun b=>xC (e.upd 4 b)
def R82:=an (ro d6K.eq_1)<|an (ro d6L.eq_1)<|an (ro d6M.eq_1)<|an (ro4 b0u.eq_1)<|an (ro d6N.eq_1)<|an (O5 b0v.eq_1)<|an (ro d6O.eq_1)<|ro d6P.eq_1
def c82:CFn:=⟨(xF (xG d6K) (xF (xF (xG d6L) (.cond (fun e=>e 11) (xF (xG d6M) .ret) .skip)) (xF (xG d6N) (xF (xG d6O) (xF (xG d6P) .ret))))),[.t 4]⟩
def p82:Pers:=⟨6,[11],34,[]⟩
def d6Q:Reg:=xA (wB (.int .i64 0)) fun a=>xC (e.upd 2 a)
def d6R:Reg:=xA (wB (e 0)) fun a=>xA (.eqK .ptr false a (.pointer none)) fun b=>xC (e.upd 4 b)
def d6S:Reg:=xA (wB (.int .i64 0)) fun a=>xC (e.upd 2 a)
def d6T:Reg:=xA (wB (e 0)) fun a=>xA (wJ a) fun b=>xA (wC 2 b) fun c=>xA (wA none c) fun d=>xA (wB d) fun f=>xC (e.upd 2 f)
def R83:=an (ro d6Q.eq_1)<|an (ro d6R.eq_1)<|an (ro d6S.eq_1)<|ro d6T.eq_1
def c83:CFn:=⟨(xF (xG d6Q) (xF (xF (xG d6R) (.cond (fun e=>e 4) (xF (xG d6S) .ret) .skip)) (xF (xG d6T) .ret))),[.t 2]⟩
def p83:Pers:=⟨3,[4],9,[]⟩
def d6U:Reg:=xA (wB (.int .i64 0)) fun a=>xC (e.upd 4 a)
def d6V:Reg:=xA (wB (e 0)) fun a=>xA (wL a) fun b=>xA (wB (.int .i64 0)) fun c=>xC (((e.upd 8 a).upd 9 b).upd 10 c)
def d6W:Reg:=xA (wE .lss (e 10) (e 9)) fun a=>xC (e.upd 11 a)
def d6X:Reg:=xA (wB (e 10)) fun a=>xA (wI 1 (e 8) (e 10)) fun b=>xA (wA none b) fun c=>xA (wB a) fun d=>xA (wB c) fun f=>xC ((e.upd 5 d).upd 6 f)
def b0w(a b c:Value):Reg:=xB a true (wE .add (.int .i64 4) c) fun d=>xB a true (wE .geq b d) fun f=>xA (wK a f (.bool false)) fun g=>xC (e.upd 25 g)
def d6Y:Reg:=xA (wB (e 5)) fun a=>xA (wE .geq a (.int .i64 4)) fun b=>xA (wB b) fun c=>xB c true (wB (e 5)) fun d=>xB c true (wB (e 0)) fun f=>xB c true (wI 1 f (.int .i64 3)) fun g=>xB c true (wA none g) fun i=>xB c true (wO .i64 i) fun j=>b0w e c d j
def d6Z:Reg:=xA (wB (e 0)) fun a=>xA (wB (e 5)) fun b=>xA (wB (e 6)) fun c=>xA (wB (e 1)) fun d=>xA (wD 95 [a,b,c,d]) fun f=>xA (wB f) fun g=>xC (e.upd 7 g)
def d7a:Reg:=xA (wB (e 7)) fun a=>xA (wE .neq a (.int .i64 0)) fun b=>xC (e.upd 32 b)
def d7b:Reg:=xA (wB (e 7)) fun a=>xA (wB a) fun b=>xC (e.upd 4 b)
def d7c:Reg:=xA (wE .add (e 10) (.int .i64 1)) fun a=>xA (wB a) fun b=>xC (e.upd 10 b)
def a1f:CC:=(xF (xG d6W) (xF (.cond (fun e=>e 11) .skip (.exit 0)) (xF (.block 1 (xF (xG d6X) (xF (xF (xG d6Y) (.cond (fun e=>e 25) (.exit 0) .skip)) (xF (xG d6Z) (xF (xG d7a) (.cond (fun e=>e 32) (xF (xG d7b) .ret) .skip)))))) (xG d7c))))
def d7d:Reg:=xA (wB (.int .i64 0)) fun a=>xC (e.upd 4 a)
def R84:=an (ro d6U.eq_1)<|an (ro d6V.eq_1)<|an (ro d6W.eq_1)<|an (ro d6X.eq_1)<|an (W2 b0w.eq_1)<|an (ro d6Y.eq_1)<|an (ro d6Z.eq_1)<|an (ro d7a.eq_1)<|an (ro d7b.eq_1)<|an (ro d7c.eq_1)<|ro d7d.eq_1
def c84:CFn:=⟨(xF (xG d6U) (xF (xF (xG d6V) (.block 0 (.loop a1f))) (xF (xG d7d) .ret))),[.t 4]⟩
def p84:Pers:=⟨8,[8,9,10,11,25,32],35,[]⟩
def d7e:Reg:=xA (wB (.int .u64 0)) fun a=>xA (wB (.int .u64 0)) fun b=>xC ((e.upd 4 a).upd 5 b)
def d7f:Reg:=xA (wB (e 0)) fun a=>xA (wE .and a (.int .u64 4294967295)) fun b=>xA (wB b) fun c=>xC (e.upd 6 c)
def d7g:Reg:=xA (wB (e 0)) fun a=>xA (wE .shr a (.int .u64 32)) fun b=>xA (wB b) fun c=>xC (e.upd 7 c)
def d7h:Reg:=xA (wB (e 1)) fun a=>xA (wE .and a (.int .u64 4294967295)) fun b=>xA (wB b) fun c=>xC (e.upd 8 c)
def d7i:Reg:=xA (wB (e 1)) fun a=>xA (wE .shr a (.int .u64 32)) fun b=>xA (wB b) fun c=>xC (e.upd 9 c)
def d7j:Reg:=xA (wB (e 6)) fun a=>xA (wB (e 8)) fun b=>xA (wE .mul a b) fun c=>xA (wB c) fun d=>xC (e.upd 10 d)
def d7k:Reg:=xA (wB (e 7)) fun a=>xA (wB (e 8)) fun b=>xA (wE .mul a b) fun c=>xA (wB (e 10)) fun d=>xA (wE .shr d (.int .u64 32)) fun f=>xA (wE .add c f) fun g=>xA (wB g) fun i=>xC (e.upd 11 i)
def d7l:Reg:=xA (wB (e 11)) fun a=>xA (wE .and a (.int .u64 4294967295)) fun b=>xA (wB b) fun c=>xC (e.upd 12 c)
def d7m:Reg:=xA (wB (e 11)) fun a=>xA (wE .shr a (.int .u64 32)) fun b=>xA (wB b) fun c=>xC (e.upd 13 c)
def d7n:Reg:=xA (wB (e 12)) fun a=>xA (wB (e 6)) fun b=>xA (wB (e 9)) fun c=>xA (wE .mul b c) fun d=>xA (wE .add a d) fun f=>xA (wB f) fun g=>xC (e.upd 12 g)
def c6J:Reg:=xA (wB (e 7)) fun a=>xA (wB (e 9)) fun b=>xA (wE .mul a b) fun c=>xA (wB (e 13)) fun d=>xA (wE .add c d) fun f=>xA (wB (e 12)) fun g=>xA (wE .shr g (.int .u64 32)) fun i=>xA (wE .add f i) fun j=>xA (wB j) fun k=>xC (e.upd 4 k)
def c6K:Reg:=xA (wB (e 0)) fun a=>xA (wB (e 1)) fun b=>xA (wE .mul a b) fun c=>xA (wB c) fun d=>xC (e.upd 5 d)
def R85:=an (ro d7e.eq_1)<|an (ro d7f.eq_1)<|an (ro d7g.eq_1)<|an (ro d7h.eq_1)<|an (ro d7i.eq_1)<|an (ro d7j.eq_1)<|an (ro d7k.eq_1)<|an (ro d7l.eq_1)<|an (ro d7m.eq_1)<|an (ro d7n.eq_1)<|an (ro c6J.eq_1)<|ro c6K.eq_1
def c85:CFn:=⟨(xF (xG d7e) (xF (xG d7f) (xF (xG d7g) (xF (xG d7h) (xF (xG d7i) (xF (xG d7j) (xF (xG d7k) (xF (xG d7l) (xF (xG d7m) (xF (xG d7n) (xF (xG c6J) (xF (xG c6K) .ret)))))))))))),[.t 4,.t 5]⟩
def p85:Pers:=⟨14,[],51,[]⟩
def d7o:Reg:=xA (wB (.int .i64 0)) fun a=>xC (e.upd 2 a)
def d7p:Reg:=xA (wB (e 0)) fun a=>xA (wD 96 [a]) fun b=>xA (wB (e 0)) fun c=>xA (wD 97 [c]) fun d=>xA (wE .add b d) fun f=>xA (wB (e 0)) fun g=>xA (wE .mul (.int .i64 32) g) fun i=>xA (wE .add f i) fun j=>xA (wB j) fun k=>xC (e.upd 2 k)
def R86:=an (ro d7o.eq_1)<|ro d7p.eq_1
def c86:CFn:=⟨(xF (xG d7o) (xF (xG d7p) .ret)),[.t 2]⟩
def p86:Pers:=⟨3,[],11,[]⟩
def d7q:Reg:=xA (wN 34 (e 0)) fun a=>xA (wB (.int .i64 0)) fun b=>xC ((e.upd 1 a).upd 2 b)
def d7r:Reg:=xA (wC 3 (e 1)) fun a=>xA (wA none a) fun b=>xA (wE .add b (.int .i64 1)) fun c=>xA (wB c) fun d=>xC (e.upd 3 d)
def d7s:Reg:=xA (wB (e 3)) fun a=>xA (wC 5 (e 1)) fun b=>xA (wA none b) fun c=>xA (wC 6 (e 1)) fun d=>xA (wA none d) fun f=>xA (wD 98 [c,f]) fun g=>xA (wE .add (.int .i64 16) g) fun i=>xA (wE .mul a i) fun j=>xA (wB j) fun k=>xC (e.upd 2 k)
def R87:=an (ro d7q.eq_1)<|an (ro d7r.eq_1)<|ro d7s.eq_1
def c87:CFn:=⟨(xF (xG d7q) (xF (xG d7r) (xF (xG d7s) .ret))),[.t 2]⟩
def p87:Pers:=⟨4,[],15,[]⟩
def d7t:Reg:=xA (wB (.int .i64 0)) fun a=>xC (e.upd 2 a)
def d7u:Reg:=xA (wB (e 0)) fun a=>xA (wD 96 [a]) fun b=>xA (wB (e 0)) fun c=>xA (wD 97 [c]) fun d=>xA (wE .add b d) fun f=>xA (wB (e 0)) fun g=>xA (wE .mul g (.int .i64 24)) fun i=>xA (wE .add f i) fun j=>xA (wB j) fun k=>xC (e.upd 2 k)
def R88:=an (ro d7t.eq_1)<|ro d7u.eq_1
def c88:CFn:=⟨(xF (xG d7t) (xF (xG d7u) .ret)),[.t 2]⟩
def p88:Pers:=⟨3,[],11,[]⟩
def d7v:Reg:=xA (wB (.int .u64 0)) fun a=>xC (e.upd 4 a)
def d7w:Reg:=xA (wB (e 0)) fun a=>xA (wB (e 1)) fun b=>xA (wD 91 [a,b]) fun c=>xA (wE .rem c (.int .u64 2305843009213693950)) fun d=>xA (wE .add d (.int .u64 1)) fun f=>xA (wB f) fun g=>xC (e.upd 4 g)
def R89:=an (ro d7v.eq_1)<|ro d7w.eq_1
def c89:CFn:=⟨(xF (xG d7v) (xF (xG d7w) .ret)),[.t 4]⟩
def p89:Pers:=⟨5,[],10,[]⟩
def d7x:Reg:=xA (wB (.int .u64 0)) fun a=>xC (e.upd 2 a)
def d7y:Reg:=xA (wB (e 0)) fun a=>xA (wE .shr a (.int .u64 61)) fun b=>xA (wB (e 0)) fun c=>xA (wE .and c (.int .u64 2305843009213693951)) fun d=>xA (wE .add b d) fun f=>xA (wB f) fun g=>xC (e.upd 0 g)
def d7z:Reg:=xA (wB (e 0)) fun a=>xA (wE .geq a (.int .u64 2305843009213693951)) fun b=>xC (e.upd 9 b)
def d7A:Reg:=xA (wB (e 0)) fun a=>xA (wE .sub a (.int .u64 2305843009213693951)) fun b=>xA (wB b) fun c=>xC (e.upd 0 c)
def d7B:Reg:=xA (wB (e 0)) fun a=>xA (wB a) fun b=>xC (e.upd 2 b)
def R90:=an (ro d7x.eq_1)<|an (ro d7y.eq_1)<|an (ro d7z.eq_1)<|an (ro d7A.eq_1)<|ro d7B.eq_1
def c90:CFn:=⟨(xF (xG d7x) (xF (xG d7y) (xF (xF (xG d7z) (.cond (fun e=>e 9) (xG d7A) .skip)) (xF (xG d7B) .ret)))),[.t 2]⟩
def p90:Pers:=⟨3,[9],13,[]⟩
def d7C:Reg:=xA (wB (.int .u64 0)) fun a=>xC (e.upd 4 a)
def d7D:Reg:=xA (wB (e 1)) fun a=>xA (wB (e 0)) fun b=>xA (wL b) fun c=>xA (wE .geq a c) fun d=>xC (e.upd 8 d)
def d7E:Reg:=xA (wB (.int .u64 0)) fun a=>xC (e.upd 4 a)
def d7F:Reg:=xA (wB (e 0)) fun a=>xA (wB (e 1)) fun b=>xA (wI 1 a b) fun c=>xA (wA none c) fun d=>xA (wB d) fun f=>xC (e.upd 4 f)
def R91:=an (ro d7C.eq_1)<|an (ro d7D.eq_1)<|an (ro d7E.eq_1)<|ro d7F.eq_1
def c91:CFn:=⟨(xF (xG d7C) (xF (xF (xG d7D) (.cond (fun e=>e 8) (xF (xG d7E) .ret) .skip)) (xF (xG d7F) .ret))),[.t 4]⟩
def p91:Pers:=⟨5,[8],13,[]⟩
def d7G:Reg:=xA (wB (.pointer none)) fun a=>xC (e.upd 2 a)
def d7H:Reg:=xA (wB (e 0)) fun a=>xA (wE .lss a (.int .i64 0)) fun b=>xA (wB b) fun c=>xB c false (wB (e 0)) fun d=>xB c false (wE .gtr d (.int .i64 65536)) fun f=>xA (wK c (.bool true) f) fun g=>xC (e.upd 10 g)
def d7I:Reg:=xA (wB (.pointer none)) fun a=>xC (e.upd 2 a)
def d7J:Reg:=xA (wB (e 0)) fun a=>xA (wE .mul a (.int .i64 64)) fun b=>xA (.makeSlice 5 1 1 [.int .u8 0] b b) fun c=>xA (wB (e 0)) fun d=>xA (.makeSlice 206 1 1 [.int .i8 0] d d) fun f=>xA (wB (e 0)) fun g=>xA (.makeSlice 21 1 4 [.int .i32 0] g g) fun i=>xA (wM [.slice none 0 0,.slice none 0 0,.slice none 0 0,.int .i32 0,.int .i64 0] [(0,1,c),(1,1,f),(2,1,i),(3,1,(.int .i32 (-1)))]) fun j=>xA (wN 191 j) fun k=>xA (wB k) fun m=>xC (e.upd 3 m)
def d7K:Reg:=xA (wB (e 0)) fun a=>xA (wE .sub a (.int .i64 1)) fun b=>xA (wB b) fun c=>xC (e.upd 4 c)
def d7L:Reg:=xA (wB (e 4)) fun a=>xA (wE .geq a (.int .i64 0)) fun b=>xC (e.upd 23 b)
def b0y(a b c d:Value):Reg:=xA (wF 1 d (.int .i8 (-1))) fun _=>xA (wI 1 a b) fun f=>xD fun h17=>xA (wF 1 f c) fun _=>xC e
def b0x(a b c:Value):Reg:=xA (wA none c) fun d=>xA (wB (e 4)) fun f=>xA (wB (e 3)) fun g=>xA (wJ g) fun i=>xA (wC 3 i) fun j=>xA (wA none j) fun k=>xA (wI 1 a b) fun m=>xD fun h15=>b0y e d f k m
def d7N:Reg:=xA (wB (e 3)) fun a=>xA (wJ a) fun b=>xA (wC 1 b) fun c=>xA (wA none c) fun d=>xA (wB (e 4)) fun f=>xA (wB (e 3)) fun g=>xA (wJ g) fun i=>xA (wC 2 i) fun j=>b0x e d f j
def d7O:Reg:=xA (wB (e 3)) fun a=>xA (wB (e 4)) fun b=>xA (wO .i32 b) fun c=>xA (wJ a) fun d=>xA (wC 3 d) fun f=>xA (wF 1 f c) fun _=>xC e
def d7M:Reg:=xA (wB (e 4)) fun a=>xA (wE .sub a (.int .i64 1)) fun b=>xA (wB b) fun c=>xC (e.upd 4 c)
def b1U:CC:=(xF (xF (xG d7L) (.cond (fun e=>e 23) .skip (.exit 0))) (xF (.block 1 (xF (xG d7N) (xG d7O))) (xG d7M)))
def d7P:Reg:=xA (wB (e 3)) fun a=>xA (wB a) fun b=>xC (e.upd 2 b)
def R92:=an (ro d7G.eq_1)<|an (ro d7H.eq_1)<|an (ro d7I.eq_1)<|an (ro d7J.eq_1)<|an (ro d7K.eq_1)<|an (ro d7L.eq_1)<|an (ro4 b0y.eq_1)<|an (W2 b0x.eq_1)<|an (ro d7N.eq_1)<|an (ro d7O.eq_1)<|an (ro d7M.eq_1)<|ro d7P.eq_1
def c92:CFn:=⟨(xF (xG d7G) (xF (xF (xG d7H) (.cond (fun e=>e 10) (xF (xG d7I) .ret) .skip)) (xF (xG d7J) (xF (xF (xG d7K) (.block 0 (.loop b1U))) (xF (xG d7P) .ret))))),[.t 2]⟩
def p92:Pers:=⟨5,[10,23],48,[]⟩
def d7Q:Reg:=xA (wN 182 (e 1)) fun a=>xA (wB (.pointer none)) fun b=>xC ((e.upd 3 a).upd 4 b)
def d7R:Reg:=xA (wB (e 0)) fun a=>xA (.eqK .ptr false a (.pointer none)) fun b=>xC (e.upd 6 b)
def d7S:Reg:=xA (wB (.pointer none)) fun a=>xC (e.upd 4 a)
def b0z(a b c:Value):Reg:=xE none none (wA (some 3) (e 3)) b<|xA (.makeSlice 21 1 4 [.int .i32 0] c c) fun d=>xA (wM [.pointer none,.int .u64 0,.int .u64 0,.int .u64 0,.slice none 0 0] [(0,1,a),(1,3,b),(4,1,d)]) fun f=>xA (wN 209 f) fun g=>xA (wB g) fun i=>xC (e.upd 4 i)
def d7T:Reg:=xA (wB (e 0)) fun a=>xA (wA (some 3) (e 3)) fun b=>xA (wB (e 0)) fun c=>xD fun h3=>xA (wD 100 [c]) fun d=>xE none none (wA (some 3) (e 3)) b<|xD fun h4=>xA (wD 99 [d]) fun f=>b0z e a b f
def R93:=an (ro d7Q.eq_1)<|an (ro d7R.eq_1)<|an (ro d7S.eq_1)<|an (W2 b0z.eq_1)<|ro d7T.eq_1
def c93:CFn:=⟨(xF (xG d7Q) (xF (xF (xG d7R) (.cond (fun e=>e 6) (xF (xG d7S) .ret) .skip)) (xF (xG d7T) .ret))),[.t 4]⟩
def p93:Pers:=⟨5,[6],15,[]⟩
def d7U:Reg:=xA (wB (.pointer none)) fun a=>xC (e.upd 4 a)
def d7V:Reg:=xA (wB (e 0)) fun a=>xA (wL a) fun b=>xA (wE .eql b (.int .i64 0)) fun c=>xA (wB c) fun d=>xB d false (wB (e 1)) fun f=>xB d false (wE .lss f (.int .i64 1)) fun g=>xA (wK d (.bool true) g) fun i=>xC (e.upd 11 i)
def d7W:Reg:=xA (wB (.pointer none)) fun a=>xC (e.upd 4 a)
def d7X:Reg:=xA (wB (e 0)) fun a=>xA (wB (e 1)) fun b=>xA (wB (e 0)) fun c=>xA (wL c) fun d=>xA (wB (e 1)) fun f=>xA (wE .mul d f) fun g=>xA (.makeSlice 2 1 8 [.int .i64 0] g g) fun i=>xA (wM [.slice none 0 0,.int .i64 0,.slice none 0 0] [(0,1,a),(1,1,b),(2,1,i)]) fun j=>xA (wN 211 j) fun k=>xA (wB k) fun m=>xC (e.upd 4 m)
def R94:=an (ro d7U.eq_1)<|an (ro d7V.eq_1)<|an (ro d7W.eq_1)<|ro d7X.eq_1
def c94:CFn:=⟨(xF (xG d7U) (xF (xF (xG d7V) (.cond (fun e=>e 11) (xF (xG d7W) .ret) .skip)) (xF (xG d7X) .ret))),[.t 4]⟩
def p94:Pers:=⟨5,[11],21,[]⟩
def d7Y:Reg:=xA (wB (.int .i64 0)) fun a=>xC (e.upd 8 a)
def d7Z:Reg:=xA (wB (e 1)) fun a=>xA (wE .eql a (.int .i64 0)) fun b=>xA (wB b) fun c=>xB c true (wB (e 2)) fun d=>xB c true (wE .neq d (.int .u8 167)) fun f=>xA (wK c f (.bool false)) fun g=>xA (wB g) fun i=>xC (e.upd 9 i)
def d8a:Reg:=xA (wB (.int .i64 5)) fun a=>xC (e.upd 8 a)
def d8b:Reg:=xA (wB (e 1)) fun a=>xA (wE .eql a (.int .i64 1)) fun b=>xA (wB b) fun c=>xB c true (wB (e 2)) fun d=>xB c true (wE .neq d (.int .u8 1)) fun f=>xA (wK c f (.bool false)) fun g=>xA (wB g) fun i=>xC (e.upd 16 i)
def d8c:Reg:=xA (wB (.int .i64 6)) fun a=>xC (e.upd 8 a)
def d8d:Reg:=xA (wB (e 1)) fun a=>xA (wE .eql a (.int .i64 2)) fun b=>xA (wB b) fun c=>xB c true (wB (e 2)) fun d=>xB c true (wE .neq d (.int .u8 0)) fun f=>xA (wK c f (.bool false)) fun g=>xA (wB g) fun i=>xC (e.upd 23 i)
def d8e:Reg:=xA (wB (.int .i64 7)) fun a=>xC (e.upd 8 a)
def b0B(a b c:Value):Reg:=xB a true (wK b (.bool true) c) fun d=>xA (wK a d (.bool false)) fun f=>xA (wB f) fun g=>xC (e.upd 30 g)
def b0A(a b:Value):Reg:=xB a true (wE .neq b (.int .u8 3)) fun c=>xA (wK a c (.bool false)) fun d=>xA (wB d) fun f=>xB f true (wB (e 2)) fun g=>xB f true (wE .lss g (.int .u8 7)) fun i=>xB f true (wB i) fun j=>xB j false (wB (e 2)) fun k=>xB j false (wE .gtr k (.int .u8 71)) fun m=>b0B e f j m
def d8f:Reg:=xA (wB (e 1)) fun a=>xA (wE .eql a (.int .i64 3)) fun b=>xA (wB b) fun c=>xB c true (wB (e 2)) fun d=>xB c true (wE .neq d (.int .u8 2)) fun f=>xA (wK c f (.bool false)) fun g=>xA (wB g) fun i=>xB i true (wB (e 2)) fun j=>b0A e i j
def d8g:Reg:=xA (wB (.int .i64 7)) fun a=>xC (e.upd 8 a)
def b0C(a b:Value):Reg:=xB a true (wP .not b) fun c=>xA (wK a c (.bool false)) fun d=>xA (wB d) fun f=>xC (e.upd 49 f)
def d8h:Reg:=xA (wB (e 1)) fun a=>xA (wE .eql a (.int .i64 4)) fun b=>xA (wB b) fun c=>xB c true (wB (e 2)) fun d=>xB c true (wB (e 0)) fun f=>xB c true (wI 1 f (.int .i64 3)) fun g=>xB c true (wA none g) fun i=>xB c true (wD 101 [d,i]) fun j=>b0C e c j
def c6L:Reg:=xA (wB (.int .i64 8)) fun a=>xC (e.upd 8 a)
def c6M:Reg:=xA (wB (e 1)) fun a=>xA (wE .eql a (.int .i64 5)) fun b=>xA (wB b) fun c=>xB c true (wB (e 2)) fun d=>xB c true (wO .i64 d) fun f=>xB c true (wB (e 3)) fun g=>xB c true (wE .geq f g) fun i=>xA (wK c i (.bool false)) fun j=>xA (wB j) fun k=>xC (e.upd 60 k)
def c6N:Reg:=xA (wB (.int .i64 9)) fun a=>xC (e.upd 8 a)
def a7B(a b c:Value):Reg:=xB a true (wO .i64 c) fun d=>xB a true (wE .sub d (.int .i64 7)) fun f=>xB a true (wE .neq b f) fun g=>xA (wK a g (.bool false)) fun i=>xA (wB i) fun j=>xC (e.upd 69 j)
def c6O:Reg:=xA (wB (e 1)) fun a=>xA (wE .eql a (.int .i64 10)) fun b=>xA (wB b) fun c=>xB c true (wB (e 2)) fun d=>xB c true (wO .i64 d) fun f=>xB c true (wB (e 0)) fun g=>xB c true (wI 1 g (.int .i64 3)) fun i=>xB c true (wA none i) fun j=>a7B e c f j
def c6P:Reg:=xA (wB (.int .i64 10)) fun a=>xC (e.upd 8 a)
def c6Q:Reg:=xA (wB (.int .i64 0)) fun a=>xC (e.upd 8 a)
def R95:=an (ro d7Y.eq_1)<|an (ro d7Z.eq_1)<|an (ro d8a.eq_1)<|an (ro d8b.eq_1)<|an (ro d8c.eq_1)<|an (ro d8d.eq_1)<|an (ro d8e.eq_1)<|an (W2 b0B.eq_1)<|an (O5 b0A.eq_1)<|an (ro d8f.eq_1)<|an (ro d8g.eq_1)<|an (O5 b0C.eq_1)<|an (ro d8h.eq_1)<|an (ro c6L.eq_1)<|an (ro c6M.eq_1)<|an (ro c6N.eq_1)<|an (W2 a7B.eq_1)<|an (ro c6O.eq_1)<|an (ro c6P.eq_1)<|ro c6Q.eq_1
def c95:CFn:=⟨(xF (xG d7Y) (xF (.block 0 (xF (xG d7Z) (.cond (fun e=>e 9) (xF (xG d8a) .ret) (xF (xG d8b) (.cond (fun e=>e 16) (xF (xG d8c) .ret) (xF (xG d8d) (.cond (fun e=>e 23) (xF (xG d8e) .ret) (xF (xG d8f) (.cond (fun e=>e 30) (xF (xG d8g) .ret) (xF (xG d8h) (.cond (fun e=>e 49) (xF (xG c6L) .ret) (xF (xG c6M) (.cond (fun e=>e 60) (xF (xG c6N) .ret) (xF (xG c6O) (.cond (fun e=>e 69) (xF (xG c6P) .ret) .skip))))))))))))))) (xF (xG c6Q) .ret))),[.t 8]⟩
def p95:Pers:=⟨9,[9,16,23,30,49,60,69],82,[]⟩
def d8i:Reg:=xA (wB (.int .i64 0)) fun a=>xC (e.upd 2 a)
def d8j:Reg:=xA (wB (e 0)) fun a=>xA (wE .mul a (.int .i64 69)) fun b=>xA (wB b) fun c=>xC (e.upd 2 c)
def R96:=an (ro d8i.eq_1)<|ro d8j.eq_1
def c96:CFn:=⟨(xF (xG d8i) (xF (xG d8j) .ret)),[.t 2]⟩
def p96:Pers:=⟨3,[],5,[]⟩
def d8k:Reg:=xA (wB (.int .i64 0)) fun a=>xC (e.upd 2 a)
def d8l:Reg:=xA (wB (e 0)) fun a=>xA (wD 99 [a]) fun b=>xA (wE .mul (.int .i64 4) b) fun c=>xA (wB c) fun d=>xC (e.upd 2 d)
def R97:=an (ro d8k.eq_1)<|ro d8l.eq_1
def c97:CFn:=⟨(xF (xG d8k) (xF (xG d8l) .ret)),[.t 2]⟩
def p97:Pers:=⟨3,[],6,[]⟩
def d8m:Reg:=xA (wB (.int .i64 0)) fun a=>xC (e.upd 4 a)
def d8n:Reg:=xA (wB (e 0)) fun a=>xA (wE .mul (.int .i64 8) a) fun b=>xA (wB (e 1)) fun c=>xA (wE .mul b c) fun d=>xA (wB d) fun f=>xC (e.upd 4 f)
def R98:=an (ro d8m.eq_1)<|ro d8n.eq_1
def c98:CFn:=⟨(xF (xG d8m) (xF (xG d8n) .ret)),[.t 4]⟩
def p98:Pers:=⟨5,[],9,[]⟩
def d8o:Reg:=xA (wB (.int .i64 0)) fun a=>xC (e.upd 2 a)
def d8p:Reg:=xA (wB (e 0)) fun a=>xA (wE .mul (.int .i64 2) a) fun b=>xA (wE .add b (.int .i64 1)) fun c=>xA (wB c) fun d=>xC (e.upd 2 d)
def R99:=an (ro d8o.eq_1)<|ro d8p.eq_1
def c99:CFn:=⟨(xF (xG d8o) (xF (xG d8p) .ret)),[.t 2]⟩
def p99:Pers:=⟨3,[],6,[]⟩
def b7E:Reg:=xA (wB (.int .i64 0)) fun a=>xC (e.upd 2 a)
def b7F:Reg:=xA (wB (e 0)) fun a=>xA (.eqK .ptr false a (.pointer none)) fun b=>xC (e.upd 4 b)
def b7G:Reg:=xA (wB (.int .i64 0)) fun a=>xC (e.upd 2 a)
def b7H:Reg:=xA (wB (e 0)) fun a=>xA (wJ a) fun b=>xA (wC 1 b) fun c=>xA (wA none c) fun d=>xA (wL d) fun f=>xA (wB f) fun g=>xC (e.upd 2 g)
def e9N:=an (ro b7E.eq_1)<|an (ro b7F.eq_1)<|an (ro b7G.eq_1)<|ro b7H.eq_1
def e0X:CFn:=⟨(xF (xG b7E) (xF (xF (xG b7F) (.cond (fun e=>e 4) (xF (xG b7G) .ret) .skip)) (xF (xG b7H) .ret))),[.t 2]⟩
def e8i:Pers:=⟨3,[4],10,[]⟩
def b7I:Reg:=xA (wB (.bool false)) fun a=>xC (e.upd 4 a)
def b7J:Reg:=xA (wB (e 0)) fun a=>xC (e.upd 5 a)
def b7K:Reg:=xA (wE .eql (e 5) (.int .u8 1)) fun a=>xA (wB a) fun b=>xC (e.upd 6 b)
def b7L:Reg:=xA (wE .eql (e 5) (.int .u8 2)) fun a=>xA (wB a) fun b=>xC (e.upd 6 b)
def b7M:Reg:=xA (wB (e 1)) fun a=>xA (wE .geq a (.int .u8 7)) fun b=>xA (wB b) fun c=>xC (e.upd 4 c)
def b7N:Reg:=xA (wE .eql (e 5) (.int .u8 3)) fun a=>xA (wB a) fun b=>xC (e.upd 11 b)
def b7O:Reg:=xA (wB (e 1)) fun a=>xA (wE .eql a (.int .u8 2)) fun b=>xA (wB b) fun c=>xC (e.upd 4 c)
def b7P:Reg:=xA (wE .eql (e 5) (.int .u8 4)) fun a=>xA (wB a) fun b=>xC (e.upd 15 b)
def b7Q:Reg:=xA (wB (e 1)) fun a=>xA (wE .eql a (.int .u8 3)) fun b=>xA (wB b) fun c=>xC (e.upd 4 c)
def b7R:Reg:=xA (wB (.bool false)) fun a=>xC (e.upd 4 a)
def c9W:=an (ro b7I.eq_1)<|an (ro b7J.eq_1)<|an (ro b7K.eq_1)<|an (ro b7L.eq_1)<|an (ro b7M.eq_1)<|an (ro b7N.eq_1)<|an (ro b7O.eq_1)<|an (ro b7P.eq_1)<|an (ro b7Q.eq_1)<|ro b7R.eq_1
def b3b:CFn:=⟨(xF (xG b7I) (xF (xF (xG b7J) (.block 0 (xF (xF (xG b7K) (.cond (fun e=>e 6) .skip (xG b7L))) (.cond (fun e=>e 6) (xF (xG b7M) .ret) (xF (xG b7N) (.cond (fun e=>e 11) (xF (xG b7O) .ret) (xF (xG b7P) (.cond (fun e=>e 15) (xF (xG b7Q) .ret) .skip)))))))) (xF (xG b7R) .ret))),[.t 4]⟩
def e8j:Pers:=⟨5,[5,6,11,15],19,[]⟩
def b7S:Reg:=xA (wN 61 (e 1)) fun a=>xA (wB (.slice none 0 0)) fun b=>xC ((e.upd 3 a).upd 4 b)
def b7T:Reg:=xA (wB (e 0)) fun a=>xA (wJ a) fun b=>xA (wC 9 b) fun c=>xA (wA none c) fun d=>xA (wC 1 (e 3)) fun f=>xA (wA none f) fun g=>xA (wI 1 d g) fun i=>xA (wA none i) fun j=>xA (wB j) fun k=>xC (e.upd 5 k)
def a5L(h3:Heap)(a b c d f:Value):Reg:=xE none (some h3) (wA none d) f<|xA (wI 9 c f) fun g=>xA (wC 1 g) fun i=>xA (wA none i) fun j=>xE none (some h3) (wA none i) j<|xD fun h17=>xA (wD 119 [b,j]) fun k=>xA (wB a) fun m=>xA (wB k) fun n=>xC ((e.upd 6 m).upd 7 n)
def a5K(h3:Heap)(a b:Value):Reg:=xA (wB (e 0)) fun c=>xA (wJ c) fun d=>xA (wC 4 d) fun f=>xA (wC 3 f) fun g=>xA (wA none g) fun i=>xE none (some h3) (wA none g) i<|xA (wC 1 (e 3)) fun j=>xA (wA none j) fun k=>a5L e h3 a b i j k
def b7U:Reg:=xA (wB (e 0)) fun a=>xA (wJ a) fun b=>xA (wC 0 b) fun c=>xD fun h3=>xA (wD 26 [c]) fun d=>xA (wB (e 0)) fun f=>xA (wJ f) fun g=>xA (wC 0 g) fun i=>a5K e h3 d i
def b7V:Reg:=xA (wC 0 (e 3)) fun a=>xA (wA none a) fun b=>xC (e.upd 39 b)
def b7W:Reg:=xA (wE .eql (e 39) (.int .i64 1)) fun a=>xA (wB a) fun b=>xC (e.upd 40 b)
def a5M(a b c d f:Value):Reg:=xA (wD 120 [a,b,c,d,f]) fun g=>xA (wB g) fun i=>xA (wG i 0) fun j=>xA (wG i 1) fun k=>xA (wH 55 [.int .i64 0,.int .i64 0,.int .i64 0]) fun m=>xA (wF 3 m j) fun _=>xA (wB k) fun n=>xC ((e.upd 8 m).upd 9 n)
def b7X:Reg:=xA (wB (e 5)) fun a=>xA (wB (e 6)) fun b=>xA (wB (e 7)) fun c=>xA (wC 3 (e 3)) fun d=>xA (wA none d) fun f=>xA (wC 2 (e 3)) fun g=>xA (wA none g) fun i=>xA (wO .i64 i) fun j=>a5M e a b c f j
def b7Y:Reg:=xA (wB (e 9)) fun a=>xA (wL a) fun b=>xA (wB (.int .i64 0)) fun c=>xC (((e.upd 54 a).upd 55 b).upd 56 c)
def b7Z:Reg:=xA (wE .lss (e 56) (e 55)) fun a=>xC (e.upd 57 a)
def b8a:Reg:=xA (wI 4 (e 54) (e 56)) fun a=>xA (wA (some 4) a) fun b=>xA (wH 123 [.int .i64 0,.string ⟨#[]⟩,.bool false,.int .i64 0]) fun c=>xA (wF 4 c b) fun _=>xC (e.upd 11 c)
def b8b:Reg:=xA (wC 1 (e 3)) fun a=>xA (wA none a) fun b=>xA (wC 0 (e 11)) fun c=>xA (wF 1 c b) fun _=>xC e
def a4f(a b c:Value):Reg:=xA (.append 123 4 40 b c) fun d=>xA (wJ a) fun f=>xA (wC 10 f) fun g=>xD fun h10=>xA (wF 1 g d) fun _=>xC e
def b3c:Reg:=xA (wB (e 0)) fun a=>xA (wB (e 0)) fun b=>xA (wJ b) fun c=>xA (wC 10 c) fun d=>xA (wA none d) fun f=>xA (wA (some 4) (e 11)) fun g=>xA (.buildSlice 123 1 [.int .i64 0,.string ⟨#[]⟩,.bool false,.int .i64 0] [(0,4,g)]) fun i=>xD fun h7=>a4f e a f i
def b3d:Reg:=xA (wE .add (e 56) (.int .i64 1)) fun a=>xA (wB a) fun b=>xC (e.upd 56 b)
def a2P:CC:=(xF (xG b7Z) (xF (.cond (fun e=>e 57) .skip (.exit 1)) (xF (.block 2 (xF (xG b8a) (xF (xG b8b) (xG b3c)))) (xG b3d))))
def b3e:Reg:=xA (wC 0 (e 3)) fun a=>xA (wA none a) fun b=>xA (wA (some 3) (e 8)) fun c=>xA (wD 121 [b,c]) fun d=>xA (wB d) fun f=>xC (e.upd 4 f)
def b3f:Reg:=xA (wE .eql (e 39) (.int .i64 2)) fun a=>xA (wB a) fun b=>xC (e.upd 78 b)
def a4g(a b c d f g i:Value):Reg:=xA (wA none i) fun j=>xA (wO .i64 j) fun k=>xD fun h10=>xA (wD 122 [c,d,f,g,k]) fun m=>xE none none (wA none a) b<|xD fun h11=>xA (wD 121 [b,m]) fun n=>xA (wB n) fun o=>xC (e.upd 4 o)
def b3g:Reg:=xA (wC 0 (e 3)) fun a=>xA (wA none a) fun b=>xA (wB (e 5)) fun c=>xA (wB (e 6)) fun d=>xA (wB (e 7)) fun f=>xA (wC 3 (e 3)) fun g=>xA (wA none g) fun i=>xA (wC 2 (e 3)) fun j=>a4g e a b c d f i j
def b3h:Reg:=xA (wE .eql (e 39) (.int .i64 3)) fun a=>xA (wB a) fun b=>xC (e.upd 92 b)
def b3i:Reg:=xA (wC 1 (e 3)) fun a=>xA (wA none a) fun b=>xA (wB (e 5)) fun c=>xD fun h3=>xA (wD 28 [c]) fun d=>xE none none (wA none a) b<|xD fun h4=>xA (wD 123 [b,d]) fun f=>xA (wB f) fun g=>xC (e.upd 4 g)
def a4h(a b:Value):Reg:=xD fun h6=>xA (wD 124 [a,b]) fun c=>xA (wB c) fun d=>xC (e.upd 4 d)
def b3j:Reg:=xA (wC 1 (e 3)) fun a=>xA (wA none a) fun b=>xA (wB (e 5)) fun c=>xA (wC 4 (e 3)) fun d=>xA (wA none d) fun f=>xD fun h5=>xA (wD 125 [c,f]) fun g=>xE none none (wA none a) b<|a4h e b g
def a2k:=an (ro b7S.eq_1)<|an (ro b7T.eq_1)<|an (ro6 a5L.eq_1)<|an (W2 a5K.eq_1)<|an (ro b7U.eq_1)<|an (ro b7V.eq_1)<|an (ro b7W.eq_1)<|an (ro5 a5M.eq_1)<|an (ro b7X.eq_1)<|an (ro b7Y.eq_1)<|an (ro b7Z.eq_1)<|an (ro b8a.eq_1)<|an (ro b8b.eq_1)<|an (W2 a4f.eq_1)<|an (ro b3c.eq_1)<|an (ro b3d.eq_1)<|an (ro b3e.eq_1)<|an (ro b3f.eq_1)<|an (ro7 a4g.eq_1)<|an (ro b3g.eq_1)<|an (ro b3h.eq_1)<|an (ro b3i.eq_1)<|an (O5 a4h.eq_1)<|ro b3j.eq_1
def a0Q:CFn:=⟨(xF (xG b7S) (xF (xG b7T) (xF (xG b7U) (xF (xF (xG b7V) (.block 0 (xF (xG b7W) (.cond (fun e=>e 40) (xF (xG b7X) (xF (xF (xG b7Y) (.block 1 (.loop a2P))) (xF (xG b3e) .ret))) (xF (xG b3f) (.cond (fun e=>e 78) (xF (xG b3g) .ret) (xF (xG b3h) (.cond (fun e=>e 92) (xF (xG b3i) .ret) .skip)))))))) (xF (xG b3j) .ret))))),[.t 4]⟩
def e8k:Pers:=⟨12,[39,40,54,55,56,57,78,92],106,[]⟩
def b8c:Reg:=xA (wN 61 (e 1)) fun a=>xA (wB (.int .i64 0)) fun b=>xC ((e.upd 3 a).upd 4 b)
def a5N(a b c:Value):Reg:=xA (wI 9 b c) fun d=>xA (wC 7 d) fun f=>xA (wA none f) fun g=>xD fun h11=>xA (wD 74 [a,g]) fun i=>xA (wB i) fun j=>xC (e.upd 4 j)
def b8d:Reg:=xA (wA (some 5) (e 3)) fun a=>xA (wB (e 0)) fun b=>xA (wJ b) fun c=>xA (wC 4 c) fun d=>xA (wC 3 d) fun f=>xA (wA none f) fun g=>xA (wC 1 (e 3)) fun i=>xA (wA none i) fun j=>a5N e a g j
def e4K:=an (ro b8c.eq_1)<|an (W2 a5N.eq_1)<|ro b8d.eq_1
def d0x:CFn:=⟨(xF (xG b8c) (xF (xG b8d) .ret)),[.t 4]⟩
def e8l:Pers:=⟨5,[],17,[]⟩
def b8e:Reg:=xA (wB (.int .i64 0)) fun a=>xC (e.upd 4 a)
def b8f:Reg:=xA (wB (e 0)) fun a=>xA (wJ a) fun b=>xA (wC 2 b) fun c=>xA (wA none c) fun d=>xA (wP .not d) fun f=>xC (e.upd 9 f)
def b8g:Reg:=xA (wB (.int .i64 0)) fun a=>xC (e.upd 4 a)
def a5O(h5:Heap)(a b:Value):Reg:=xA (wJ b) fun c=>xA (wC 0 c) fun d=>xA (wA none d) fun f=>xE none (some h5) (wA none d) f<|xA (wE .sub a f) fun g=>xA (.minmax true [g,.int .i64 0]) fun i=>xA (wB i) fun j=>xC (e.upd 4 j)
def b8h:Reg:=xA (wB (e 0)) fun a=>xA (wJ a) fun b=>xA (wC 1 b) fun c=>xA (wA none c) fun d=>xA (wB (e 1)) fun f=>xD fun h5=>xA (wD 126 [d,f]) fun g=>xA (wB (e 0)) fun i=>a5O e h5 g i
def e4L:=an (ro b8e.eq_1)<|an (ro b8f.eq_1)<|an (ro b8g.eq_1)<|an (W2 a5O.eq_1)<|ro b8h.eq_1
def d0y:CFn:=⟨(xF (xG b8e) (xF (xF (xG b8f) (.cond (fun e=>e 9) (xF (xG b8g) .ret) .skip)) (xF (xG b8h) .ret))),[.t 4]⟩
def e8m:Pers:=⟨5,[9],22,[]⟩
def b8i:Reg:=xA (wH 55 [.int .i64 0,.int .i64 0,.int .i64 0]) fun a=>xA (wB (.slice none 0 0)) fun b=>xC ((e.upd 10 a).upd 11 b)
def a5P(a b:Value):Reg:=xA (wH 55 [.int .i64 0,.int .i64 0,.int .i64 0]) fun c=>xA (wF 3 c a) fun _=>xA (wB b) fun d=>xC ((e.upd 12 c).upd 13 d)
def b8j:Reg:=xA (wB (e 0)) fun a=>xA (wB (e 1)) fun b=>xA (wB (e 2)) fun c=>xA (wB (e 4)) fun d=>xA (wD 127 [a,b,c,d]) fun f=>xA (wB f) fun g=>xA (wG g 0) fun i=>xA (wG g 1) fun j=>a5P e i j
def b8k:Reg:=xA (wB (e 13)) fun a=>xC (e.upd 25 a)
def b8l:Reg:=xA (wB (e 0)) fun a=>xA (wC 0 (e 12)) fun b=>xA (wA none b) fun c=>xA (wD 128 [a,c]) fun d=>xC e
def b8m:Reg:=xA (wA (some 3) (e 12)) fun a=>xA (wF 3 (e 10) a) fun _=>xA (wB (.slice none 0 0)) fun b=>xC (e.upd 11 b)
def b8n:Reg:=xA (wB (e 0)) fun a=>xA (wJ a) fun b=>xA (wC 14 b) fun c=>xA (wA none c) fun d=>xA (wB (e 1)) fun f=>xA (wD 129 [d,f]) fun g=>xC e
def b8o:Reg:=xA (wB (e 0)) fun a=>xA (wJ a) fun b=>xA (wC 15 b) fun c=>xA (wA none c) fun d=>xA (wB (e 3)) fun f=>xA (wB (e 4)) fun g=>xA (wD 130 [d,f,g]) fun i=>xC e
def b8p:Reg:=xA (wB (e 0)) fun a=>xA (wB (e 1)) fun b=>xA (wB (e 3)) fun c=>xA (wD 131 [a,b,c]) fun d=>xA (wB d) fun f=>xA (wG f 0) fun g=>xA (wG f 1) fun i=>xA (wB g) fun j=>xA (wB i) fun k=>xC ((e.upd 14 j).upd 15 k)
def b8q:Reg:=xA (wM [.int .i64 0,.int .i64 0,.int .i64 0] [(0,1,(.int .i64 2))]) fun a=>xA (wH 55 [.int .i64 0,.int .i64 0,.int .i64 0]) fun b=>xA (wF 3 b a) fun _=>xC (e.upd 16 b)
def b8r:Reg:=xA (wB (e 14)) fun a=>xA (.eqK .ptr true a (.pointer none)) fun b=>xC (e.upd 53 b)
def b3k:Reg:=xA (wB (e 14)) fun a=>xA (wB (e 0)) fun b=>xA (wJ b) fun c=>xA (wC 9 c) fun d=>xA (wA (some 4) d) fun f=>xA (wB (e 1)) fun g=>xA (wB (e 4)) fun i=>xA (wD 132 [a,f,g,i]) fun j=>xC (e.upd 61 j)
def b3l:Reg:=xA (wC 0 (e 16)) fun a=>xA (wF 1 a (.int .i64 1)) fun _=>xC e
def a4i(a b c:Value):Reg:=xA (wB (e 4)) fun d=>xD fun h9=>xA (wD 133 [a,b,c,d]) fun f=>xA (wC 2 (e 16)) fun g=>xD fun h11=>xA (wF 1 g f) fun _=>xC e
def b3m:Reg:=xA (wB (e 14)) fun a=>xA (wJ a) fun b=>xA (wA (some 4) b) fun c=>xA (wB (e 0)) fun d=>xA (wJ d) fun f=>xA (wC 9 f) fun g=>xA (wA (some 4) g) fun i=>xA (wB (e 1)) fun j=>a4i e c i j
def a4j(a b c:Value):Reg:=xD fun h8=>xA (wD 134 [a,b,c]) fun d=>xA (wC 1 (e 16)) fun f=>xD fun h10=>xA (wF 1 f d) fun _=>xC e
def b3n:Reg:=xA (wB (e 14)) fun a=>xA (wJ a) fun b=>xA (wA (some 4) b) fun c=>xA (wB (e 0)) fun d=>xA (wJ d) fun f=>xA (wC 9 f) fun g=>xA (wA (some 4) g) fun i=>xA (wB (e 1)) fun j=>a4j e c i j
def a4k(h5:Heap)(a b:Value):Reg:=xD fun h7=>xA (wD 126 [a,b]) fun c=>xA (wB (e 0)) fun d=>xA (wJ d) fun f=>xA (wC 0 f) fun g=>xA (wC 0 g) fun i=>xA (wA none i) fun j=>xE none (some h7) (wA none i) j<|xE none (some h5) (wA none i) j<|xA (wE .leq c j) fun k=>xC (e.upd 97 k)
def b3o:Reg:=xA (wB (e 0)) fun a=>xA (wJ a) fun b=>xA (wC 14 b) fun c=>xA (wA none c) fun d=>xA (wB (e 3)) fun f=>xD fun h5=>xA (wD 135 [d,f]) fun g=>xA (wB (e 4)) fun i=>a4k e h5 g i
def b3p:Reg:=xA (wC 0 (e 16)) fun a=>xA (wF 1 a (.int .i64 1)) fun _=>xC e
def b3q:Reg:=xA (wB (e 0)) fun a=>xA (wJ a) fun b=>xA (wC 14 b) fun c=>xA (wA none c) fun d=>xA (wB (e 3)) fun f=>xA (wB (e 4)) fun g=>xA (wD 136 [d,f,g]) fun i=>xC e
def b3r:Reg:=xA (wB (e 0)) fun a=>xA (wJ a) fun b=>xA (wC 14 b) fun c=>xA (wA none c) fun d=>xA (wB (e 3)) fun f=>xA (wB (e 4)) fun g=>xA (wD 137 [d,f,g]) fun i=>xA (wC 2 (e 16)) fun j=>xA (wF 1 j i) fun _=>xC e
def a4m(a b:Value):Reg:=xA (wD 138 [a,b]) fun c=>xA (wC 1 (e 16)) fun d=>xD fun h15=>xA (wF 1 d c) fun _=>xC e
def a4l(a b c d:Value):Reg:=xA (wC 14 d) fun f=>xA (wA none f) fun g=>xA (wB (e 3)) fun i=>xD fun h11=>xA (wD 135 [g,i]) fun j=>xE none none (wA none b) c<|xA (wE .sub c j) fun k=>xD fun h13=>a4m e a k
def b3s:Reg:=xA (wB (e 0)) fun a=>xA (wB (e 0)) fun b=>xA (wJ b) fun c=>xA (wC 0 c) fun d=>xA (wC 0 d) fun f=>xA (wA none f) fun g=>xA (wB (e 0)) fun i=>xA (wJ i) fun j=>a4l e a f g j
def b3t:Reg:=xA (wB (e 0)) fun a=>xA (wC 0 (e 16)) fun b=>xA (wA none b) fun c=>xA (wD 128 [a,c]) fun d=>xC e
def a5Q:Reg:=xA (wA (some 3) (e 16)) fun a=>xA (wB (e 15)) fun b=>xA (wF 3 (e 10) a) fun _=>xA (wB b) fun c=>xC (e.upd 11 c)
def Z1:=an (ro b8i.eq_1)<|an (O5 a5P.eq_1)<|an (ro b8j.eq_1)<|an (ro b8k.eq_1)<|an (ro b8l.eq_1)<|an (ro b8m.eq_1)<|an (ro b8n.eq_1)<|an (ro b8o.eq_1)<|an (ro b8p.eq_1)<|an (ro b8q.eq_1)<|an (ro b8r.eq_1)<|an (ro b3k.eq_1)<|an (ro b3l.eq_1)<|an (W2 a4i.eq_1)<|an (ro b3m.eq_1)<|an (W2 a4j.eq_1)<|an (ro b3n.eq_1)<|an (W2 a4k.eq_1)<|an (ro b3o.eq_1)<|an (ro b3p.eq_1)<|an (ro b3q.eq_1)<|an (ro b3r.eq_1)<|an (O5 a4m.eq_1)<|an (ro4 a4l.eq_1)<|an (ro b3s.eq_1)<|an (ro b3t.eq_1)<|ro a5Q.eq_1
def U9:CFn:=⟨(xF (xG b8i) (xF (xF (xG b8j) (xF (xG b8k) (.cond (fun e=>e 25) (xF (xG b8l) (xF (xG b8m) .ret)) .skip))) (xF (xG b8n) (xF (xG b8o) (xF (xG b8p) (xF (xG b8q) (xF (xF (xG b8r) (.cond (fun e=>e 53) (xF (xF (xG b3k) (.cond (fun e=>e 61) (xG b3l) (xG b3m))) (xG b3n)) (xF (xF (xG b3o) (.cond (fun e=>e 97) (xF (xG b3p) (xG b3q)) (xG b3r))) (xG b3s)))) (xF (xG b3t) (xF (xG a5Q) .ret))))))))),[.c 10 (some 3),.t 11]⟩
def e8n:Pers:=⟨17,[25,53,61,97],135,[]⟩
def b8s:Reg:=xA (wN 55 (e 1)) fun a=>xA (wB (.slice none 0 0)) fun b=>xC ((e.upd 3 a).upd 4 b)
def b8t:Reg:=xA (wB (e 0)) fun a=>xA (wE .or a (.int .i64 128)) fun b=>xA (wO .u8 b) fun c=>xA (wC 0 (e 3)) fun d=>xA (wA none d) fun f=>xA (wO .u8 f) fun g=>xA (.buildSlice 5 2 [.int .u8 0] [(0,1,c),(1,1,g)]) fun i=>xA (wB i) fun j=>xC (e.upd 5 j)
def a5R(h4:Heap)(a b c:Value):Reg:=xE none (some h4) (wA none b) c<|xA (wO .u64 c) fun d=>xD fun h8=>xA (wD 44 [a,.int .i64 8,d]) fun f=>xD fun h9=>xA (wD 45 [.int .u8 168,f]) fun g=>xA (wB g) fun i=>xC (e.upd 4 i)
def b8u:Reg:=xA (wB (e 5)) fun a=>xA (wC 1 (e 3)) fun b=>xA (wA none b) fun c=>xA (wO .u64 c) fun d=>xD fun h4=>xA (wD 44 [a,.int .i64 8,d]) fun f=>xA (wC 2 (e 3)) fun g=>xA (wA none g) fun i=>a5R e h4 f g i
def e0H:=an (ro b8s.eq_1)<|an (ro b8t.eq_1)<|an (ro4 a5R.eq_1)<|ro b8u.eq_1
def b6b:CFn:=⟨(xF (xG b8s) (xF (xG b8t) (xF (xG b8u) .ret))),[.t 4]⟩
def e8o:Pers:=⟨6,[],23,[]⟩
def b8v:Reg:=xA (wH 55 [.int .i64 0,.int .i64 0,.int .i64 0]) fun a=>xC (e.upd 10 a)
def a5S(a b:Value):Reg:=xA (wH 55 [.int .i64 0,.int .i64 0,.int .i64 0]) fun c=>xA (wF 3 c a) fun _=>xA (wB b) fun d=>xC ((e.upd 11 c).upd 12 d)
def b8w:Reg:=xA (wB (e 0)) fun a=>xA (wB (e 1)) fun b=>xA (wB (e 2)) fun c=>xA (wB (e 4)) fun d=>xA (wD 127 [a,b,c,d]) fun f=>xA (wB f) fun g=>xA (wG g 0) fun i=>xA (wG g 1) fun j=>a5S e i j
def b8x:Reg:=xA (wB (e 12)) fun a=>xC (e.upd 26 a)
def b8y:Reg:=xA (wA (some 3) (e 11)) fun a=>xA (wF 3 (e 10) a) fun _=>xC e
def b8z:Reg:=xA (wB (e 0)) fun a=>xA (wJ a) fun b=>xA (wC 14 b) fun c=>xA (wA none c) fun d=>xA (wB (e 1)) fun f=>xA (wD 129 [d,f]) fun g=>xC e
def b8A:Reg:=xA (wB (e 0)) fun a=>xA (wJ a) fun b=>xA (wC 13 b) fun c=>xA (wA none c) fun d=>xA (wB (e 3)) fun f=>xA (wD 139 [d,f]) fun g=>xA (wB g) fun i=>xC (e.upd 13 i)
def Q7(a b:Value):Reg:=xA (wB (e 1)) fun c=>xD fun h9=>xA (wD 140 [a,b,c]) fun d=>xA (wB d) fun f=>xA (wG f 0) fun g=>xA (wG f 1) fun i=>xA (wB g) fun j=>xA (wB i) fun k=>xC ((e.upd 14 j).upd 15 k)
def b8B:Reg:=xA (wB (e 0)) fun a=>xA (wJ a) fun b=>xA (wC 13 b) fun c=>xA (wA none c) fun d=>xA (wB (e 0)) fun f=>xA (wJ f) fun g=>xA (wC 9 g) fun i=>xA (wA (some 4) i) fun j=>Q7 e d j
def Q8(a b:Value):Reg:=xB a true (wP .not b) fun c=>xB a true (wB c) fun d=>xB d false (wB (e 15)) fun f=>xB a true (wK d (.bool true) f) fun g=>xA (wK a g (.bool false)) fun i=>xC (e.upd 65 i)
def a1C:Reg:=xA (wB (e 13)) fun a=>xA (.eqK .ptr false a (.pointer none)) fun b=>xA (wB b) fun c=>xB c true (wB (e 0)) fun d=>xB c true (wJ d) fun f=>xB c true (wC 13 f) fun g=>xB c true (wA none g) fun i=>xB c true (wD 141 [i]) fun j=>Q8 e c j
def a5e:Reg:=xA (wB (e 1)) fun a=>xA (wB (e 0)) fun b=>xA (wJ b) fun c=>xA (wC 14 c) fun d=>xA (wA none d) fun f=>xA (wB (e 3)) fun g=>xA (wD 135 [f,g]) fun i=>xA (wD 142 [a,i]) fun j=>xA (wH 250 [.int .i64 0,.int .i64 0,.int .i64 0,.int .i64 0]) fun k=>xA (wF 4 k j) fun _=>xC (e.upd 16 k)
def a5f:Reg:=xA (wB (e 16)) fun a=>xC (e.upd 13 a)
def a0j:Reg:=xA (wM [.int .i64 0,.int .i64 0,.int .i64 0] [(0,1,(.int .i64 1))]) fun a=>xA (wH 55 [.int .i64 0,.int .i64 0,.int .i64 0]) fun b=>xA (wF 3 b a) fun _=>xC (e.upd 17 b)
def a0k:Reg:=xA (wB (e 13)) fun a=>xA (.eqK .ptr true a (.pointer none)) fun b=>xC (e.upd 76 b)
def a0T(a b c:Value):Reg:=xD fun h8=>xA (wD 134 [a,b,c]) fun d=>xA (wC 1 (e 17)) fun f=>xD fun h10=>xA (wF 1 f d) fun _=>xC e
def a0S:Reg:=xA (wB (e 13)) fun a=>xA (wJ a) fun b=>xA (wA (some 4) b) fun c=>xA (wB (e 0)) fun d=>xA (wJ d) fun f=>xA (wC 9 f) fun g=>xA (wA (some 4) g) fun i=>xA (wB (e 1)) fun j=>a0T e c i j
def a0V(a b c:Value):Reg:=xA (wB (e 4)) fun d=>xD fun h9=>xA (wD 133 [a,b,c,d]) fun f=>xA (wC 2 (e 17)) fun g=>xD fun h11=>xA (wF 1 g f) fun _=>xC e
def a0U:Reg:=xA (wB (e 13)) fun a=>xA (wJ a) fun b=>xA (wA (some 4) b) fun c=>xA (wB (e 0)) fun d=>xA (wJ d) fun f=>xA (wC 9 f) fun g=>xA (wA (some 4) g) fun i=>xA (wB (e 1)) fun j=>a0V e c i j
def a0Y(a b:Value):Reg:=xA (wD 138 [a,b]) fun c=>xA (wC 1 (e 17)) fun d=>xD fun h15=>xA (wF 1 d c) fun _=>xC e
def a0X(a b c d:Value):Reg:=xA (wC 14 d) fun f=>xA (wA none f) fun g=>xA (wB (e 3)) fun i=>xD fun h11=>xA (wD 135 [g,i]) fun j=>xE none none (wA none b) c<|xA (wE .sub c j) fun k=>xD fun h13=>a0Y e a k
def a0W:Reg:=xA (wB (e 0)) fun a=>xA (wB (e 0)) fun b=>xA (wJ b) fun c=>xA (wC 0 c) fun d=>xA (wC 0 d) fun f=>xA (wA none f) fun g=>xA (wB (e 0)) fun i=>xA (wJ i) fun j=>a0X e a f g j
def a0Z:Reg:=xA (wB (e 0)) fun a=>xA (wJ a) fun b=>xA (wC 14 b) fun c=>xA (wA none c) fun d=>xA (wB (e 3)) fun f=>xA (wB (e 4)) fun g=>xA (wD 137 [d,f,g]) fun i=>xA (wC 2 (e 17)) fun j=>xA (wF 1 j i) fun _=>xC e
def a1a:Reg:=xA (wC 2 (e 17)) fun a=>xA (wA none a) fun b=>xA (wE .gtr b (.int .i64 0)) fun c=>xC (e.upd 123 c)
def a1b:Reg:=xA (wC 0 (e 17)) fun a=>xA (wF 1 a (.int .i64 2)) fun _=>xC e
def a1c:Reg:=xA (wA (some 3) (e 17)) fun a=>xA (wF 3 (e 10) a) fun _=>xC e
def b5O:=an (ro b8v.eq_1)<|an (O5 a5S.eq_1)<|an (ro b8w.eq_1)<|an (ro b8x.eq_1)<|an (ro b8y.eq_1)<|an (ro b8z.eq_1)<|an (ro b8A.eq_1)<|an (O5 Q7.eq_1)<|an (ro b8B.eq_1)<|an (O5 Q8.eq_1)<|an (ro a1C.eq_1)<|an (ro a5e.eq_1)<|an (ro a5f.eq_1)<|an (ro a0j.eq_1)<|an (ro a0k.eq_1)<|an (W2 a0T.eq_1)<|an (ro a0S.eq_1)<|an (W2 a0V.eq_1)<|an (ro a0U.eq_1)<|an (O5 a0Y.eq_1)<|an (ro4 a0X.eq_1)<|an (ro a0W.eq_1)<|an (ro a0Z.eq_1)<|an (ro a1a.eq_1)<|an (ro a1b.eq_1)<|ro a1c.eq_1
def a8L:CFn:=⟨(xF (xG b8v) (xF (xF (xG b8w) (xF (xG b8x) (.cond (fun e=>e 26) (xF (xG b8y) .ret) .skip))) (xF (xG b8z) (xF (xG b8A) (xF (xF (xG b8B) (xF (xG a1C) (.cond (fun e=>e 65) (xF (xG a5e) (xG a5f)) .skip))) (xF (xG a0j) (xF (xF (xG a0k) (.cond (fun e=>e 76) (xF (xG a0S) (xG a0U)) (xF (xG a0W) (xG a0Z)))) (xF (xF (xG a1a) (.cond (fun e=>e 123) (xG a1b) .skip)) (xF (xG a1c) .ret))))))))),[.c 10 (some 3)]⟩
def e8p:Pers:=⟨18,[26,65,76,123],126,[]⟩
def b8C:Reg:=xA (wN 63 (e 1)) fun a=>xA (wB (.slice none 0 0)) fun b=>xC ((e.upd 3 a).upd 4 b)
def b8D:Reg:=xA (wB (e 0)) fun a=>xA (wO .u8 a) fun b=>xA (.buildSlice 5 2 [.int .u8 0] [(0,1,(.int .u8 131)),(1,1,b)]) fun c=>xA (wB c) fun d=>xC (e.upd 5 d)
def a5T(a b c d:Value):Reg:=xA (wC 4 (e 3)) fun f=>xA (wA none f) fun g=>xA (wM [.int .i64 0,.int .i64 0,.int .i64 0,.int .i64 0,.int .i64 0] [(0,1,a),(1,1,b),(2,1,c),(3,1,d),(4,1,g)]) fun i=>xA (wB (.int .i64 0)) fun j=>xC ((e.upd 21 i).upd 22 j)
def b8E:Reg:=xA (wC 0 (e 3)) fun a=>xA (wA none a) fun b=>xA (wC 1 (e 3)) fun c=>xA (wA none c) fun d=>xA (wC 2 (e 3)) fun f=>xA (wA none f) fun g=>xA (wC 3 (e 3)) fun i=>xA (wA none i) fun j=>a5T e b d g j
def b8F:Reg:=xA (wE .lss (e 22) (.int .i64 5)) fun a=>xC (e.upd 23 a)
def b8G:Reg:=xA (.indexAgg 5 1 none (e 21) (e 22)) fun a=>xA (wB a) fun b=>xC (e.upd 7 b)
def b8H:Reg:=xA (wB (e 5)) fun a=>xA (wB (e 7)) fun b=>xA (wO .u64 b) fun c=>xA (wD 44 [a,.int .i64 8,c]) fun d=>xA (wB d) fun f=>xC (e.upd 5 f)
def b8I:Reg:=xA (wE .add (e 22) (.int .i64 1)) fun a=>xA (wB a) fun b=>xC (e.upd 22 b)
def a5g:CC:=(xF (xG b8F) (xF (.cond (fun e=>e 23) .skip (.exit 0)) (xF (.block 1 (xF (xG b8G) (xG b8H))) (xG b8I))))
def b8J:Reg:=xA (wB (e 5)) fun a=>xA (wD 45 [.int .u8 168,a]) fun b=>xA (wB b) fun c=>xC (e.upd 4 c)
def c9X:=an (ro b8C.eq_1)<|an (ro b8D.eq_1)<|an (ro4 a5T.eq_1)<|an (ro b8E.eq_1)<|an (ro b8F.eq_1)<|an (ro b8G.eq_1)<|an (ro b8H.eq_1)<|an (ro b8I.eq_1)<|ro b8J.eq_1
def b3u:CFn:=⟨(xF (xG b8C) (xF (xG b8D) (xF (xF (xG b8E) (.block 0 (.loop a5g))) (xF (xG b8J) .ret)))),[.t 4]⟩
def e8q:Pers:=⟨8,[21,22,23],32,[]⟩
def b8K:Reg:=xA (wB (.slice none 0 0)) fun a=>xC (e.upd 4 a)
def b8L:Reg:=xA (wB (e 0)) fun a=>xA (wO .u8 a) fun b=>xA (wB (e 1)) fun c=>xA (wL c) fun d=>xA (wO .u8 d) fun f=>xA (.buildSlice 5 3 [.int .u8 0] [(0,1,(.int .u8 132)),(1,1,b),(2,1,f)]) fun g=>xA (wB g) fun i=>xC (e.upd 5 i)
def b8M:Reg:=xA (wB (e 1)) fun a=>xA (wL a) fun b=>xA (wB (.int .i64 0)) fun c=>xC (((e.upd 14 a).upd 15 b).upd 16 c)
def b8N:Reg:=xA (wE .lss (e 16) (e 15)) fun a=>xC (e.upd 17 a)
def b8O:Reg:=xA (wI 3 (e 14) (e 16)) fun a=>xA (wA (some 3) a) fun b=>xA (wH 82 [.string ⟨#[]⟩,.int .i64 0,.int .i64 0]) fun c=>xA (wF 3 c b) fun _=>xC (e.upd 7 c)
def a5V(h6:Heap)(a:Value):Reg:=xA (wC 0 (e 7)) fun b=>xA (wA none b) fun c=>xE none (some h6) (wA none b) c<|xD fun h9=>xA (.append 5 1 1 a c) fun d=>xA (wB d) fun f=>xC (e.upd 5 f)
def b8P:Reg:=xA (wB (e 5)) fun a=>xA (wC 0 (e 7)) fun b=>xA (wA none b) fun c=>xA (.lenStr c) fun d=>xA (wO .u8 d) fun f=>xA (.buildSlice 5 1 [.int .u8 0] [(0,1,f)]) fun g=>xD fun h6=>xA (.append 5 1 1 a g) fun i=>a5V e h6 i
def a5W(h4:Heap)(a b c:Value):Reg:=xE none (some h4) (wA none b) c<|xA (wO .u64 c) fun d=>xD fun h8=>xA (wD 44 [a,.int .i64 8,d]) fun f=>xA (wB f) fun g=>xC (e.upd 5 g)
def b8Q:Reg:=xA (wB (e 5)) fun a=>xA (wC 1 (e 7)) fun b=>xA (wA none b) fun c=>xA (wO .u64 c) fun d=>xD fun h4=>xA (wD 44 [a,.int .i64 8,d]) fun f=>xA (wC 2 (e 7)) fun g=>xA (wA none g) fun i=>a5W e h4 f g i
def b8R:Reg:=xA (wE .add (e 16) (.int .i64 1)) fun a=>xA (wB a) fun b=>xC (e.upd 16 b)
def a5h:CC:=(xF (xG b8N) (xF (.cond (fun e=>e 17) .skip (.exit 0)) (xF (.block 1 (xF (xG b8O) (xF (xG b8P) (xG b8Q)))) (xG b8R))))
def b8S:Reg:=xA (wB (e 5)) fun a=>xA (wD 45 [.int .u8 168,a]) fun b=>xA (wB b) fun c=>xC (e.upd 4 c)
def b2P:=an (ro b8K.eq_1)<|an (ro b8L.eq_1)<|an (ro b8M.eq_1)<|an (ro b8N.eq_1)<|an (ro b8O.eq_1)<|an (O5 a5V.eq_1)<|an (ro b8P.eq_1)<|an (ro4 a5W.eq_1)<|an (ro b8Q.eq_1)<|an (ro b8R.eq_1)<|ro b8S.eq_1
def a5U:CFn:=⟨(xF (xG b8K) (xF (xG b8L) (xF (xF (xG b8M) (.block 0 (.loop a5h))) (xF (xG b8S) .ret)))),[.t 4]⟩
def e8r:Pers:=⟨8,[14,15,16,17],42,[]⟩
def b8T:Reg:=xA (wB (.slice none 0 0)) fun a=>xC (e.upd 4 a)
def b8U:Reg:=xA (wB (e 0)) fun a=>xA (wJ a) fun b=>xA (wC 15 b) fun c=>xA (wA none c) fun d=>xA (wB (e 1)) fun f=>xA (wD 143 [d,f]) fun g=>xA (wB g) fun i=>xC (e.upd 4 i)
def e4M:=an (ro b8T.eq_1)<|ro b8U.eq_1
def d0z:CFn:=⟨(xF (xG b8T) (xF (xG b8U) .ret)),[.t 4]⟩
def e8s:Pers:=⟨5,[],11,[]⟩
def b8V:Reg:=xA (wB (.int .i64 0)) fun a=>xC (e.upd 4 a)
def b8W:Reg:=xA (wB (e 0)) fun a=>xA (wB (e 1)) fun b=>xA (wD 144 [a,b]) fun c=>xA (wB c) fun d=>xA (wG d 0) fun f=>xA (wG d 1) fun g=>xA (wB f) fun i=>xA (wB g) fun j=>xC ((e.upd 5 i).upd 6 j)
def b8X:Reg:=xA (wB (e 6)) fun a=>xA (wP .not a) fun b=>xC (e.upd 14 b)
def b8Y:Reg:=xA (wB (e 0)) fun a=>xA (wE .lss a (.int .i64 0)) fun b=>xA (wD 145 [b]) fun c=>xA (wB c) fun d=>xC (e.upd 4 d)
def b8Z:Reg:=xA (wB (e 5)) fun a=>xA (wB a) fun b=>xC (e.upd 4 b)
def e4N:=an (ro b8V.eq_1)<|an (ro b8W.eq_1)<|an (ro b8X.eq_1)<|an (ro b8Y.eq_1)<|ro b8Z.eq_1
def d0A:CFn:=⟨(xF (xG b8V) (xF (xG b8W) (xF (xF (xG b8X) (.cond (fun e=>e 14) (xF (xG b8Y) .ret) .skip)) (xF (xG b8Z) .ret)))),[.t 4]⟩
def e8t:Pers:=⟨7,[14],19,[]⟩
def b9a:Reg:=xA (wH 55 [.int .i64 0,.int .i64 0,.int .i64 0]) fun a=>xA (wB (.bool false)) fun b=>xC ((e.upd 8 a).upd 9 b)
def a5X(a b c:Value):Reg:=xB a false (wA none c) fun d=>xB a false (wE .gtr b d) fun f=>xA (wK a (.bool true) f) fun g=>xA (wB g) fun i=>xC (e.upd 10 i)
def b9b:Reg:=xA (wB (e 3)) fun a=>xA (wE .lss a (.int .i64 1)) fun b=>xA (wB b) fun c=>xB c false (wB (e 3)) fun d=>xB c false (wB (e 0)) fun f=>xB c false (wJ f) fun g=>xB c false (wC 0 g) fun i=>xB c false (wC 2 i) fun j=>a5X e c d j
def b9c:Reg:=xA (wM [.int .i64 0,.int .i64 0,.int .i64 0] [(0,1,(.int .i64 3))]) fun a=>xA (wF 3 (e 8) a) fun _=>xA (wB (.bool true)) fun b=>xC (e.upd 9 b)
def b9d:Reg:=xA (wB (e 1)) fun a=>xA (wE .geq a (.int .i64 4611686018427387904)) fun b=>xA (wB b) fun c=>xC (e.upd 23 c)
def b9e:Reg:=xA (wM [.int .i64 0,.int .i64 0,.int .i64 0] [(0,1,(.int .i64 2)),(2,1,(.int .i64 9223372036854775807))]) fun a=>xA (wF 3 (e 8) a) fun _=>xA (wB (.bool true)) fun b=>xC (e.upd 9 b)
def b9f:Reg:=xA (wB (e 2)) fun a=>xA (wE .gtr a (.int .i64 0)) fun b=>xA (wB b) fun c=>xC (e.upd 27 c)
def b9g:Reg:=xA (wB (e 2)) fun a=>xA (wM [.int .i64 0,.int .i64 0,.int .i64 0] [(0,1,(.int .i64 2)),(2,1,a)]) fun b=>xA (wF 3 (e 8) b) fun _=>xA (wB (.bool true)) fun c=>xC (e.upd 9 c)
def b9h:Reg:=xA (wM [.int .i64 0,.int .i64 0,.int .i64 0] []) fun a=>xA (wF 3 (e 8) a) fun _=>xA (wB (.bool false)) fun b=>xC (e.upd 9 b)
def c9Y:=an (ro b9a.eq_1)<|an (W2 a5X.eq_1)<|an (ro b9b.eq_1)<|an (ro b9c.eq_1)<|an (ro b9d.eq_1)<|an (ro b9e.eq_1)<|an (ro b9f.eq_1)<|an (ro b9g.eq_1)<|ro b9h.eq_1
def b3v:CFn:=⟨(xF (xG b9a) (xF (.block 0 (xF (xG b9b) (.cond (fun e=>e 10) (xF (xG b9c) .ret) (xF (xG b9d) (.cond (fun e=>e 23) (xF (xG b9e) .ret) (xF (xG b9f) (.cond (fun e=>e 27) (xF (xG b9g) .ret) .skip))))))) (xF (xG b9h) .ret))),[.c 8 (some 3),.t 9]⟩
def e8u:Pers:=⟨10,[10,23,27],33,[]⟩
def b9i:Reg:=xA (wB (e 1)) fun a=>xC (e.upd 4 a)
def b9k:Reg:=xA (wE .eql (e 4) (.int .i64 1)) fun a=>xA (wB a) fun b=>xC (e.upd 14 b)
def b9l:Reg:=xA (wB (e 0)) fun a=>xA (wJ a) fun b=>xA (wC 16 b) fun c=>xA (wC 0 c) fun d=>xA (wA none d) fun f=>xA (wE .add f (.int .i64 1)) fun g=>xA (wJ a) fun i=>xA (wC 16 i) fun j=>xA (wC 0 j) fun k=>xA (wF 1 k g) fun _=>xC e
def b9m:Reg:=xA (wE .eql (e 4) (.int .i64 2)) fun a=>xA (wB a) fun b=>xC (e.upd 25 b)
def b9n:Reg:=xA (wB (e 0)) fun a=>xA (wJ a) fun b=>xA (wC 16 b) fun c=>xA (wC 1 c) fun d=>xA (wA none d) fun f=>xA (wE .add f (.int .i64 1)) fun g=>xA (wJ a) fun i=>xA (wC 16 i) fun j=>xA (wC 1 j) fun k=>xA (wF 1 k g) fun _=>xC e
def b9j:Reg:=xA (wB (e 0)) fun a=>xA (wJ a) fun b=>xA (wC 16 b) fun c=>xA (wC 2 c) fun d=>xA (wA none d) fun f=>xA (wE .add f (.int .i64 1)) fun g=>xA (wJ a) fun i=>xA (wC 16 i) fun j=>xA (wC 2 j) fun k=>xA (wF 1 k g) fun _=>xC e
def e2R:=an (ro b9i.eq_1)<|an (ro b9k.eq_1)<|an (ro b9l.eq_1)<|an (ro b9m.eq_1)<|an (ro b9n.eq_1)<|ro b9j.eq_1
def c8b:CFn:=⟨(xF (xG b9i) (.block 0 (xF (xG b9k) (.cond (fun e=>e 14) (xG b9l) (xF (xG b9m) (.cond (fun e=>e 25) (xG b9n) (xG b9j))))))),[]⟩
def e8v:Pers:=⟨4,[4,14,25],36,[]⟩
def b9o:Reg:=xA (wB (e 0)) fun a=>xA (.eqK .ptr true a (.pointer none)) fun b=>xC (e.upd 5 b)
def b9p:Reg:=xA (wB (e 0)) fun a=>xA (wB (e 0)) fun b=>xA (wJ b) fun c=>xA (wC 6 c) fun d=>xA (wA none d) fun f=>xA (wB (e 1)) fun g=>xA (.minmax true [f,g]) fun i=>xA (wJ a) fun j=>xA (wC 6 j) fun k=>xA (wF 1 k i) fun _=>xC e
def e9O:=an (ro b9o.eq_1)<|ro b9p.eq_1
def e0Y:CFn:=⟨(xF (xG b9o) (.cond (fun e=>e 5) (xG b9p) .skip)),[]⟩
def e8w:Pers:=⟨4,[5],15,[]⟩
def a5Z(a b:Value):Reg:=xB a false (wE .geq b (.int .i64 4611686018427387904)) fun c=>xA (wK a (.bool true) c) fun d=>xA (wB d) fun f=>xB f false (wB (e 1)) fun g=>xB f false (.lenStr g) fun i=>xB f false (wE .gtr i (.int .i64 64)) fun j=>xA (wK f (.bool true) j) fun k=>xC (e.upd 23 k)
def b9q:Reg:=xA (wB (e 0)) fun a=>xA (.eqK .ptr false a (.pointer none)) fun b=>xA (wB b) fun c=>xB c false (wB (e 2)) fun d=>xB c false (wE .lss d (.int .i64 1)) fun f=>xA (wK c (.bool true) f) fun g=>xA (wB g) fun i=>xB i false (wB (e 2)) fun j=>a5Z e i j
def b9r:Reg:=xA (wB (e 0)) fun a=>xA (wJ a) fun b=>xA (wC 6 b) fun c=>xA (wA none c) fun d=>xA (wB (e 2)) fun f=>xA (wE .sub (.int .i64 4611686018427387904) f) fun g=>xA (wE .geq d g) fun i=>xC (e.upd 30 i)
def b9s:Reg:=xA (wB (e 0)) fun a=>xA (wD 146 [a]) fun b=>xC e
def b9t:Reg:=xA (wB (e 0)) fun a=>xA (wJ a) fun b=>xA (wC 6 b) fun c=>xA (wA none c) fun d=>xA (wB (e 2)) fun f=>xA (wE .add d f) fun g=>xA (wJ a) fun i=>xA (wC 6 i) fun j=>xA (wF 1 j g) fun _=>xC e
def b9u:Reg:=xA (wB (e 0)) fun a=>xA (wJ a) fun b=>xA (wC 1 b) fun c=>xA (wA none c) fun d=>xA (wB (e 1)) fun f=>xA (wD 147 [d,f]) fun g=>xA (wB g) fun i=>xC (e.upd 6 i)
def b9v:Reg:=xA (wB (e 6)) fun a=>xA (wE .lss a (.int .i64 0)) fun b=>xC (e.upd 48 b)
def b9w:Reg:=xA (wB (.int .i64 0)) fun a=>xC (e.upd 7 a)
def b9x:Reg:=xA (wB (e 0)) fun a=>xD fun h1=>xA (wD 148 [a]) fun b=>xA (wB (e 0)) fun c=>xA (wJ c) fun d=>xA (wC 2 d) fun f=>xA (wA none f) fun g=>xE none (some h1) (wA none f) g<|xA (wL g) fun i=>xA (wE .eql b i) fun j=>xC (e.upd 56 j)
def b9y:Reg:=xA (wB (e 0)) fun a=>xA (wD 149 [a]) fun b=>xA (wB b) fun c=>xC (e.upd 7 c)
def b9z:Reg:=xA (wB (e 0)) fun a=>xA (wJ a) fun b=>xA (wC 1 b) fun c=>xA (wA none c) fun d=>xA (wB (e 1)) fun f=>xA (wD 150 [d,f]) fun g=>xA (wB g) fun i=>xC (e.upd 6 i)
def a4n(a b c:Value):Reg:=xA (wA none c) fun d=>xA (wB (e 6)) fun f=>xA (wB (e 7)) fun g=>xA (wB (e 7)) fun i=>xA (wI 1 a b) fun j=>xD fun h13=>xA (wF 1 j g) fun _=>xA (wI 1 d f) fun k=>xD fun h15=>xA (wF 1 k i) fun _=>xC e
def a6a:Reg:=xA (wB (e 0)) fun a=>xA (wJ a) fun b=>xA (wC 2 b) fun c=>xA (wA none c) fun d=>xA (wB (e 6)) fun f=>xA (wB (e 0)) fun g=>xA (wJ g) fun i=>xA (wC 3 i) fun j=>a4n e d f j
def a6b:Reg:=xA (wB (e 0)) fun a=>xA (wD 148 [a]) fun b=>xA (wE .sub b (.int .i64 1)) fun c=>xA (wB c) fun d=>xC (e.upd 8 d)
def a4p(a b c d f:Value):Reg:=xA (wF 1 f c) fun _=>xA (wI 1 a b) fun g=>xD fun h17=>xA (wF 1 g d) fun _=>xC e
def a4o(a b c:Value):Reg:=xA (wA none c) fun d=>xA (wB (e 6)) fun f=>xA (wB (e 6)) fun g=>xA (wO .i32 g) fun i=>xA (wB (e 8)) fun j=>xA (wO .i32 j) fun k=>xA (wI 1 a b) fun m=>xD fun h15=>a4p e d f i k m
def a6c:Reg:=xA (wB (e 0)) fun a=>xA (wJ a) fun b=>xA (wC 4 b) fun c=>xA (wA none c) fun d=>xA (wB (e 8)) fun f=>xA (wB (e 0)) fun g=>xA (wJ g) fun i=>xA (wC 5 i) fun j=>a4o e d f j
def a4q(a b c d:Value):Reg:=xA (wE .add c d) fun f=>xA (wI 1 a b) fun g=>xA (wF 1 g f) fun _=>xC e
def a6d:Reg:=xA (wB (e 0)) fun a=>xA (wJ a) fun b=>xA (wC 2 b) fun c=>xA (wA none c) fun d=>xA (wB (e 6)) fun f=>xA (wI 1 d f) fun g=>xA (wA none g) fun i=>xA (wB (e 2)) fun j=>a4q e d f i j
def a6e:Reg:=xA (wB (e 0)) fun a=>xA (wB (e 6)) fun b=>xA (wD 151 [a,b]) fun c=>xC e
def c7H:=an (O5 a5Z.eq_1)<|an (ro b9q.eq_1)<|an (ro b9r.eq_1)<|an (ro b9s.eq_1)<|an (ro b9t.eq_1)<|an (ro b9u.eq_1)<|an (ro b9v.eq_1)<|an (ro b9w.eq_1)<|an (ro b9x.eq_1)<|an (ro b9y.eq_1)<|an (ro b9z.eq_1)<|an (W2 a4n.eq_1)<|an (ro a6a.eq_1)<|an (ro a6b.eq_1)<|an (ro5 a4p.eq_1)<|an (W2 a4o.eq_1)<|an (ro a6c.eq_1)<|an (ro4 a4q.eq_1)<|an (ro a6d.eq_1)<|ro a6e.eq_1
def b1C:CFn:=⟨(xF (xF (xG b9q) (.cond (fun e=>e 23) .ret .skip)) (xF (xF (xG b9r) (.cond (fun e=>e 30) (xG b9s) .skip)) (xF (xG b9t) (xF (xG b9u) (xF (xF (xG b9v) (.cond (fun e=>e 48) (xF (xG b9w) (xF (xF (xG b9x) (.cond (fun e=>e 56) (xG b9y) .skip)) (xF (xG b9z) (xF (xG a6a) (xF (xG a6b) (xG a6c)))))) .skip)) (xF (xG a6d) (xG a6e))))))),[]⟩
def e8x:Pers:=⟨9,[23,30,48,56],111,[]⟩
def b9A:Reg:=xA (wB (.pointer none)) fun a=>xA (wB (.slice none 0 0)) fun b=>xC ((e.upd 6 a).upd 7 b)
def b9B:Reg:=xA (wB (e 0)) fun a=>xA (wJ a) fun b=>xA (wC 13 b) fun c=>xA (wA none c) fun d=>xA (wB (e 2)) fun f=>xA (wD 139 [d,f]) fun g=>xA (wB g) fun i=>xC (e.upd 8 i)
def b9C:Reg:=xA (wB (e 8)) fun a=>xA (.eqK .ptr true a (.pointer none)) fun b=>xC (e.upd 22 b)
def b9D:Reg:=xA (wB (e 8)) fun a=>xA (wB a) fun b=>xA (wB (.slice none 0 0)) fun c=>xC ((e.upd 6 b).upd 7 c)
def b9E:Reg:=xA (wB (.slice none 0 0)) fun a=>xC (e.upd 9 a)
def b9F:Reg:=xA (wB (e 0)) fun a=>xA (wJ a) fun b=>xA (wC 13 b) fun c=>xA (wA none c) fun d=>xA (wD 141 [d]) fun f=>xC (e.upd 28 f)
def a6j(a b:Value):Reg:=xA (wB (e 1)) fun c=>xD fun h9=>xA (wD 140 [a,b,c]) fun d=>xA (wB d) fun f=>xA (wG f 0) fun g=>xA (wG f 1) fun i=>xA (wB g) fun j=>xA (wB i) fun k=>xC ((e.upd 10 j).upd 11 k)
def b9G:Reg:=xA (wB (e 0)) fun a=>xA (wJ a) fun b=>xA (wC 13 b) fun c=>xA (wA none c) fun d=>xA (wB (e 0)) fun f=>xA (wJ f) fun g=>xA (wC 9 g) fun i=>xA (wA (some 4) i) fun j=>a6j e d j
def b9H:Reg:=xA (wB (e 11)) fun a=>xA (wP .not a) fun b=>xC (e.upd 43 b)
def b9I:Reg:=xA (wB (e 0)) fun a=>xA (wB (e 2)) fun b=>xA (wD 152 [a,b]) fun c=>xA (wB c) fun d=>xA (wG d 0) fun f=>xA (wG d 1) fun g=>xA (wB f) fun i=>xA (wB g) fun j=>xC ((e.upd 10 i).upd 11 j)
def b9J:Reg:=xA (wB (e 11)) fun a=>xA (wP .not a) fun b=>xC (e.upd 51 b)
def b3w:Reg:=xA (wB (.pointer none)) fun a=>xA (wB (.slice none 0 0)) fun b=>xC ((e.upd 6 a).upd 7 b)
def a1d(a b:Value):Reg:=xA (wG a 1) fun c=>xA (wH 250 [.int .i64 0,.int .i64 0,.int .i64 0,.int .i64 0]) fun d=>xA (wF 4 d b) fun _=>xA (wB c) fun f=>xC ((e.upd 12 d).upd 13 f)
def b3x:Reg:=xA (wB (e 0)) fun a=>xA (wJ a) fun b=>xA (wC 13 b) fun c=>xA (wA none c) fun d=>xA (wB (e 10)) fun f=>xA (wD 153 [d,f]) fun g=>xA (wB g) fun i=>xA (wG i 0) fun j=>a1d e i j
def a4r(a b c d f:Value):Reg:=xA (wC 9 f) fun g=>xA (wA (some 4) g) fun i=>xA (wB (e 1)) fun j=>xD fun h11=>xA (wD 154 [d,i,j]) fun k=>xE none none (wA none a) b<|xD fun h12=>xA (wD 136 [b,c,k]) fun m=>xC e
def a6f:Reg:=xA (wB (e 0)) fun a=>xA (wJ a) fun b=>xA (wC 14 b) fun c=>xA (wA none c) fun d=>xA (wB (e 10)) fun f=>xA (wA (some 4) (e 12)) fun g=>xA (wB (e 0)) fun i=>xA (wJ i) fun j=>a4r e c d f g j
def a6g:Reg:=xA (wB (e 9)) fun a=>xA (wB (e 10)) fun b=>xA (wB (e 1)) fun c=>xA (wM [.int .i64 0,.string ⟨#[]⟩,.bool false,.int .i64 0] [(1,1,b),(3,1,c)]) fun d=>xA (.buildSlice 123 1 [.int .i64 0,.string ⟨#[]⟩,.bool false,.int .i64 0] [(0,4,d)]) fun f=>xA (.append 123 4 40 a f) fun g=>xA (wB g) fun i=>xC (e.upd 9 i)
def a4t(a b c d:Value):Reg:=xE none none (wA none a) b<|xD fun h13=>xA (wD 155 [b,c,d]) fun f=>xA (wB f) fun g=>xC (e.upd 14 g)
def a4s(a b c d f:Value):Reg:=xA (wC 14 f) fun g=>xA (wA none g) fun i=>xA (wB (e 2)) fun j=>xD fun h11=>xA (wD 135 [i,j]) fun k=>xE none none (wA none a) b<|xD fun h12=>xA (wD 142 [d,k]) fun m=>a4t e a b c m
def a6h:Reg:=xA (wB (e 0)) fun a=>xA (wJ a) fun b=>xA (wC 13 b) fun c=>xA (wA none c) fun d=>xA (wB (e 2)) fun f=>xA (wB (e 1)) fun g=>xA (wB (e 0)) fun i=>xA (wJ i) fun j=>a4s e c d f g j
def a6i:Reg:=xA (wB (e 14)) fun a=>xA (wB (e 9)) fun b=>xA (wB (e 2)) fun c=>xA (wB (e 1)) fun d=>xA (wM [.int .i64 0,.string ⟨#[]⟩,.bool false,.int .i64 0] [(1,1,c),(2,1,(.bool true)),(3,1,d)]) fun f=>xA (.buildSlice 123 1 [.int .i64 0,.string ⟨#[]⟩,.bool false,.int .i64 0] [(0,4,f)]) fun g=>xA (.append 123 4 40 b g) fun i=>xA (wB a) fun j=>xA (wB i) fun k=>xC ((e.upd 6 j).upd 7 k)
def a0R:=an (ro b9A.eq_1)<|an (ro b9B.eq_1)<|an (ro b9C.eq_1)<|an (ro b9D.eq_1)<|an (ro b9E.eq_1)<|an (ro b9F.eq_1)<|an (O5 a6j.eq_1)<|an (ro b9G.eq_1)<|an (ro b9H.eq_1)<|an (ro b9I.eq_1)<|an (ro b9J.eq_1)<|an (ro b3w.eq_1)<|an (O5 a1d.eq_1)<|an (ro b3x.eq_1)<|an (ro5 a4r.eq_1)<|an (ro a6f.eq_1)<|an (ro a6g.eq_1)<|an (ro4 a4t.eq_1)<|an (ro5 a4s.eq_1)<|an (ro a6h.eq_1)<|ro a6i.eq_1
def a0l:CFn:=⟨(xF (xG b9A) (xF (xF (xG b9B) (xF (xG b9C) (.cond (fun e=>e 22) (xF (xG b9D) .ret) .skip))) (xF (xG b9E) (xF (xF (xG b9F) (.cond (fun e=>e 28) (xF (xG b9G) (xF (xF (xG b9H) (.cond (fun e=>e 43) (xG b9I) .skip)) (xF (xF (xG b9J) (.cond (fun e=>e 51) (xF (xG b3w) .ret) .skip)) (xF (xG b3x) (xF (xG a6f) (xG a6g)))))) .skip)) (xF (xG a6h) (xF (xG a6i) .ret)))))),[.t 6,.t 7]⟩
def e8y:Pers:=⟨15,[22,28,43,51],101,[]⟩
end
open Reg renaming op->xA,opg->xB,done->xC,snap->xD,chk->xE
open COp renaming load->wA,mv->wB,fieldAddr->wC,call->wD,bin->wE,store->wF,extract->wG,alloc->wH,indexSl->wI,nilCheck->wJ,pick->wK,lenSl->wL,build->wM,box->wN,conv->wO,un->wP
open CC renaming seq->xF,region->xG
section
variable (e:a7)
def b9K:Reg:=xA (wN 126 (e 1)) fun a=>xA (wB (.bool false)) fun b=>xC ((e.upd 5 a).upd 8 b)
def a6k(a b c d:Value):Reg:=xB a false (wB (e 2)) fun f=>xD fun h9=>xB a false (wD 134 [c,d,f]) fun g=>xB a false (wE .gtr b g) fun i=>xA (wK a (.bool true) i) fun j=>xC (e.upd 20 j)
def b9L:Reg:=xA (wB (e 3)) fun a=>xA (wE .lss a (.int .i64 1)) fun b=>xA (wB b) fun c=>xB c false (wB (e 3)) fun d=>xB c false (wB (e 0)) fun f=>xB c false (wJ f) fun g=>xB c false (wA (some 4) g) fun i=>xB c false (wA (some 4) (e 5)) fun j=>a6k e c d i j
def b9M:Reg:=xA (wB (.bool false)) fun a=>xC (e.upd 8 a)
def a6l(a b c:Value):Reg:=xA (wC 0 (e 5)) fun d=>xA (wA none d) fun f=>xA (wE .mul c f) fun g=>xA (wE .add b g) fun i=>xA (wJ a) fun j=>xA (wC 0 j) fun k=>xD fun h14=>xA (wF 1 k i) fun _=>xC e
def b9N:Reg:=xA (wB (e 0)) fun a=>xA (wB (e 0)) fun b=>xA (wJ b) fun c=>xA (wC 0 c) fun d=>xA (wA none d) fun f=>xA (wB (e 2)) fun g=>xA (.minmax true [f,g]) fun i=>xA (wB (e 3)) fun j=>a6l e a i j
def b9O:Reg:=xA (wB (e 0)) fun a=>xA (wB (e 0)) fun b=>xA (wJ b) fun c=>xA (wC 3 c) fun d=>xA (wA none d) fun f=>xA (wB (e 3)) fun g=>xA (wD 126 [f,g]) fun i=>xA (wJ a) fun j=>xA (wC 3 j) fun k=>xA (wF 1 k i) fun _=>xC e
def b9P:Reg:=xA (wB (.bool true)) fun a=>xC (e.upd 8 a)
def e0I:=an (ro b9K.eq_1)<|an (ro4 a6k.eq_1)<|an (ro b9L.eq_1)<|an (ro b9M.eq_1)<|an (W2 a6l.eq_1)<|an (ro b9N.eq_1)<|an (ro b9O.eq_1)<|ro b9P.eq_1
def b6c:CFn:=⟨(xF (xG b9K) (xF (xF (xG b9L) (.cond (fun e=>e 20) (xF (xG b9M) .ret) .skip)) (xF (xG b9N) (xF (xG b9O) (xF (xG b9P) .ret))))),[.t 8]⟩
def e8z:Pers:=⟨9,[20],44,[]⟩
def b9Q:Reg:=xA (wN 250 (e 0)) fun a=>xA (wN 126 (e 1)) fun b=>xA (wB (.int .i64 0)) fun c=>xC (((e.upd 4 a).upd 5 b).upd 8 c)
def a6m(a b c d:Value):Reg:=xA (wE .sub c d) fun f=>xA (wC 0 (e 5)) fun g=>xA (wA none g) fun i=>xA (wE .mul f i) fun j=>xA (wE .add b j) fun k=>xA (wE .sub a k) fun m=>xA (.minmax true [m,.int .i64 0]) fun n=>xA (wB n) fun o=>xC (e.upd 9 o)
def b9R:Reg:=xA (wC 0 (e 4)) fun a=>xA (wA none a) fun b=>xA (wB (e 2)) fun c=>xA (.minmax true [b,c]) fun d=>xA (wB (e 2)) fun f=>xA (wC 2 (e 5)) fun g=>xA (wA none g) fun i=>xA (wB (e 3)) fun j=>a6m e d f i j
def a6o(a:Value)(h9 h11:Heap)(b c:Value):Reg:=xB a true (wA none c) fun d=>xE (some (a,true)) (some h11) (.load none c) d<|xE (some (a,true)) (some h9) (.load none c) d<|xB a true (wE .gtr b d) fun f=>xA (wK a f (.bool false)) fun g=>xC (e.upd 40 g)
def a6n(a b:Value):Reg:=xB a true (wC 3 (e 4)) fun c=>xB a true (wA none c) fun d=>xD fun h9=>xB a true (wD 126 [b,d]) fun f=>xB a true (wB (e 3)) fun g=>xD fun h11=>xB a true (wD 126 [f,g]) fun i=>xB a true (wC 3 (e 5)) fun j=>a6o e a h9 h11 i j
def b9S:Reg:=xA (wA (some 4) (e 4)) fun a=>xA (wA (some 4) (e 5)) fun b=>xA (wB (e 2)) fun c=>xD fun h3=>xA (wD 156 [a,b,c]) fun d=>xA (wB d) fun f=>xB f true (wC 2 (e 4)) fun g=>xB f true (wA none g) fun i=>a6n e f i
def b9T:Reg:=xA (wB (e 9)) fun a=>xA (wC 1 (e 4)) fun b=>xA (wA none b) fun c=>xA (wC 1 (e 5)) fun d=>xA (wA none d) fun f=>xA (wE .add c f) fun g=>xA (wB (e 2)) fun i=>xA (wE .sub g i) fun j=>xA (.minmax true [a,j]) fun k=>xA (wB k) fun m=>xC (e.upd 9 m)
def b9U:Reg:=xA (wB (e 9)) fun a=>xA (wB a) fun b=>xC (e.upd 8 b)
def e0J:=an (ro b9Q.eq_1)<|an (ro4 a6m.eq_1)<|an (ro b9R.eq_1)<|an (ro5 a6o.eq_1)<|an (O5 a6n.eq_1)<|an (ro b9S.eq_1)<|an (ro b9T.eq_1)<|ro b9U.eq_1
def b6d:CFn:=⟨(xF (xG b9Q) (xF (xG b9R) (xF (xF (xG b9S) (.cond (fun e=>e 40) (xG b9T) .skip)) (xF (xG b9U) .ret)))),[.t 8]⟩
def e8A:Pers:=⟨10,[40],51,[]⟩
def b9V:Reg:=xA (wN 250 (e 0)) fun a=>xA (wN 126 (e 1)) fun b=>xA (wB (.int .i64 0)) fun c=>xC (((e.upd 3 a).upd 4 b).upd 6 c)
def b9W:Reg:=xA (wC 2 (e 4)) fun a=>xA (wA none a) fun b=>xA (wB b) fun c=>xC (e.upd 7 c)
def b9X:Reg:=xA (wC 0 (e 3)) fun a=>xA (wA none a) fun b=>xA (wB (e 2)) fun c=>xA (wE .sub b c) fun d=>xA (wB d) fun f=>xC (e.upd 8 f)
def b9Y:Reg:=xA (wB (e 8)) fun a=>xA (wE .gtr a (.int .i64 0)) fun b=>xC (e.upd 16 b)
def a6p(a b:Value):Reg:=xA (wA none b) fun c=>xA (wE .quo a c) fun d=>xA (.minmax true [d,.int .i64 0]) fun f=>xA (wB f) fun g=>xC (e.upd 7 g)
def b9Z:Reg:=xA (wC 2 (e 4)) fun a=>xA (wA none a) fun b=>xA (wC 0 (e 4)) fun c=>xA (wA none c) fun d=>xA (wE .mul b d) fun f=>xA (wB (e 8)) fun g=>xA (wE .sub f g) fun i=>xA (wC 0 (e 4)) fun j=>a6p e i j
def c0a:Reg:=xA (wC 2 (e 4)) fun a=>xA (wA none a) fun b=>xA (wC 0 (e 4)) fun c=>xA (wA none c) fun d=>xA (wE .mul b d) fun f=>xA (wB (e 8)) fun g=>xA (wE .lss f g) fun i=>xC (e.upd 34 i)
def c0b:Reg:=xA (wB (.int .i64 0)) fun a=>xC (e.upd 7 a)
def c0c:Reg:=xA (wA (some 4) (e 3)) fun a=>xA (wA (some 4) (e 4)) fun b=>xA (wB (e 2)) fun c=>xA (wD 156 [a,b,c]) fun d=>xC (e.upd 38 d)
def a6q(a b c d f:Value):Reg:=xA (wD 126 [d,f]) fun g=>xE none none (wA none b) c<|xA (wE .sub c g) fun i=>xA (.minmax true [i,.int .i64 0]) fun j=>xA (.minmax false [a,j]) fun k=>xA (wB k) fun m=>xC (e.upd 7 m)
def b1D:Reg:=xA (wB (e 7)) fun a=>xA (wC 3 (e 4)) fun b=>xA (wA none b) fun c=>xA (wC 2 (e 3)) fun d=>xA (wA none d) fun f=>xA (wC 3 (e 3)) fun g=>xA (wA none g) fun i=>xD fun h7=>a6q e a b c f i
def b1E:Reg:=xA (wB (e 7)) fun a=>xA (wB a) fun b=>xC (e.upd 6 b)
def c9Z:=an (ro b9V.eq_1)<|an (ro b9W.eq_1)<|an (ro b9X.eq_1)<|an (ro b9Y.eq_1)<|an (O5 a6p.eq_1)<|an (ro b9Z.eq_1)<|an (ro c0a.eq_1)<|an (ro c0b.eq_1)<|an (ro c0c.eq_1)<|an (ro5 a6q.eq_1)<|an (ro b1D.eq_1)<|ro b1E.eq_1
def b3y:CFn:=⟨(xF (xG b9V) (xF (xG b9W) (xF (xF (xG b9X) (xF (xG b9Y) (.cond (fun e=>e 16) (xF (xG b9Z) (xF (xG c0a) (.cond (fun e=>e 34) (xG c0b) .skip))) .skip))) (xF (xF (xG c0c) (.cond (fun e=>e 38) (xG b1D) .skip)) (xF (xG b1E) .ret))))),[.t 6]⟩
def e8B:Pers:=⟨9,[16,34,38],51,[]⟩
def c0d:Reg:=xA (wB (.int .i64 0)) fun a=>xC (e.upd 4 a)
def c0e:Reg:=xA (wB (e 0)) fun a=>xA (.eqK .ptr false a (.pointer none)) fun b=>xC (e.upd 6 b)
def c0f:Reg:=xA (wB (.int .i64 0)) fun a=>xC (e.upd 4 a)
def a6s(a b:Value)(h7:Heap)(c d f:Value):Reg:=xA (wC 2 f) fun g=>xA (wA none g) fun i=>xE none (some h7) (wA none g) i<|xA (wE .rem d i) fun j=>xD fun h17=>xA (wD 157 [a,b,c,j]) fun k=>xA (wB k) fun m=>xC (e.upd 4 m)
def a6r(a b c d:Value)(h7:Heap):Reg:=xA (wD 158 [c,d]) fun f=>xA (wB (e 0)) fun g=>xA (wJ g) fun i=>xA (wC 6 i) fun j=>xA (wA none j) fun k=>xE none (some h7) (wA none j) k<|xA (wB (e 0)) fun m=>xA (wJ m) fun n=>a6s e a b h7 f k n
def c0g:Reg:=xA (wB (e 0)) fun a=>xA (wB (e 1)) fun b=>xA (wB (e 0)) fun c=>xA (wB (e 0)) fun d=>xA (wJ d) fun f=>xA (wC 6 f) fun g=>xA (wA none g) fun i=>xD fun h7=>a6r e a b c i h7
def e4O:=an (ro c0d.eq_1)<|an (ro c0e.eq_1)<|an (ro c0f.eq_1)<|an (ro6 a6s.eq_1)<|an (ro5 a6r.eq_1)<|ro c0g.eq_1
def d0L:CFn:=⟨(xF (xG c0d) (xF (xF (xG c0e) (.cond (fun e=>e 6) (xF (xG c0f) .ret) .skip)) (xF (xG c0g) .ret))),[.t 4]⟩
def e8C:Pers:=⟨5,[6],25,[]⟩
def c0h:Reg:=xA (wB (e 0)) fun a=>xA (.eqK .ptr false a (.pointer none)) fun b=>xC (e.upd 9 b)
def c0i:Reg:=xA (wB (e 0)) fun a=>xA (wB (e 0)) fun b=>xA (wJ b) fun c=>xA (wC 6 c) fun d=>xA (wA none d) fun f=>xA (wD 158 [a,f]) fun g=>xA (wB g) fun i=>xC (e.upd 6 i)
def c0j:Reg:=xA (wB (e 6)) fun a=>xA (wB (e 0)) fun b=>xA (wJ b) fun c=>xA (wC 0 c) fun d=>xA (wA none d) fun f=>xA (wL f) fun g=>xA (wE .rem a g) fun i=>xA (wB i) fun j=>xC (e.upd 7 j)
def c0k:Reg:=xA (wB (e 0)) fun a=>xA (wJ a) fun b=>xA (wC 1 b) fun c=>xA (wA none c) fun d=>xA (wB (e 7)) fun f=>xA (wI 1 d f) fun g=>xA (wA none g) fun i=>xA (wB (e 6)) fun j=>xA (wE .add j (.int .i64 1)) fun k=>xA (wE .neq i k) fun m=>xC (e.upd 32 m)
def c0l:Reg:=xA (wB (e 0)) fun a=>xA (wJ a) fun b=>xA (wC 0 b) fun c=>xA (wA none c) fun d=>xA (wB (e 7)) fun f=>xA (wI 1 d f) fun g=>xA (wA none g) fun i=>xA (wD 159 [i]) fun j=>xC e
def c0m:Reg:=xA (wB (e 0)) fun a=>xA (wJ a) fun b=>xA (wC 1 b) fun c=>xA (wA none c) fun d=>xA (wB (e 7)) fun f=>xA (wB (e 6)) fun g=>xA (wE .add g (.int .i64 1)) fun i=>xA (wI 1 d f) fun j=>xA (wF 1 j i) fun _=>xC e
def c0n:Reg:=xA (wB (e 0)) fun a=>xA (wJ a) fun b=>xA (wC 0 b) fun c=>xA (wA none c) fun d=>xA (wB (e 7)) fun f=>xA (wI 1 d f) fun g=>xA (wA none g) fun i=>xA (wB (e 1)) fun j=>xA (wB (e 2)) fun k=>xA (wD 160 [i,j,k]) fun m=>xC e
def d0a:=an (ro c0h.eq_1)<|an (ro c0i.eq_1)<|an (ro c0j.eq_1)<|an (ro c0k.eq_1)<|an (ro c0l.eq_1)<|an (ro c0m.eq_1)<|ro c0n.eq_1
def b3z:CFn:=⟨(xF (xF (xG c0h) (.cond (fun e=>e 9) .ret .skip)) (xF (xG c0i) (xF (xG c0j) (xF (xF (xG c0k) (.cond (fun e=>e 32) (xF (xG c0l) (xG c0m)) .skip)) (xG c0n))))),[]⟩
def e8D:Pers:=⟨8,[9,32],59,[]⟩
def c0o:Reg:=xA (wB (.int .i64 0)) fun a=>xC (e.upd 6 a)
def a6t(a:Value)(h5:Heap)(b c:Value):Reg:=xD fun h7=>xB a false (wD 126 [b,c]) fun d=>xB a false (wB (e 0)) fun f=>xB a false (wJ f) fun g=>xB a false (wC 4 g) fun i=>xB a false (wA none i) fun j=>xE (some (a,false)) (some h7) (.load none i) j<|xE (some (a,false)) (some h5) (.load none i) j<|xB a false (wE .leq d j) fun k=>xA (wK a (.bool true) k) fun m=>xC (e.upd 22 m)
def c0p:Reg:=xA (wB (e 0)) fun a=>xA (.eqK .ptr false a (.pointer none)) fun b=>xA (wB b) fun c=>xB c false (wB (e 0)) fun d=>xB c false (wB (e 1)) fun f=>xD fun h5=>xB c false (wD 135 [d,f]) fun g=>xB c false (wB (e 2)) fun i=>a6t e c h5 g i
def c0q:Reg:=xA (wB (.int .i64 0)) fun a=>xC (e.upd 6 a)
def c0r:Reg:=xA (wB (e 0)) fun a=>xA (wB (e 0)) fun b=>xA (wJ b) fun c=>xA (wC 6 c) fun d=>xA (wA none d) fun f=>xA (wD 158 [a,f]) fun g=>xA (wB g) fun i=>xC (e.upd 7 i)
def c0s:Reg:=xA (wB (.int .i64 1)) fun a=>xC (e.upd 8 a)
def c0t:Reg:=xA (wB (e 8)) fun a=>xA (wB (e 0)) fun b=>xA (wJ b) fun c=>xA (wC 0 c) fun d=>xA (wA none d) fun f=>xA (wL f) fun g=>xA (wE .leq a g) fun i=>xC (e.upd 35 i)
def a6u(h5:Heap)(a b:Value):Reg:=xD fun h7=>xA (wD 126 [a,b]) fun c=>xA (wB (e 0)) fun d=>xA (wJ d) fun f=>xA (wC 4 f) fun g=>xA (wA none g) fun i=>xE none (some h7) (wA none g) i<|xE none (some h5) (wA none g) i<|xA (wE .leq c i) fun j=>xC (e.upd 50 j)
def c0v:Reg:=xA (wB (e 0)) fun a=>xA (wB (e 1)) fun b=>xA (wB (e 7)) fun c=>xA (wB (e 8)) fun d=>xA (wE .add c d) fun f=>xD fun h5=>xA (wD 157 [a,b,f,.int .i64 0]) fun g=>xA (wB (e 2)) fun i=>a6u e h5 g i
def a6v(a b:Value)(h7:Heap):Reg:=xA (wD 161 [a,b]) fun c=>xA (wB (e 0)) fun d=>xA (wJ d) fun f=>xA (wC 6 f) fun g=>xA (wA none g) fun i=>xE none (some h7) (wA none g) i<|xA (wP .neg i) fun j=>xD fun h13=>xA (wD 126 [c,j]) fun k=>xA (wB k) fun m=>xC (e.upd 6 m)
def c0w:Reg:=xA (wB (e 7)) fun a=>xA (wB (e 8)) fun b=>xA (wE .add a b) fun c=>xA (wB (e 0)) fun d=>xA (wJ d) fun f=>xA (wC 2 f) fun g=>xA (wA none g) fun i=>xD fun h7=>a6v e c i h7
def c0u:Reg:=xA (wB (e 8)) fun a=>xA (wE .add a (.int .i64 1)) fun b=>xA (wB b) fun c=>xC (e.upd 8 c)
def a5i:CC:=(xF (xF (xG c0t) (.cond (fun e=>e 35) .skip (.exit 0))) (xF (.block 1 (xF (xG c0v) (.cond (fun e=>e 50) (xF (xG c0w) .ret) .skip))) (xG c0u)))
def a6x(h11:Heap)(a b:Value):Reg:=xA (wA none b) fun c=>xE none (some h11) (wA none b) c<|xA (wP .neg c) fun d=>xD fun h17=>xA (wD 126 [a,d]) fun f=>xA (wB f) fun g=>xC (e.upd 6 g)
def a6w(a b:Value):Reg:=xA (wJ b) fun c=>xA (wC 2 c) fun d=>xA (wA none d) fun f=>xD fun h11=>xA (wD 161 [a,f]) fun g=>xA (wB (e 0)) fun i=>xA (wJ i) fun j=>xA (wC 6 j) fun k=>a6x e h11 g k
def c0x:Reg:=xA (wB (e 7)) fun a=>xA (wB (e 0)) fun b=>xA (wJ b) fun c=>xA (wC 0 c) fun d=>xA (wA none d) fun f=>xA (wL f) fun g=>xA (wE .add a g) fun i=>xA (wB (e 0)) fun j=>a6w e i j
def b5P:=an (ro c0o.eq_1)<|an (ro4 a6t.eq_1)<|an (ro c0p.eq_1)<|an (ro c0q.eq_1)<|an (ro c0r.eq_1)<|an (ro c0s.eq_1)<|an (ro c0t.eq_1)<|an (W2 a6u.eq_1)<|an (ro c0v.eq_1)<|an (W2 a6v.eq_1)<|an (ro c0w.eq_1)<|an (ro c0u.eq_1)<|an (W2 a6x.eq_1)<|an (O5 a6w.eq_1)<|ro c0x.eq_1
def a8M:CFn:=⟨(xF (xG c0o) (xF (xF (xG c0p) (.cond (fun e=>e 22) (xF (xG c0q) .ret) .skip)) (xF (xG c0r) (xF (xF (xG c0s) (.block 0 (.loop a5i))) (xF (xG c0x) .ret))))),[.t 6]⟩
def e8E:Pers:=⟨9,[22,35,50],83,[]⟩
def c0y:Reg:=xA (wB (.int .i64 0)) fun a=>xC (e.upd 4 a)
def c0z:Reg:=xA (wB (e 1)) fun a=>xA (.minmax true [a,.int .i64 0]) fun b=>xA (wB (e 0)) fun c=>xA (wJ c) fun d=>xA (wC 0 d) fun f=>xA (wC 2 f) fun g=>xA (wA none g) fun i=>xA (.minmax false [b,i]) fun j=>xA (wB j) fun k=>xC (e.upd 4 k)
def e9P:=an (ro c0y.eq_1)<|ro c0z.eq_1
def e0Z:CFn:=⟨(xF (xG c0y) (xF (xG c0z) .ret)),[.t 4]⟩
def e8F:Pers:=⟨5,[],13,[]⟩
def c0A:Reg:=xA (wB (.pointer none)) fun a=>xC (e.upd 4 a)
def c0B:Reg:=xA (wB (e 0)) fun a=>xA (.eqK .ptr false a (.pointer none)) fun b=>xC (e.upd 7 b)
def c0C:Reg:=xA (wB (.pointer none)) fun a=>xC (e.upd 4 a)
def c0D:Reg:=xA (wB (e 0)) fun a=>xA (wJ a) fun b=>xA (wC 1 b) fun c=>xA (wA none c) fun d=>xA (wB (e 1)) fun f=>xA (wD 147 [d,f]) fun g=>xA (wB g) fun i=>xC (e.upd 5 i)
def c0E:Reg:=xA (wB (e 5)) fun a=>xA (wE .geq a (.int .i64 0)) fun b=>xC (e.upd 15 b)
def c0F:Reg:=xA (wB (e 0)) fun a=>xA (wJ a) fun b=>xA (wC 2 b) fun c=>xA (wA none c) fun d=>xA (wB (e 5)) fun f=>xA (wI 4 d f) fun g=>xA (wB g) fun i=>xC (e.upd 4 i)
def c0G:Reg:=xA (wB (.pointer none)) fun a=>xC (e.upd 4 a)
def e2S:=an (ro c0A.eq_1)<|an (ro c0B.eq_1)<|an (ro c0C.eq_1)<|an (ro c0D.eq_1)<|an (ro c0E.eq_1)<|an (ro c0F.eq_1)<|ro c0G.eq_1
def c8c:CFn:=⟨(xF (xG c0A) (xF (xF (xG c0B) (.cond (fun e=>e 7) (xF (xG c0C) .ret) .skip)) (xF (xF (xG c0D) (xF (xG c0E) (.cond (fun e=>e 15) (xF (xG c0F) .ret) .skip))) (xF (xG c0G) .ret)))),[.t 4]⟩
def e8G:Pers:=⟨6,[7,15],22,[]⟩
def c0J:Reg:=xA (wB (e 0)) fun a=>xA (.makeFunc 162 [a] []) fun b=>xC (e.upd 11 b)
def c0I:Reg:=xA (wN 126 (e 1)) fun a=>xA (wN 2 (e 2)) fun b=>xA (wH 9 [.string ⟨#[]⟩]) fun c=>xA (wH 4 [.bool false]) fun d=>xC ((((e.upd 4 a).upd 5 b).upd 6 c).upd 7 d)
def c0K:Reg:=xA (wB (e 12)) fun a=>xC (e.upd 8 a)
def c0L:Reg:=xA (wH 250 [.int .i64 0,.int .i64 0,.int .i64 0,.int .i64 0]) fun a=>xA (wF 4 a (e 13)) fun _=>xC (e.upd 9 a)
def c0M:Reg:=xA (wA (some 4) (e 9)) fun a=>xA (wA (some 4) (e 4)) fun b=>xA (wA none (e 5)) fun c=>xA (wD 163 [a,b,c]) fun d=>xC (e.upd 17 d)
def c0N:Reg:=xA (wB (e 8)) fun a=>xA (wF 1 (e 6) a) fun _=>xA (wF 1 (e 7) (.bool true)) fun _=>xC e
def c0O:Reg:=xA (wF 1 (e 6) (.string ⟨#[]⟩)) fun _=>xA (wF 1 (e 7) (.bool false)) fun _=>xC e
def b6e:CC:=(xF (xG c0K) (xG c0L))
def a6y:CC:=(.block 1 (xF (xG c0M) (.cond (fun e=>e 17) (xF (xG c0N) .ret) .skip)))
def b6f:CC:=(xF (xF (xG c0O) .ret) .skip)
def c7I:=an (ro c0J.eq_1)<|an (ro c0I.eq_1)<|an (ro c0K.eq_1)<|an (ro c0L.eq_1)<|an (ro c0M.eq_1)<|an (ro c0N.eq_1)<|ro c0O.eq_1
def b1F:CFn:=⟨(.rng (xF (xG c0I) (xF (xG c0J) .skip)) 0 (fun e=>(e 11)) [12,13] b6e a6y b6f),[.c 6 none,.c 7 none]⟩
def e8H:Pers:=⟨10,[11,12,13,17],19,[]⟩
def c0P:Reg:=xA (wB (.bool false)) fun a=>xC (e.upd 2 a)
def a6z(a:Value)(h4:Heap)(b c:Value):Reg:=xB a false (wC 2 c) fun d=>xB a false (wA none d) fun f=>xE (some (a,false)) (some h4) (.load none d) f<|xB a false (wL f) fun g=>xB a false (wE .eql b g) fun i=>xA (wK a (.bool true) i) fun j=>xA (wB j) fun k=>xC (e.upd 2 k)
def c0Q:Reg:=xA (wB (e 0)) fun a=>xA (.eqK .ptr false a (.pointer none)) fun b=>xA (wB b) fun c=>xB c false (wB (e 0)) fun d=>xD fun h4=>xB c false (wD 49 [d]) fun f=>xB c false (wB (e 0)) fun g=>xB c false (wJ g) fun i=>a6z e c h4 f i
def e9Q:=an (ro c0P.eq_1)<|an (ro4 a6z.eq_1)<|ro c0Q.eq_1
def e1a:CFn:=⟨(xF (xG c0P) (xF (xG c0Q) .ret)),[.t 2]⟩
def e8I:Pers:=⟨3,[],15,[]⟩
def c0R:Reg:=xA (wH 250 [.int .i64 0,.int .i64 0,.int .i64 0,.int .i64 0]) fun a=>xC (e.upd 4 a)
def c0S:Reg:=xA (wB (e 0)) fun a=>xA (wB (e 0)) fun b=>xA (wB (e 1)) fun c=>xA (wM [.int .i64 0,.int .i64 0,.int .i64 0,.int .i64 0] [(0,1,a),(1,1,b),(2,1,c)]) fun d=>xA (wF 4 (e 4) d) fun _=>xC e
def e9R:=an (ro c0R.eq_1)<|ro c0S.eq_1
def e1b:CFn:=⟨(xF (xG c0R) (xF (xG c0S) .ret)),[.c 4 (some 4)]⟩
def e8J:Pers:=⟨5,[],9,[]⟩
def c0Z:Reg:=xA (wB (e 6)) fun a=>xC (e.upd 20 a)
def c0Y:Reg:=xA (wB (e 0)) fun a=>xA (.makeFunc 164 [a] []) fun b=>xA (wB b) fun c=>xC (e.upd 6 c)
def c0X:Reg:=xA (wA none (e 3)) fun a=>xA (.minmax true [a,.int .i64 1]) fun b=>xA (wB (e 0)) fun c=>xA (wJ c) fun d=>xA (wC 2 d) fun f=>xA (wA none f) fun g=>xA (wL g) fun i=>xA (.minmax false [b,i]) fun j=>xD fun h8=>xA (wF 1 (e 3) j) fun _=>xC e
def c0V:Reg:=xA (wB (e 0)) fun a=>xA (.eqK .ptr false a (.pointer none)) fun b=>xC (e.upd 9 b)
def c0W:Reg:=xA (wB (.slice none 0 0)) fun a=>xC (e.upd 4 a)
def c0U:Reg:=xA (wH 64 [.slice none 0 0]) fun a=>xC (e.upd 5 a)
def c0T:Reg:=xA (wN 3 (e 1)) fun a=>xA (wB (.slice none 0 0)) fun b=>xC ((e.upd 3 a).upd 4 b)
def c1a:Reg:=xA (wH 82 [.string ⟨#[]⟩,.int .i64 0,.int .i64 0]) fun a=>xA (wF 3 a (e 21)) fun _=>xC (e.upd 7 a)
def c1b:Reg:=xA (wA none (e 5)) fun a=>xA (wL a) fun b=>xA (wA none (e 3)) fun c=>xA (wE .eql b c) fun d=>xC (e.upd 25 d)
def c1c:Reg:=xA (wA none (e 5)) fun a=>xA (wA (some 3) (e 7)) fun b=>xA (.buildSlice 82 1 [.string ⟨#[]⟩,.int .i64 0,.int .i64 0] [(0,3,b)]) fun c=>xA (.append 82 3 32 a c) fun d=>xA (wF 1 (e 5) d) fun _=>xC e
def b3A:Reg:=xA (wA none (e 5)) fun a=>xA (wB a) fun b=>xC (e.upd 4 b)
def b6g:CC:=(xG c1a)
def a6A:CC:=(.block 1 (xF (xF (xG c1b) (.cond (fun e=>e 25) (.exit 0) .skip)) (xG c1c)))
def b1G:CC:=(xF (xF (xG b3A) .ret) .skip)
def b5Q:=an (ro c0Z.eq_1)<|an (ro c0Y.eq_1)<|an (ro c0X.eq_1)<|an (ro c0V.eq_1)<|an (ro c0W.eq_1)<|an (ro c0U.eq_1)<|an (ro c0T.eq_1)<|an (ro c1a.eq_1)<|an (ro c1b.eq_1)<|an (ro c1c.eq_1)<|ro b3A.eq_1
def a8N:CFn:=⟨(.rng (xF (xG c0T) (xF (xG c0U) (xF (xF (xG c0V) (.cond (fun e=>e 9) (xF (xG c0W) .ret) .skip)) (xF (xG c0X) (xF (xG c0Y) (xF (xG c0Z) .skip)))))) 0 (fun e=>(e 20)) [21] b6g a6A b1G),[.t 4]⟩
def e8K:Pers:=⟨8,[9,20,21,25],31,[]⟩
def c1d:Reg:=xA (wB (.int .i64 0)) fun a=>xA (wB (.bool false)) fun b=>xC ((e.upd 4 a).upd 5 b)
def c1e:Reg:=xA (wB (e 0)) fun a=>xA (wB (e 1)) fun b=>xA (wE .add a b) fun c=>xA (wB c) fun d=>xC (e.upd 6 d)
def c1f:Reg:=xA (wB (e 6)) fun a=>xA (wB (e 6)) fun b=>xA (wB (e 0)) fun c=>xA (wE .gtr b c) fun d=>xA (wB (e 1)) fun f=>xA (wE .gtr f (.int .i64 0)) fun g=>xA (.eqK .bool false d g) fun i=>xA (wB a) fun j=>xA (wB i) fun k=>xC ((e.upd 4 j).upd 5 k)
def e9S:=an (ro c1d.eq_1)<|an (ro c1e.eq_1)<|ro c1f.eq_1
def e1c:CFn:=⟨(xF (xG c1d) (xF (xG c1e) (xF (xG c1f) .ret))),[.t 4,.t 5]⟩
def e8L:Pers:=⟨7,[],17,[]⟩
def c1g:Reg:=xA (wB (.int .i64 0)) fun a=>xC (e.upd 2 a)
def c1h:Reg:=xA (wB (e 0)) fun a=>xC (e.upd 3 a)
def c1i:Reg:=xA (wB (.int .i64 (-9223372036854775808))) fun a=>xC (e.upd 2 a)
def c1j:Reg:=xA (wB (.int .i64 9223372036854775807)) fun a=>xC (e.upd 2 a)
def e9T:=an (ro c1g.eq_1)<|an (ro c1h.eq_1)<|an (ro c1i.eq_1)<|ro c1j.eq_1
def e1d:CFn:=⟨(xF (xG c1g) (xF (xF (xG c1h) (.cond (fun e=>e 3) (xF (xG c1i) .ret) .skip)) (xF (xG c1j) .ret))),[.t 2]⟩
def e8M:Pers:=⟨3,[3],4,[]⟩
def c1k:Reg:=xA (wB (.int .i64 0)) fun a=>xC (e.upd 4 a)
def c1l:Reg:=xA (wB (e 0)) fun a=>xA (.eqK .ptr false a (.pointer none)) fun b=>xC (e.upd 8 b)
def c1m:Reg:=xA (wB (.int .i64 (-1))) fun a=>xC (e.upd 4 a)
def c1n:Reg:=xA (wB (e 0)) fun a=>xA (wB (e 1)) fun b=>xA (wD 165 [a,b]) fun c=>xA (wB c) fun d=>xA (wG d 0) fun f=>xA (wG d 1) fun g=>xA (wB f) fun i=>xA (wB g) fun j=>xC ((e.upd 5 i).upd 6 j)
def c1o:Reg:=xA (wB (e 6)) fun a=>xA (wB a) fun b=>xC (e.upd 4 b)
def e4P:=an (ro c1k.eq_1)<|an (ro c1l.eq_1)<|an (ro c1m.eq_1)<|an (ro c1n.eq_1)<|ro c1o.eq_1
def d0W:CFn:=⟨(xF (xG c1k) (xF (xF (xG c1l) (.cond (fun e=>e 8) (xF (xG c1m) .ret) .skip)) (xF (xG c1n) (xF (xG c1o) .ret)))),[.t 4]⟩
def e8N:Pers:=⟨7,[8],16,[]⟩
def c1p:Reg:=xA (wB (.int .i64 0)) fun a=>xC (e.upd 2 a)
def c1q:Reg:=xA (wB (e 0)) fun a=>xA (.eqK .ptr false a (.pointer none)) fun b=>xC (e.upd 4 b)
def c1r:Reg:=xA (wB (.int .i64 0)) fun a=>xC (e.upd 2 a)
def c1s:Reg:=xA (wB (e 0)) fun a=>xA (wJ a) fun b=>xA (wC 0 b) fun c=>xA (wA none c) fun d=>xA (wD 70 [d]) fun f=>xA (wB f) fun g=>xC (e.upd 2 g)
def e4Q:=an (ro c1p.eq_1)<|an (ro c1q.eq_1)<|an (ro c1r.eq_1)<|ro c1s.eq_1
def d0X:CFn:=⟨(xF (xG c1p) (xF (xF (xG c1q) (.cond (fun e=>e 4) (xF (xG c1r) .ret) .skip)) (xF (xG c1s) .ret))),[.t 2]⟩
def e8O:Pers:=⟨3,[4],10,[]⟩
def c1t:Reg:=xA (wB (.int .i64 0)) fun a=>xC (e.upd 2 a)
def a6B(a b:Value):Reg:=xA (wE .sub b (.int .i64 1)) fun c=>xA (wI 1 a c) fun d=>xA (wA none d) fun f=>xA (wB f) fun g=>xC (e.upd 3 g)
def c1u:Reg:=xA (wB (e 0)) fun a=>xA (wJ a) fun b=>xA (wC 4 b) fun c=>xA (wA none c) fun d=>xA (wB (e 0)) fun f=>xD fun h5=>xA (wD 148 [f]) fun g=>xE none none (wA none c) d<|a6B e d g
def a6C(a:Value):Reg:=xA (wG a 0) fun b=>xA (wG a 1) fun c=>xA (wB b) fun d=>xA (wB c) fun f=>xC ((e.upd 4 d).upd 5 f)
def c1v:Reg:=xA (wB (e 0)) fun a=>xA (wJ a) fun b=>xA (wC 0 b) fun c=>xA (wA none c) fun d=>xA (wB (e 3)) fun f=>xA (wO .i64 f) fun g=>xA (wD 166 [d,g]) fun i=>xA (wB i) fun j=>a6C e j
def c1w:Reg:=xA (wB (e 0)) fun a=>xA (wJ a) fun b=>xA (wC 1 b) fun c=>xA (wA none c) fun d=>xA (wB (e 4)) fun f=>xA (wD 167 [d,f]) fun g=>xC e
def c1x:Reg:=xA (wB (e 0)) fun a=>xA (wJ a) fun b=>xA (wC 2 b) fun c=>xA (wA none c) fun d=>xA (wB (e 3)) fun f=>xA (wI 1 d f) fun g=>xA (wA none g) fun i=>xA (wB i) fun j=>xC (e.upd 2 j)
def e4R:=an (ro c1t.eq_1)<|an (O5 a6B.eq_1)<|an (ro c1u.eq_1)<|an (ro1 a6C.eq_1)<|an (ro c1v.eq_1)<|an (ro c1w.eq_1)<|ro c1x.eq_1
def d0Y:CFn:=⟨(xF (xG c1t) (xF (xG c1u) (xF (xG c1v) (xF (xG c1w) (xF (xG c1x) .ret))))),[.t 2]⟩
def e8P:Pers:=⟨6,[],38,[]⟩
def c1y:Reg:=xA (wB (.int .i64 0)) fun a=>xC (e.upd 4 a)
def c1z:Reg:=xA (wB (e 0)) fun a=>xA (.eqK .ptr false a (.pointer none)) fun b=>xC (e.upd 8 b)
def c1A:Reg:=xA (wB (.int .i64 (-1))) fun a=>xC (e.upd 4 a)
def c1B:Reg:=xA (wB (e 0)) fun a=>xA (wB (e 1)) fun b=>xA (wD 165 [a,b]) fun c=>xA (wB c) fun d=>xA (wG d 0) fun f=>xA (wG d 1) fun g=>xA (wB f) fun i=>xA (wB g) fun j=>xC ((e.upd 5 i).upd 6 j)
def c1C:Reg:=xA (wB (e 6)) fun a=>xA (wE .geq a (.int .i64 0)) fun b=>xC (e.upd 16 b)
def c1D:Reg:=xA (wB (.int .i64 (-1))) fun a=>xC (e.upd 4 a)
def c1E:Reg:=xA (wB (e 0)) fun a=>xA (wJ a) fun b=>xA (wC 0 b) fun c=>xA (wA none c) fun d=>xA (wB (e 1)) fun f=>xA (wD 168 [d,f]) fun g=>xA (wB g) fun i=>xC (e.upd 6 i)
def c1F:Reg:=xA (wB (e 6)) fun a=>xA (wE .geq a (.int .i64 0)) fun b=>xC (e.upd 24 b)
def c1G:Reg:=xA (wB (e 0)) fun a=>xA (wJ a) fun b=>xA (wC 4 b) fun c=>xA (wA none c) fun d=>xA (wB (e 5)) fun f=>xA (wB (e 6)) fun g=>xA (wO .i32 g) fun i=>xA (wE .add i (.int .i32 1)) fun j=>xA (wI 1 d f) fun k=>xA (wF 1 k j) fun _=>xC e
def c1H:Reg:=xA (wB (e 6)) fun a=>xA (wB a) fun b=>xC (e.upd 4 b)
def e2T:=an (ro c1y.eq_1)<|an (ro c1z.eq_1)<|an (ro c1A.eq_1)<|an (ro c1B.eq_1)<|an (ro c1C.eq_1)<|an (ro c1D.eq_1)<|an (ro c1E.eq_1)<|an (ro c1F.eq_1)<|an (ro c1G.eq_1)<|ro c1H.eq_1
def c8d:CFn:=⟨(xF (xG c1y) (xF (xF (xG c1z) (.cond (fun e=>e 8) (xF (xG c1A) .ret) .skip)) (xF (xG c1B) (xF (xF (xG c1C) (.cond (fun e=>e 16) (xF (xG c1D) .ret) .skip)) (xF (xF (xG c1E) (xF (xG c1F) (.cond (fun e=>e 24) (xG c1G) .skip))) (xF (xG c1H) .ret)))))),[.t 4]⟩
def e8Q:Pers:=⟨7,[8,16,24],35,[]⟩
def c1I:Reg:=xA (wB (e 0)) fun a=>xA (wJ a) fun b=>xA (wC 5 b) fun c=>xA (wA none c) fun d=>xA (wB (e 1)) fun f=>xA (wI 1 d f) fun g=>xA (wA none g) fun i=>xA (wO .i64 i) fun j=>xA (wB j) fun k=>xC (e.upd 4 k)
def a6E(a b:Value):Reg:=xB a true (wA none b) fun c=>xB a true (wB (e 0)) fun d=>xB a true (wJ d) fun f=>xB a true (wC 2 f) fun g=>xB a true (wA none g) fun i=>xB a true (wB (e 1)) fun j=>xB a true (wI 1 i j) fun k=>xB a true (wA none k) fun m=>xB a true (wE .lss c m) fun n=>xA (wK a n (.bool false)) fun o=>xC (e.upd 38 o)
def a6D(a b c:Value):Reg:=xB a true (wJ c) fun d=>xB a true (wC 4 d) fun f=>xB a true (wA none f) fun g=>xB a true (wB (e 4)) fun i=>xB a true (wE .sub i (.int .i64 1)) fun j=>xB a true (wI 1 g j) fun k=>xB a true (wA none k) fun m=>xB a true (wI 1 b m) fun n=>a6E e a n
def c1J:Reg:=xA (wB (e 4)) fun a=>xA (wE .gtr a (.int .i64 0)) fun b=>xA (wB b) fun c=>xB c true (wB (e 0)) fun d=>xB c true (wJ d) fun f=>xB c true (wC 2 f) fun g=>xB c true (wA none g) fun i=>xB c true (wB (e 0)) fun j=>a6D e c i j
def a6F(a b c:Value):Reg:=xA (wA none c) fun d=>xA (wB (e 4)) fun f=>xA (wE .sub f (.int .i64 1)) fun g=>xA (wI 1 d g) fun i=>xA (wA none i) fun j=>xA (wI 1 a b) fun k=>xD fun h14=>xA (wF 1 k j) fun _=>xC e
def c1L:Reg:=xA (wB (e 0)) fun a=>xA (wJ a) fun b=>xA (wC 4 b) fun c=>xA (wA none c) fun d=>xA (wB (e 4)) fun f=>xA (wB (e 0)) fun g=>xA (wJ g) fun i=>xA (wC 4 i) fun j=>a6F e d f j
def a6G(a b:Value):Reg:=xA (wB (e 4)) fun c=>xA (wI 1 b c) fun d=>xA (wA none d) fun f=>xA (wB (e 4)) fun g=>xA (wO .i32 g) fun i=>xA (wI 1 a f) fun j=>xD fun h14=>xA (wF 1 j i) fun _=>xC e
def c1M:Reg:=xA (wB (e 0)) fun a=>xA (wJ a) fun b=>xA (wC 5 b) fun c=>xA (wA none c) fun d=>xA (wB (e 0)) fun f=>xA (wJ f) fun g=>xA (wC 4 g) fun i=>xA (wA none i) fun j=>a6G e d j
def c1K:Reg:=xA (wB (e 4)) fun a=>xA (wE .sub a (.int .i64 1)) fun b=>xA (wB b) fun c=>xC (e.upd 4 c)
def a2Q:CC:=(xF (xF (xG c1J) (.cond (fun e=>e 38) .skip (.exit 0))) (xF (.block 1 (xF (xG c1L) (xG c1M))) (xG c1K)))
def a6I(a b c d f:Value):Reg:=xA (wF 1 f c) fun _=>xA (wI 1 a b) fun g=>xD fun h17=>xA (wF 1 g d) fun _=>xC e
def a6H(a b c:Value):Reg:=xA (wA none c) fun d=>xA (wB (e 1)) fun f=>xA (wB (e 1)) fun g=>xA (wO .i32 g) fun i=>xA (wB (e 4)) fun j=>xA (wO .i32 j) fun k=>xA (wI 1 a b) fun m=>xD fun h15=>a6I e d f i k m
def c1N:Reg:=xA (wB (e 0)) fun a=>xA (wJ a) fun b=>xA (wC 4 b) fun c=>xA (wA none c) fun d=>xA (wB (e 4)) fun f=>xA (wB (e 0)) fun g=>xA (wJ g) fun i=>xA (wC 5 i) fun j=>a6H e d f j
def e0K:=an (ro c1I.eq_1)<|an (O5 a6E.eq_1)<|an (W2 a6D.eq_1)<|an (ro c1J.eq_1)<|an (W2 a6F.eq_1)<|an (ro c1L.eq_1)<|an (O5 a6G.eq_1)<|an (ro c1M.eq_1)<|an (ro c1K.eq_1)<|an (ro5 a6I.eq_1)<|an (W2 a6H.eq_1)<|ro c1N.eq_1
def b6h:CFn:=⟨(xF (xG c1I) (xF (.block 0 (.loop a2Q)) (xG c1N))),[]⟩
def e8R:Pers:=⟨5,[38],85,[]⟩
def c1U:Reg:=xA (wA none (e 2)) fun a=>xA (wJ a) fun b=>xA (wC 13 b) fun c=>xA (wA none c) fun d=>xA (.makeFunc 162 [d] []) fun f=>xC (e.upd 35 f)
def c1T:Reg:=xA (wH 4 [.bool false]) fun a=>xA (wF 1 a (.bool false)) fun _=>xC (e.upd 11 a)
def c1S:Reg:=xA (wB (e 6)) fun a=>xA (wB (e 7)) fun b=>xA (wE .sub a b) fun c=>xA (wH 9 [.string ⟨#[]⟩]) fun d=>xA (wH 2 [.int .i64 0]) fun f=>xA (wF 1 d (.string ⟨#[]⟩)) fun _=>xA (wF 1 f c) fun _=>xC ((e.upd 9 d).upd 10 f)
def c1Q:Reg:=xA (wB (e 8)) fun a=>xA (wP .not a) fun b=>xC (e.upd 27 b)
def c1R:Reg:=xA (wB (.string ⟨#[]⟩)) fun a=>xA (wB (.bool false)) fun b=>xC ((e.upd 4 a).upd 5 b)
def a6J(a b:Value):Reg:=xA (wG a 1) fun c=>xA (wG a 2) fun d=>xA (wB b) fun f=>xA (wB c) fun g=>xA (wB d) fun i=>xC (((e.upd 6 f).upd 7 g).upd 8 i)
def c1P:Reg:=xA (wA none (e 2)) fun a=>xA (wJ a) fun b=>xA (wC 15 b) fun c=>xA (wA none c) fun d=>xA (wB (e 1)) fun f=>xA (wD 169 [d,f]) fun g=>xA (wB g) fun i=>xA (wG i 0) fun j=>a6J e i j
def c1O:Reg:=xA (wN 94 (e 0)) fun a=>xA (wB (.string ⟨#[]⟩)) fun b=>xA (wB (.bool false)) fun c=>xC (((e.upd 2 a).upd 4 b).upd 5 c)
def c1V:Reg:=xA (wB (e 36)) fun a=>xC (e.upd 12 a)
def a6K(a b:Value):Reg:=xA (wG a 1) fun c=>xA (wG a 2) fun d=>xA (wB b) fun f=>xA (wB c) fun g=>xA (wB d) fun i=>xC (((e.upd 13 f).upd 14 g).upd 15 i)
def c1W:Reg:=xA (wA none (e 2)) fun a=>xA (wJ a) fun b=>xA (wC 15 b) fun c=>xA (wA none c) fun d=>xA (wB (e 12)) fun f=>xA (wD 169 [d,f]) fun g=>xA (wB g) fun i=>xA (wG i 0) fun j=>a6K e i j
def c1X:Reg:=xA (wB (e 15)) fun a=>xA (wP .not a) fun b=>xC (e.upd 49 b)
def b3B:Reg:=xA (wA none (e 2)) fun a=>xA (wJ a) fun b=>xA (wC 15 b) fun c=>xA (wA none c) fun d=>xA (wD 170 [d]) fun f=>xA (wB f) fun g=>xC (e.upd 13 g)
def b3C:Reg:=xA (wB (e 13)) fun a=>xA (wA none (e 10)) fun b=>xA (wE .lss a b) fun c=>xC (e.upd 57 c)
def b3D:Reg:=xA (wB (e 12)) fun a=>xA (wB (e 13)) fun b=>xA (wF 1 (e 9) a) fun _=>xA (wF 1 (e 10) b) fun _=>xA (wF 1 (e 11) (.bool true)) fun _=>xC e
def b3E:Reg:=xA (wA none (e 9)) fun a=>xA (wA none (e 11)) fun b=>xA (wB a) fun c=>xA (wB b) fun d=>xC ((e.upd 4 c).upd 5 d)
def b6i:CC:=(xG c1V)
def a2o:CC:=(.block 1 (xF (xG c1W) (xF (xF (xG c1X) (.cond (fun e=>e 49) (xG b3B) .skip)) (xF (xG b3C) (.cond (fun e=>e 57) (xG b3D) .skip)))))
def b6j:CC:=(xF (xF (xG b3E) .ret) .skip)
def a8I:=an (ro c1U.eq_1)<|an (ro c1T.eq_1)<|an (ro c1S.eq_1)<|an (ro c1Q.eq_1)<|an (ro c1R.eq_1)<|an (O5 a6J.eq_1)<|an (ro c1P.eq_1)<|an (ro c1O.eq_1)<|an (ro c1V.eq_1)<|an (O5 a6K.eq_1)<|an (ro c1W.eq_1)<|an (ro c1X.eq_1)<|an (ro b3B.eq_1)<|an (ro b3C.eq_1)<|an (ro b3D.eq_1)<|ro b3E.eq_1
def a3v:CFn:=⟨(.rng (xF (xG c1O) (xF (xG c1P) (xF (xF (xG c1Q) (.cond (fun e=>e 27) (xF (xG c1R) .ret) .skip)) (xF (xG c1S) (xF (xG c1T) (xF (xG c1U) .skip)))))) 0 (fun e=>(e 35)) [36,37] b6i a2o b6j),[.t 4,.t 5]⟩
def e8S:Pers:=⟨16,[27,35,36,37,49,57],62,[]⟩
def c1Y:Reg:=xA (wH 250 [.int .i64 0,.int .i64 0,.int .i64 0,.int .i64 0]) fun a=>xA (wB (.bool false)) fun b=>xC ((e.upd 4 a).upd 5 b)
def c1Z:Reg:=xA (wB (e 0)) fun a=>xA (.eqK .ptr false a (.pointer none)) fun b=>xC (e.upd 8 b)
def c2a:Reg:=xA (wM [.int .i64 0,.int .i64 0,.int .i64 0,.int .i64 0] []) fun a=>xA (wF 4 (e 4) a) fun _=>xA (wB (.bool false)) fun b=>xC (e.upd 5 b)
def c2b:Reg:=xA (wB (e 0)) fun a=>xA (wJ a) fun b=>xA (wC 1 b) fun c=>xA (wA none c) fun d=>xA (wB (e 1)) fun f=>xA (wD 167 [d,f]) fun g=>xA (wB g) fun i=>xC (e.upd 6 i)
def c2c:Reg:=xA (wB (e 6)) fun a=>xA (wE .lss a (.int .i64 0)) fun b=>xC (e.upd 17 b)
def c2d:Reg:=xA (wM [.int .i64 0,.int .i64 0,.int .i64 0,.int .i64 0] []) fun a=>xA (wF 4 (e 4) a) fun _=>xA (wB (.bool false)) fun b=>xC (e.upd 5 b)
def c2e:Reg:=xA (wB (e 0)) fun a=>xA (wJ a) fun b=>xA (wC 2 b) fun c=>xA (wA none c) fun d=>xA (wB (e 6)) fun f=>xA (wI 4 d f) fun g=>xA (wA (some 4) g) fun i=>xA (wF 4 (e 4) i) fun _=>xA (wB (.bool true)) fun j=>xC (e.upd 5 j)
def e4S:=an (ro c1Y.eq_1)<|an (ro c1Z.eq_1)<|an (ro c2a.eq_1)<|an (ro c2b.eq_1)<|an (ro c2c.eq_1)<|an (ro c2d.eq_1)<|ro c2e.eq_1
def d1g:CFn:=⟨(xF (xG c1Y) (xF (xF (xG c1Z) (.cond (fun e=>e 8) (xF (xG c2a) .ret) .skip)) (xF (xG c2b) (xF (xF (xG c2c) (.cond (fun e=>e 17) (xF (xG c2d) .ret) .skip)) (xF (xG c2e) .ret))))),[.c 4 (some 4),.t 5]⟩
def e8T:Pers:=⟨7,[8,17],26,[]⟩
def c2f:Reg:=xA (wN 250 (e 0)) fun a=>xA (wN 126 (e 1)) fun b=>xA (wB (.int .i64 0)) fun c=>xC (((e.upd 3 a).upd 4 b).upd 6 c)
def c2g:Reg:=xA (wA (some 4) (e 3)) fun a=>xA (wA (some 4) (e 4)) fun b=>xA (wB (e 2)) fun c=>xA (wD 156 [a,b,c]) fun d=>xC (e.upd 10 d)
def c2h:Reg:=xA (wC 3 (e 3)) fun a=>xA (wA none a) fun b=>xA (wC 3 (e 4)) fun c=>xA (wA none c) fun d=>xA (.minmax false [b,d]) fun f=>xA (wB f) fun g=>xC (e.upd 6 g)
def a6L(a b:Value):Reg:=xA (wA none b) fun c=>xA (wE .quo a c) fun d=>xA (.minmax true [d,.int .i64 0]) fun f=>xA (wC 3 (e 4)) fun g=>xA (wA none g) fun i=>xA (.minmax false [f,i]) fun j=>xA (wB j) fun k=>xC (e.upd 6 k)
def c2i:Reg:=xA (wC 0 (e 3)) fun a=>xA (wA none a) fun b=>xA (wB (e 2)) fun c=>xA (wC 1 (e 4)) fun d=>xA (wA none d) fun f=>xA (wE .sub c f) fun g=>xA (wE .sub b g) fun i=>xA (wC 0 (e 4)) fun j=>a6L e i j
def e2U:=an (ro c2f.eq_1)<|an (ro c2g.eq_1)<|an (ro c2h.eq_1)<|an (O5 a6L.eq_1)<|ro c2i.eq_1
def c8e:CFn:=⟨(xF (xG c2f) (xF (xF (xG c2g) (.cond (fun e=>e 10) (xF (xG c2h) .ret) .skip)) (xF (xG c2i) .ret))),[.t 6]⟩
def e8U:Pers:=⟨7,[10],30,[]⟩
def c2j:Reg:=xA (wN 250 (e 2)) fun a=>xA (wB (.pointer none)) fun b=>xC ((e.upd 5 a).upd 6 b)
def c2k:Reg:=xA (wB (e 0)) fun a=>xA (.eqK .ptr false a (.pointer none)) fun b=>xC (e.upd 9 b)
def c2l:Reg:=xA (wB (.pointer none)) fun a=>xC (e.upd 6 a)
def c2m:Reg:=xA (wB (e 0)) fun a=>xA (wJ a) fun b=>xA (wC 1 b) fun c=>xA (wA none c) fun d=>xA (wB (e 1)) fun f=>xA (wD 150 [d,f]) fun g=>xA (wB g) fun i=>xC (e.upd 7 i)
def c2n:Reg:=xA (wB (e 7)) fun a=>xA (wE .lss a (.int .i64 0)) fun b=>xC (e.upd 17 b)
def c2o:Reg:=xA (wB (.pointer none)) fun a=>xC (e.upd 6 a)
def c2p:Reg:=xA (wB (e 0)) fun a=>xA (wJ a) fun b=>xA (wC 2 b) fun c=>xA (wA none c) fun d=>xA (wB (e 7)) fun f=>xA (wA (some 4) (e 5)) fun g=>xA (wI 4 d f) fun i=>xD fun h7=>xA (wF 4 i g) fun _=>xC e
def c2q:Reg:=xA (wB (e 0)) fun a=>xA (wJ a) fun b=>xA (wC 2 b) fun c=>xA (wA none c) fun d=>xA (wB (e 7)) fun f=>xA (wI 4 d f) fun g=>xA (wB g) fun i=>xC (e.upd 6 i)
def e4T:=an (ro c2j.eq_1)<|an (ro c2k.eq_1)<|an (ro c2l.eq_1)<|an (ro c2m.eq_1)<|an (ro c2n.eq_1)<|an (ro c2o.eq_1)<|an (ro c2p.eq_1)<|ro c2q.eq_1
def d1h:CFn:=⟨(xF (xG c2j) (xF (xF (xG c2k) (.cond (fun e=>e 9) (xF (xG c2l) .ret) .skip)) (xF (xG c2m) (xF (xF (xG c2n) (.cond (fun e=>e 17) (xF (xG c2o) .ret) .skip)) (xF (xG c2p) (xF (xG c2q) .ret)))))),[.t 6]⟩
def e8V:Pers:=⟨8,[9,17],31,[]⟩
def c2r:Reg:=xA (wN 250 (e 0)) fun a=>xA (wN 126 (e 1)) fun b=>xA (wB (.bool false)) fun c=>xC (((e.upd 3 a).upd 4 b).upd 6 c)
def c2s:Reg:=xA (wB (e 2)) fun a=>xA (wC 1 (e 3)) fun b=>xA (wA none b) fun c=>xA (wC 1 (e 4)) fun d=>xA (wA none d) fun f=>xA (wD 126 [c,f]) fun g=>xA (wE .lss a g) fun i=>xA (wB i) fun j=>xC (e.upd 6 j)
def e9U:=an (ro c2r.eq_1)<|ro c2s.eq_1
def e1e:CFn:=⟨(xF (xG c2r) (xF (xG c2s) .ret)),[.t 6]⟩
def e8W:Pers:=⟨7,[],14,[]⟩
def c2t:Reg:=xA (wB (.int .i64 0)) fun a=>xC (e.upd 8 a)
def c2u:Reg:=xA (wB (.int .i64 0)) fun a=>xC (e.upd 9 a)
def c2v:Reg:=xA (wB (e 2)) fun a=>xA (wB (e 0)) fun b=>xA (wJ b) fun c=>xA (wC 0 c) fun d=>xA (wA none d) fun f=>xA (wL f) fun g=>xA (wE .sub a g) fun i=>xA (wE .add i (.int .i64 1)) fun j=>xA (wB j) fun k=>xC (e.upd 10 k)
def c2w:Reg:=xA (wB (e 10)) fun a=>xA (wB (e 2)) fun b=>xA (wE .leq a b) fun c=>xC (e.upd 22 c)
def c2z:Reg:=xA (wB (e 0)) fun a=>xA (wB (e 10)) fun b=>xA (wD 171 [a,b]) fun c=>xA (wB (e 1)) fun d=>xA (wD 172 [c,d]) fun f=>xA (wB f) fun g=>xC (e.upd 11 g)
def c2A:Reg:=xA (wB (e 10)) fun a=>xA (wB (e 2)) fun b=>xA (wB (e 0)) fun c=>xA (wJ c) fun d=>xA (wC 0 d) fun f=>xA (wA none f) fun g=>xA (wL g) fun i=>xA (wE .sub b i) fun j=>xA (wE .add j (.int .i64 1)) fun k=>xA (wE .eql a k) fun m=>xC (e.upd 39 m)
def c2B:Reg:=xA (wB (e 0)) fun a=>xA (wB (e 11)) fun b=>xA (wB (e 3)) fun c=>xA (wD 173 [a,b,c]) fun d=>xA (wB d) fun f=>xC (e.upd 11 f)
def c2C:Reg:=xA (wB (e 9)) fun a=>xA (wB (e 11)) fun b=>xA (wD 126 [a,b]) fun c=>xA (wB c) fun d=>xC (e.upd 9 d)
def c2y:Reg:=xA (wB (e 10)) fun a=>xA (wE .add a (.int .i64 1)) fun b=>xA (wB b) fun c=>xC (e.upd 10 c)
def a5j:CC:=(xF (xF (xG c2w) (.cond (fun e=>e 22) .skip (.exit 0))) (xF (.block 1 (xF (xG c2z) (xF (xF (xG c2A) (.cond (fun e=>e 39) (xG c2B) .skip)) (xG c2C)))) (xG c2y)))
def c2D:Reg:=xA (wB (e 9)) fun a=>xA (wB a) fun b=>xC (e.upd 8 b)
def d0b:=an (ro c2t.eq_1)<|an (ro c2u.eq_1)<|an (ro c2v.eq_1)<|an (ro c2w.eq_1)<|an (ro c2z.eq_1)<|an (ro c2A.eq_1)<|an (ro c2B.eq_1)<|an (ro c2C.eq_1)<|an (ro c2y.eq_1)<|ro c2D.eq_1
def b3F:CFn:=⟨(xF (xG c2t) (xF (xG c2u) (xF (xF (xG c2v) (.block 0 (.loop a5j))) (xF (xG c2D) .ret)))),[.t 8]⟩
def e8X:Pers:=⟨12,[22,39],48,[]⟩
def c2E:Reg:=xA (wB (.int .i64 0)) fun a=>xC (e.upd 4 a)
def c2F:Reg:=xA (wB (e 0)) fun a=>xA (.eqK .ptr false a (.pointer none)) fun b=>xC (e.upd 6 b)
def c2G:Reg:=xA (wB (.int .i64 0)) fun a=>xC (e.upd 4 a)
def c2H:Reg:=xA (wB (e 1)) fun a=>xA (wB (e 0)) fun b=>xA (wJ b) fun c=>xA (wC 2 c) fun d=>xA (wA none d) fun f=>xA (wE .quo a f) fun g=>xA (wB g) fun i=>xC (e.upd 4 i)
def e9V:=an (ro c2E.eq_1)<|an (ro c2F.eq_1)<|an (ro c2G.eq_1)<|ro c2H.eq_1
def e1f:CFn:=⟨(xF (xG c2E) (xF (xF (xG c2F) (.cond (fun e=>e 6) (xF (xG c2G) .ret) .skip)) (xF (xG c2H) .ret))),[.t 4]⟩
def e8Y:Pers:=⟨5,[6],13,[]⟩
def c2I:Reg:=xA (wB (e 0)) fun a=>xA (.eqK .ptr true a (.pointer none)) fun b=>xC (e.upd 3 b)
def c2J:Reg:=xA (wB (e 0)) fun a=>xA (wJ a) fun b=>xA (wC 2 b) fun c=>xA (wA none c) fun d=>xA (.clearSl [.int .i64 0] d) fun _=>xC e
def e9W:=an (ro c2I.eq_1)<|ro c2J.eq_1
def e1g:CFn:=⟨(xF (xG c2I) (.cond (fun e=>e 3) (xG c2J) .skip)),[]⟩
def e8Z:Pers:=⟨2,[3],8,[]⟩
def c3d:Reg:=xA (wB (e 0)) fun a=>xA (.eqK .ptr false a (.pointer none)) fun b=>xA (wB b) fun c=>xB c false (wB (e 2)) fun d=>xB c false (wE .lss d (.int .i64 1)) fun f=>xA (wK c (.bool true) f) fun g=>xC (e.upd 14 g)
def c3e:Reg:=xA (wB (e 0)) fun a=>xA (wB (e 1)) fun b=>xA (wD 172 [a,b]) fun c=>xA (wB (e 2)) fun d=>xA (wD 126 [c,d]) fun f=>xA (wB f) fun g=>xC (e.upd 6 g)
def c3f:Reg:=xA (wB (e 0)) fun a=>xA (wJ a) fun b=>xA (wC 0 b) fun c=>xA (wA none c) fun d=>xA (wL d) fun f=>xA (wB (.int .i64 0)) fun g=>xC ((e.upd 24 f).upd 25 g)
def c3g:Reg:=xA (wE .lss (e 25) (e 24)) fun a=>xC (e.upd 26 a)
def c3h:Reg:=xA (wB (e 25)) fun a=>xA (wB a) fun b=>xC (e.upd 7 b)
def c3i:Reg:=xA (wB (e 0)) fun a=>xA (wB (e 7)) fun b=>xA (wB (e 1)) fun c=>xA (wD 174 [a,b,c]) fun d=>xA (wB d) fun f=>xC (e.upd 8 f)
def c3j:Reg:=xA (wB (e 8)) fun a=>xA (wB (e 8)) fun b=>xA (wJ b) fun c=>xA (wA none c) fun d=>xA (wB (e 6)) fun f=>xA (.minmax true [d,f]) fun g=>xA (wJ a) fun i=>xA (wF 1 i g) fun _=>xC e
def c3k:Reg:=xA (wE .add (e 25) (.int .i64 1)) fun a=>xA (wB a) fun b=>xC (e.upd 25 b)
def a5k:CC:=(xF (xG c3g) (xF (.cond (fun e=>e 26) .skip (.exit 0)) (xF (.block 1 (xF (xG c3h) (xF (xG c3i) (xG c3j)))) (xG c3k))))
def c7J:=an (ro c3d.eq_1)<|an (ro c3e.eq_1)<|an (ro c3f.eq_1)<|an (ro c3g.eq_1)<|an (ro c3h.eq_1)<|an (ro c3i.eq_1)<|an (ro c3j.eq_1)<|ro c3k.eq_1
def b1H:CFn:=⟨(xF (xF (xG c3d) (.cond (fun e=>e 14) .ret .skip)) (xF (xG c3e) (xF (xG c3f) (.block 0 (.loop a5k))))),[]⟩
def e9a:Pers:=⟨9,[14,24,25,26],40,[]⟩
def c3l:Reg:=xA (wB (.int .i64 0)) fun a=>xC (e.upd 4 a)
def c3m:Reg:=xA (wB (e 0)) fun a=>xA (wB (e 1)) fun b=>xA (wD 72 [a,b]) fun c=>xA (wB c) fun d=>xA (wG d 0) fun f=>xA (wG d 1) fun g=>xA (wB f) fun i=>xA (wB g) fun j=>xC ((e.upd 5 i).upd 6 j)
def c3n:Reg:=xA (wB (e 6)) fun a=>xA (wP .not a) fun b=>xC (e.upd 14 b)
def c3o:Reg:=xA (wB (e 0)) fun a=>xA (wE .lss a (.int .i64 0)) fun b=>xA (wB (e 1)) fun c=>xA (wE .lss c (.int .i64 0)) fun d=>xA (.eqK .bool true b d) fun f=>xA (wD 145 [f]) fun g=>xA (wB g) fun i=>xC (e.upd 4 i)
def c3p:Reg:=xA (wB (e 5)) fun a=>xA (wB a) fun b=>xC (e.upd 4 b)
def e9X:=an (ro c3l.eq_1)<|an (ro c3m.eq_1)<|an (ro c3n.eq_1)<|an (ro c3o.eq_1)<|ro c3p.eq_1
def e1h:CFn:=⟨(xF (xG c3l) (xF (xG c3m) (xF (xF (xG c3n) (.cond (fun e=>e 14) (xF (xG c3o) .ret) .skip)) (xF (xG c3p) .ret)))),[.t 4]⟩
def e9b:Pers:=⟨7,[14],22,[]⟩
def c3q:Reg:=xA (wB (e 0)) fun a=>xA (.eqK .ptr false a (.pointer none)) fun b=>xC (e.upd 9 b)
def c3r:Reg:=xA (wB (e 0)) fun a=>xA (wJ a) fun b=>xA (wC 2 b) fun c=>xA (wA none c) fun d=>xA (wL d) fun f=>xA (wB (.int .i64 0)) fun g=>xC (((e.upd 13 d).upd 14 f).upd 15 g)
def c3s:Reg:=xA (wE .lss (e 15) (e 14)) fun a=>xC (e.upd 16 a)
def c3t:Reg:=xA (wB (e 15)) fun a=>xA (wI 4 (e 13) (e 15)) fun b=>xA (wA (some 4) b) fun c=>xA (wH 250 [.int .i64 0,.int .i64 0,.int .i64 0,.int .i64 0]) fun d=>xA (wB a) fun f=>xA (wF 4 d c) fun _=>xC ((e.upd 5 d).upd 4 f)
def a6N(a b:Value):Reg:=xA (wG a 1) fun c=>xA (wB b) fun d=>xA (wB c) fun f=>xC ((e.upd 6 d).upd 7 f)
def c3u:Reg:=xA (wB (e 0)) fun a=>xA (wJ a) fun b=>xA (wC 0 b) fun c=>xA (wA none c) fun d=>xA (wB (e 4)) fun f=>xA (wD 166 [d,f]) fun g=>xA (wB g) fun i=>xA (wG i 0) fun j=>a6N e i j
def c3v:Reg:=xA (wB (e 7)) fun a=>xA (wB a) fun b=>xB b true (wB (e 1)) fun c=>xB b true (wB (e 6)) fun d=>xB b true (wA (some 4) (e 5)) fun f=>xB b true (.callv c [d,f]) fun g=>xB b true (wP .not g) fun i=>xA (wK b i (.bool false)) fun j=>xC (e.upd 36 j)
def c3w:Reg:=xA (wE .add (e 15) (.int .i64 1)) fun a=>xA (wB a) fun b=>xC (e.upd 15 b)
def a0x:CC:=(xF (xG c3s) (xF (.cond (fun e=>e 16) .skip (.exit 0)) (xF (.block 1 (xF (xG c3t) (xF (xG c3u) (xF (xG c3v) (.cond (fun e=>e 36) .ret .skip))))) (xG c3w))))
def c7K:=an (ro c3q.eq_1)<|an (ro c3r.eq_1)<|an (ro c3s.eq_1)<|an (ro c3t.eq_1)<|an (O5 a6N.eq_1)<|an (ro c3u.eq_1)<|an (ro c3v.eq_1)<|ro c3w.eq_1
def b1I:CFn:=⟨(xF (xF (xG c3q) (.cond (fun e=>e 9) .ret .skip)) (xF (xG c3r) (.block 0 (.loop a0x)))),[]⟩
def e9c:Pers:=⟨8,[9,13,14,15,16,36],38,[]⟩
def c3x:Reg:=xA (wN 250 (e 0)) fun a=>xA (wN 126 (e 1)) fun b=>xA (wB (.bool false)) fun c=>xC (((e.upd 3 a).upd 4 b).upd 6 c)
def a6O(a b:Value):Reg:=xB a true (wB (e 2)) fun c=>xB a true (wC 1 (e 4)) fun d=>xB a true (wA none d) fun f=>xB a true (wE .sub c f) fun g=>xB a true (wE .leq b g) fun i=>xA (wK a i (.bool false)) fun j=>xA (wB j) fun k=>xC (e.upd 6 k)
def c3y:Reg:=xA (wA (some 4) (e 3)) fun a=>xA (wA (some 4) (e 4)) fun b=>xA (wB (e 2)) fun c=>xA (wD 156 [a,b,c]) fun d=>xA (wP .not d) fun f=>xA (wB f) fun g=>xB g true (wC 0 (e 3)) fun i=>xB g true (wA none i) fun j=>a6O e g j
def e0L:=an (ro c3x.eq_1)<|an (O5 a6O.eq_1)<|ro c3y.eq_1
def c163:CFn:=⟨(xF (xG c3x) (xF (xG c3y) .ret)),[.t 6]⟩
def e9d:Pers:=⟨7,[],21,[]⟩
def c3z:Reg:=xA (wB (e 0)) fun a=>xA (wD 148 [a]) fun b=>xA (wB (.int .i64 0)) fun c=>xC ((e.upd 9 b).upd 10 c)
def c3A:Reg:=xA (wE .lss (e 10) (e 9)) fun a=>xC (e.upd 11 a)
def c3B:Reg:=xA (wB (e 10)) fun a=>xA (wB a) fun b=>xC (e.upd 4 b)
def c3C:Reg:=xA (wB (e 0)) fun a=>xA (wJ a) fun b=>xA (wC 4 b) fun c=>xA (wA none c) fun d=>xA (wB (e 4)) fun f=>xA (wI 1 d f) fun g=>xA (wA none g) fun i=>xA (wB i) fun j=>xC (e.upd 5 j)
def a6P(a:Value):Reg:=xA (wG a 0) fun b=>xA (wG a 1) fun c=>xA (wB b) fun d=>xA (wB c) fun f=>xC ((e.upd 6 d).upd 7 f)
def c3D:Reg:=xA (wB (e 0)) fun a=>xA (wJ a) fun b=>xA (wC 0 b) fun c=>xA (wA none c) fun d=>xA (wB (e 5)) fun f=>xA (wO .i64 f) fun g=>xA (wD 166 [d,g]) fun i=>xA (wB i) fun j=>a6P e j
def a6R(a b c d:Value):Reg:=xA (wM [.string ⟨#[]⟩,.int .i64 0,.int .i64 0] [(0,1,b),(1,1,c),(2,1,d)]) fun f=>xD fun h17=>xA (.callv a [f]) fun g=>xA (wP .not g) fun i=>xC (e.upd 48 i)
def a6Q(a b c:Value):Reg:=xA (wA none c) fun d=>xA (wB (e 0)) fun f=>xA (wJ f) fun g=>xA (wC 3 g) fun i=>xA (wA none i) fun j=>xA (wB (e 5)) fun k=>xA (wI 1 j k) fun m=>xA (wA none m) fun n=>a6R e a b d n
def c3E:Reg:=xA (wB (e 1)) fun a=>xA (wB (e 6)) fun b=>xA (wB (e 0)) fun c=>xA (wJ c) fun d=>xA (wC 2 d) fun f=>xA (wA none f) fun g=>xA (wB (e 5)) fun i=>xA (wI 1 g i) fun j=>a6Q e a b j
def c3F:Reg:=xA (wE .add (e 10) (.int .i64 1)) fun a=>xA (wB a) fun b=>xC (e.upd 10 b)
def a1D:CC:=(xF (xG c3A) (xF (.cond (fun e=>e 11) .skip (.exit 0)) (xF (.block 1 (xF (xG c3B) (xF (xG c3C) (xF (xG c3D) (xF (xG c3E) (.cond (fun e=>e 48) .ret .skip)))))) (xG c3F))))
def d0c:=an (ro c3z.eq_1)<|an (ro c3A.eq_1)<|an (ro c3B.eq_1)<|an (ro c3C.eq_1)<|an (ro1 a6P.eq_1)<|an (ro c3D.eq_1)<|an (ro4 a6R.eq_1)<|an (W2 a6Q.eq_1)<|an (ro c3E.eq_1)<|ro c3F.eq_1
def b3G:CFn:=⟨(xF (xG c3z) (.block 0 (.loop a1D))),[]⟩
def e9e:Pers:=⟨8,[9,10,11,48],50,[]⟩
def c3G:Reg:=xA (wB (.int .i64 0)) fun a=>xA (wB (.int .i64 0)) fun b=>xC ((e.upd 4 a).upd 5 b)
def c3H:Reg:=xA (wB (e 0)) fun a=>xA (wB (e 1)) fun b=>xA (wD 175 [a,b]) fun c=>xA (wB c) fun d=>xC (e.upd 6 d)
def c3J:Reg:=xA (wB (e 0)) fun a=>xA (wJ a) fun b=>xA (wC 4 b) fun c=>xA (wA none c) fun d=>xA (wB (e 6)) fun f=>xA (wI 1 d f) fun g=>xA (wA none g) fun i=>xA (wO .i64 i) fun j=>xA (wE .sub j (.int .i64 1)) fun k=>xA (wB k) fun m=>xC (e.upd 7 m)
def a6S(a b c:Value):Reg:=xB a false (wB (e 1)) fun d=>xB a false (wD 176 [b,c,d]) fun f=>xA (wK a (.bool true) f) fun g=>xC (e.upd 38 g)
def c3K:Reg:=xA (wB (e 7)) fun a=>xA (wE .lss a (.int .i64 0)) fun b=>xA (wB b) fun c=>xB c false (wB (e 0)) fun d=>xB c false (wJ d) fun f=>xB c false (wC 0 f) fun g=>xB c false (wA none g) fun i=>xB c false (wB (e 7)) fun j=>a6S e c i j
def c3L:Reg:=xA (wB (e 6)) fun a=>xA (wB (e 7)) fun b=>xA (wB a) fun c=>xA (wB b) fun d=>xC ((e.upd 4 c).upd 5 d)
def c3I:Reg:=xA (wB (e 6)) fun a=>xA (wE .add a (.int .i64 1)) fun b=>xA (wB (e 0)) fun c=>xA (wJ c) fun d=>xA (wC 4 d) fun f=>xA (wA none f) fun g=>xA (wL g) fun i=>xA (wE .rem b i) fun j=>xA (wB j) fun k=>xC (e.upd 6 k)
def a2R:CC:=(xF (.block 1 (xF (xG c3J) (xF (xG c3K) (.cond (fun e=>e 38) (xF (xG c3L) .ret) .skip)))) (xG c3I))
def d0d:=an (ro c3G.eq_1)<|an (ro c3H.eq_1)<|an (ro c3J.eq_1)<|an (W2 a6S.eq_1)<|an (ro c3K.eq_1)<|an (ro c3L.eq_1)<|ro c3I.eq_1
def b3H:CFn:=⟨(xF (xG c3G) (xF (xG c3H) (.block 0 (.loop a2R)))),[.t 4,.t 5]⟩
def e9f:Pers:=⟨8,[38],41,[]⟩
def c3M:Reg:=xA (wB (.string ⟨#[]⟩)) fun a=>xA (wB (.bool false)) fun b=>xC ((e.upd 4 a).upd 5 b)
def c3N:Reg:=xA (wB (e 0)) fun a=>xA (wB (e 1)) fun b=>xA (wD 177 [a,b]) fun c=>xA (wP .not c) fun d=>xC (e.upd 9 d)
def c3O:Reg:=xA (wB (.string ⟨#[]⟩)) fun a=>xA (wB (.bool false)) fun b=>xC ((e.upd 4 a).upd 5 b)
def a6U(a b c d:Value):Reg:=xA (wE .add c d) fun f=>xA (.slice 5 1 a (some b) (some f)) fun g=>xA (.toStr g) fun i=>xA (wB i) fun j=>xA (wB (.bool true)) fun k=>xC ((e.upd 4 j).upd 5 k)
def a6T(a b c:Value):Reg:=xA (wB (e 0)) fun d=>xA (wJ d) fun f=>xA (wC 1 f) fun g=>xA (wA none g) fun i=>xA (wB (e 1)) fun j=>xA (wI 1 i j) fun k=>xA (wA none k) fun m=>xA (wO .i64 m) fun n=>a6U e a b c n
def c3P:Reg:=xA (wB (e 0)) fun a=>xA (wJ a) fun b=>xA (wC 0 b) fun c=>xA (wA none c) fun d=>xA (wB (e 1)) fun f=>xA (wE .mul f (.int .i64 64)) fun g=>xA (wB (e 1)) fun i=>xA (wE .mul i (.int .i64 64)) fun j=>a6T e d g j
def e4U:=an (ro c3M.eq_1)<|an (ro c3N.eq_1)<|an (ro c3O.eq_1)<|an (ro4 a6U.eq_1)<|an (W2 a6T.eq_1)<|ro c3P.eq_1
def d1s:CFn:=⟨(xF (xG c3M) (xF (xF (xG c3N) (.cond (fun e=>e 9) (xF (xG c3O) .ret) .skip)) (xF (xG c3P) .ret))),[.t 4,.t 5]⟩
def e9g:Pers:=⟨6,[9],29,[]⟩
def c3Q:Reg:=xA (wB (.int .i64 0)) fun a=>xC (e.upd 4 a)
def c3R:Reg:=xA (wB (e 0)) fun a=>xA (.eqK .ptr false a (.pointer none)) fun b=>xC (e.upd 13 b)
def c3S:Reg:=xA (wB (.int .i64 (-1))) fun a=>xC (e.upd 4 a)
def c3T:Reg:=xA (wB (e 0)) fun a=>xA (wB (e 1)) fun b=>xA (wD 165 [a,b]) fun c=>xA (wB c) fun d=>xA (wG d 0) fun f=>xA (wG d 1) fun g=>xA (wB f) fun i=>xA (wB g) fun j=>xC ((e.upd 5 i).upd 6 j)
def c3U:Reg:=xA (wB (e 6)) fun a=>xA (wE .lss a (.int .i64 0)) fun b=>xC (e.upd 21 b)
def c3V:Reg:=xA (wB (.int .i64 (-1))) fun a=>xC (e.upd 4 a)
def c3W:Reg:=xA (wB (e 0)) fun a=>xA (wJ a) fun b=>xA (wC 4 b) fun c=>xA (wA none c) fun d=>xA (wL d) fun f=>xA (wB f) fun g=>xC (e.upd 7 g)
def c3X:Reg:=xA (wB (e 0)) fun a=>xA (wJ a) fun b=>xA (wC 0 b) fun c=>xA (wA none c) fun d=>xA (wB (e 6)) fun f=>xA (wD 178 [d,f]) fun g=>xC e
def c3Y:Reg:=xA (wB (e 0)) fun a=>xA (wJ a) fun b=>xA (wC 4 b) fun c=>xA (wA none c) fun d=>xA (wB (e 5)) fun f=>xA (wI 1 d f) fun g=>xA (wF 1 g (.int .i32 0)) fun _=>xC e
def c3Z:Reg:=xA (wB (e 5)) fun a=>xA (wE .add a (.int .i64 1)) fun b=>xA (wB (e 7)) fun c=>xA (wE .rem b c) fun d=>xA (wB d) fun f=>xC (e.upd 8 f)
def b3I:Reg:=xA (wB (e 0)) fun a=>xA (wJ a) fun b=>xA (wC 4 b) fun c=>xA (wA none c) fun d=>xA (wB (e 8)) fun f=>xA (wI 1 d f) fun g=>xA (wA none g) fun i=>xA (wE .gtr i (.int .i32 0)) fun j=>xC (e.upd 50 j)
def a4v(a:Value):Reg:=xA (wG a 0) fun b=>xA (wG a 1) fun c=>xA (wB b) fun d=>xA (wB c) fun f=>xC ((e.upd 9 d).upd 10 f)
def a4u(a b:Value):Reg:=xA (wB (e 8)) fun c=>xA (wI 1 b c) fun d=>xA (wA none d) fun f=>xA (wO .i64 f) fun g=>xA (wE .sub g (.int .i64 1)) fun i=>xD fun h13=>xA (wD 166 [a,i]) fun j=>xA (wB j) fun k=>a4v e k
def b3K:Reg:=xA (wB (e 0)) fun a=>xA (wJ a) fun b=>xA (wC 0 b) fun c=>xA (wA none c) fun d=>xA (wB (e 0)) fun f=>xA (wJ f) fun g=>xA (wC 4 g) fun i=>xA (wA none i) fun j=>a4u e d j
def b3L:Reg:=xA (wB (e 0)) fun a=>xA (wB (e 9)) fun b=>xA (wD 175 [a,b]) fun c=>xA (wB c) fun d=>xC (e.upd 11 d)
def a4w(a b:Value):Reg:=xA (wB (e 5)) fun c=>xA (wE .sub b c) fun d=>xA (wB (e 7)) fun f=>xA (wE .add d f) fun g=>xA (wB (e 7)) fun i=>xA (wE .rem g i) fun j=>xA (wE .lss a j) fun k=>xC (e.upd 89 k)
def b3M:Reg:=xA (wB (e 8)) fun a=>xA (wB (e 11)) fun b=>xA (wE .sub a b) fun c=>xA (wB (e 7)) fun d=>xA (wE .add c d) fun f=>xA (wB (e 7)) fun g=>xA (wE .rem f g) fun i=>xA (wB (e 8)) fun j=>a4w e i j
def a4y(a b c d f:Value):Reg:=xA (wA none f) fun g=>xA (wI 1 a b) fun i=>xD fun h18=>xA (wF 1 i g) fun _=>xA (wI 1 c d) fun j=>xD fun h20=>xA (wF 1 j (.int .i32 0)) fun _=>xC e
def a4x(a b c:Value):Reg:=xA (wA none c) fun d=>xA (wB (e 8)) fun f=>xA (wB (e 0)) fun g=>xA (wJ g) fun i=>xA (wC 4 i) fun j=>xA (wA none j) fun k=>xA (wB (e 8)) fun m=>xA (wI 1 k m) fun n=>a4y e a b d f n
def b3N:Reg:=xA (wB (e 0)) fun a=>xA (wJ a) fun b=>xA (wC 4 b) fun c=>xA (wA none c) fun d=>xA (wB (e 5)) fun f=>xA (wB (e 0)) fun g=>xA (wJ g) fun i=>xA (wC 4 i) fun j=>a4x e d f j
def b3O:Reg:=xA (wB (e 8)) fun a=>xA (wB a) fun b=>xC (e.upd 5 b)
def b3J:Reg:=xA (wB (e 8)) fun a=>xA (wE .add a (.int .i64 1)) fun b=>xA (wB (e 7)) fun c=>xA (wE .rem b c) fun d=>xA (wB d) fun f=>xC (e.upd 8 f)
def a1E:CC:=(xF (xF (xG b3I) (.cond (fun e=>e 50) .skip (.exit 0))) (xF (.block 1 (xF (xG b3K) (xF (xG b3L) (xF (xF (xG b3M) (.cond (fun e=>e 89) (.exit 1) .skip)) (xF (xG b3N) (xG b3O)))))) (xG b3J)))
def b3P:Reg:=xA (wB (e 6)) fun a=>xA (wB a) fun b=>xC (e.upd 4 b)
def b5R:=an (ro c3Q.eq_1)<|an (ro c3R.eq_1)<|an (ro c3S.eq_1)<|an (ro c3T.eq_1)<|an (ro c3U.eq_1)<|an (ro c3V.eq_1)<|an (ro c3W.eq_1)<|an (ro c3X.eq_1)<|an (ro c3Y.eq_1)<|an (ro c3Z.eq_1)<|an (ro b3I.eq_1)<|an (ro1 a4v.eq_1)<|an (O5 a4u.eq_1)<|an (ro b3K.eq_1)<|an (ro b3L.eq_1)<|an (O5 a4w.eq_1)<|an (ro b3M.eq_1)<|an (ro5 a4y.eq_1)<|an (W2 a4x.eq_1)<|an (ro b3N.eq_1)<|an (ro b3O.eq_1)<|an (ro b3J.eq_1)<|ro b3P.eq_1
def a8O:CFn:=⟨(xF (xG c3Q) (xF (xF (xG c3R) (.cond (fun e=>e 13) (xF (xG c3S) .ret) .skip)) (xF (xG c3T) (xF (xF (xG c3U) (.cond (fun e=>e 21) (xF (xG c3V) .ret) .skip)) (xF (xG c3W) (xF (xG c3X) (xF (xG c3Y) (xF .skip (xF (xF (xG c3Z) (.block 0 (.loop a1E))) (xF (xG b3P) .ret)))))))))),[.t 4]⟩
def e9h:Pers:=⟨12,[13,21,50,89],111,[]⟩
def c4a:Reg:=xA (wB (.int .i64 0)) fun a=>xC (e.upd 4 a)
def a6V(a b:Value):Reg:=xA (wK a (.bool true) b) fun c=>xA (wB c) fun d=>xB d false (wB (e 1)) fun f=>xB d false (.lenStr f) fun g=>xB d false (wE .gtr g (.int .i64 64)) fun i=>xA (wK d (.bool true) i) fun j=>xC (e.upd 19 j)
def c4b:Reg:=xA (wB (e 0)) fun a=>xA (.eqK .ptr false a (.pointer none)) fun b=>xA (wB b) fun c=>xB c false (wB (e 0)) fun d=>xB c false (wJ d) fun f=>xB c false (wC 3 f) fun g=>xB c false (wA none g) fun i=>xB c false (wE .lss i (.int .i32 0)) fun j=>a6V e c j
def c4c:Reg:=xA (wB (.int .i64 (-1))) fun a=>xC (e.upd 4 a)
def c4d:Reg:=xA (wB (e 0)) fun a=>xA (wJ a) fun b=>xA (wC 3 b) fun c=>xA (wA none c) fun d=>xA (wO .i64 d) fun f=>xA (wB f) fun g=>xC (e.upd 5 g)
def a6W(a b:Value):Reg:=xA (wJ a) fun c=>xA (wC 3 c) fun d=>xA (wF 1 d b) fun _=>xC e
def c4e:Reg:=xA (wB (e 0)) fun a=>xA (wB (e 0)) fun b=>xA (wJ b) fun c=>xA (wC 2 c) fun d=>xA (wA none d) fun f=>xA (wB (e 5)) fun g=>xA (wI 1 f g) fun i=>xA (wA none i) fun j=>a6W e a j
def c4f:Reg:=xA (wB (e 0)) fun a=>xA (wJ a) fun b=>xA (wC 0 b) fun c=>xA (wA none c) fun d=>xA (wB (e 5)) fun f=>xA (wE .mul f (.int .i64 64)) fun g=>xA (.slice 5 1 d (some g) none) fun i=>xA (wB (e 1)) fun j=>xA (.copy 1 i j) fun k=>xC e
def c4g:Reg:=xA (wB (e 0)) fun a=>xA (wJ a) fun b=>xA (wC 1 b) fun c=>xA (wA none c) fun d=>xA (wB (e 5)) fun f=>xA (wB (e 1)) fun g=>xA (.lenStr g) fun i=>xA (wO .i8 i) fun j=>xA (wI 1 d f) fun k=>xA (wF 1 k j) fun _=>xC e
def c4h:Reg:=xA (wB (e 0)) fun a=>xA (wJ a) fun b=>xA (wC 4 b) fun c=>xA (wA none c) fun d=>xA (wE .add d (.int .i64 1)) fun f=>xA (wJ a) fun g=>xA (wC 4 g) fun i=>xA (wF 1 i f) fun _=>xC e
def c4i:Reg:=xA (wB (e 5)) fun a=>xA (wB a) fun b=>xC (e.upd 4 b)
def e9Y:=an (ro c4a.eq_1)<|an (O5 a6V.eq_1)<|an (ro c4b.eq_1)<|an (ro c4c.eq_1)<|an (ro c4d.eq_1)<|an (O5 a6W.eq_1)<|an (ro c4e.eq_1)<|an (ro c4f.eq_1)<|an (ro c4g.eq_1)<|an (ro c4h.eq_1)<|ro c4i.eq_1
def e1i:CFn:=⟨(xF (xG c4a) (xF (xF (xG c4b) (.cond (fun e=>e 19) (xF (xG c4c) .ret) .skip)) (xF (xG c4d) (xF (xG c4e) (xF (xG c4f) (xF (xG c4g) (xF (xG c4h) (xF (xG c4i) .ret)))))))),[.t 4]⟩
def e9i:Pers:=⟨6,[19],61,[]⟩
def c4j:Reg:=xA (wB (.int .i64 0)) fun a=>xA (wB (.int .i64 0)) fun b=>xA (wB (.bool false)) fun c=>xC (((e.upd 4 a).upd 5 b).upd 6 c)
def c4k:Reg:=xA (wB (e 0)) fun a=>xA (.eqK .ptr false a (.pointer none)) fun b=>xC (e.upd 9 b)
def c4l:Reg:=xA (wB (.int .i64 0)) fun a=>xA (wB (.int .i64 0)) fun b=>xA (wB (.bool false)) fun c=>xC (((e.upd 4 a).upd 5 b).upd 6 c)
def c4m:Reg:=xA (wB (e 0)) fun a=>xA (wJ a) fun b=>xA (wC 1 b) fun c=>xA (wA none c) fun d=>xA (wB (e 1)) fun f=>xA (wD 147 [d,f]) fun g=>xA (wB g) fun i=>xC (e.upd 7 i)
def c4n:Reg:=xA (wB (e 7)) fun a=>xA (wE .lss a (.int .i64 0)) fun b=>xC (e.upd 17 b)
def c4o:Reg:=xA (wB (.int .i64 0)) fun a=>xA (wB (.int .i64 0)) fun b=>xA (wB (.bool false)) fun c=>xC (((e.upd 4 a).upd 5 b).upd 6 c)
def a6X(a b:Value):Reg:=xA (wJ b) fun c=>xA (wC 3 c) fun d=>xA (wA none d) fun f=>xA (wB (e 7)) fun g=>xA (wI 1 f g) fun i=>xA (wA none i) fun j=>xA (wB a) fun k=>xA (wB j) fun m=>xA (wB (.bool true)) fun n=>xC (((e.upd 4 k).upd 5 m).upd 6 n)
def c4p:Reg:=xA (wB (e 0)) fun a=>xA (wJ a) fun b=>xA (wC 2 b) fun c=>xA (wA none c) fun d=>xA (wB (e 7)) fun f=>xA (wI 1 d f) fun g=>xA (wA none g) fun i=>xA (wB (e 0)) fun j=>a6X e i j
def e2V:=an (ro c4j.eq_1)<|an (ro c4k.eq_1)<|an (ro c4l.eq_1)<|an (ro c4m.eq_1)<|an (ro c4n.eq_1)<|an (ro c4o.eq_1)<|an (O5 a6X.eq_1)<|ro c4p.eq_1
def c8f:CFn:=⟨(xF (xG c4j) (xF (xF (xG c4k) (.cond (fun e=>e 9) (xF (xG c4l) .ret) .skip)) (xF (xG c4m) (xF (xF (xG c4n) (.cond (fun e=>e 17) (xF (xG c4o) .ret) .skip)) (xF (xG c4p) .ret))))),[.t 4,.t 5,.t 6]⟩
def e9j:Pers:=⟨8,[9,17],32,[]⟩
def c4q:Reg:=xA (wB (.int .i64 0)) fun a=>xC (e.upd 2 a)
def a6Y(a:Value)(h4:Heap)(b c:Value):Reg:=xB a false (wC 2 c) fun d=>xB a false (wA none d) fun f=>xE (some (a,false)) (some h4) (.load none d) f<|xB a false (wL f) fun g=>xB a false (wE .lss b g) fun i=>xA (wK a (.bool true) i) fun j=>xC (e.upd 14 j)
def c4r:Reg:=xA (wB (e 0)) fun a=>xA (.eqK .ptr false a (.pointer none)) fun b=>xA (wB b) fun c=>xB c false (wB (e 0)) fun d=>xD fun h4=>xB c false (wD 148 [d]) fun f=>xB c false (wB (e 0)) fun g=>xB c false (wJ g) fun i=>a6Y e c h4 f i
def c4s:Reg:=xA (wB (.int .i64 0)) fun a=>xC (e.upd 2 a)
def a7a(a b:Value):Reg:=xA (wI 1 a b) fun c=>xA (wA none c) fun d=>xA (wB d) fun f=>xC (e.upd 2 f)
def a6Z(a b:Value):Reg:=xA (wB (e 0)) fun c=>xA (wJ c) fun d=>xA (wC 2 d) fun f=>xA (wA none f) fun g=>xA (wL g) fun i=>xA (wE .sub i (.int .i64 1)) fun j=>xA (wI 1 b j) fun k=>xA (wA none k) fun m=>a7a e a m
def c4t:Reg:=xA (wB (e 0)) fun a=>xA (wJ a) fun b=>xA (wC 2 b) fun c=>xA (wA none c) fun d=>xA (wB (e 0)) fun f=>xA (wJ f) fun g=>xA (wC 4 g) fun i=>xA (wA none i) fun j=>a6Z e d j
def e4V:=an (ro c4q.eq_1)<|an (ro4 a6Y.eq_1)<|an (ro c4r.eq_1)<|an (ro c4s.eq_1)<|an (O5 a7a.eq_1)<|an (O5 a6Z.eq_1)<|ro c4t.eq_1
def d1x:CFn:=⟨(xF (xG c4q) (xF (xF (xG c4r) (.cond (fun e=>e 14) (xF (xG c4s) .ret) .skip)) (xF (xG c4t) .ret))),[.t 2]⟩
def e9k:Pers:=⟨3,[14],33,[]⟩
def c4u:Reg:=xA (wB (.pointer none)) fun a=>xC (e.upd 4 a)
def c4v:Reg:=xA (wB (e 1)) fun a=>xA (wE .lss a (.int .i64 0)) fun b=>xC (e.upd 7 b)
def c4w:Reg:=xA (wB (.pointer none)) fun a=>xC (e.upd 4 a)
def c4x:Reg:=xA (wB (e 1)) fun a=>xA (wB (e 0)) fun b=>xA (wJ b) fun c=>xA (wC 0 c) fun d=>xA (wA none d) fun f=>xA (wL f) fun g=>xA (wE .rem a g) fun i=>xA (wB i) fun j=>xC (e.upd 5 j)
def c4y:Reg:=xA (wB (e 0)) fun a=>xA (wJ a) fun b=>xA (wC 1 b) fun c=>xA (wA none c) fun d=>xA (wB (e 5)) fun f=>xA (wI 1 d f) fun g=>xA (wA none g) fun i=>xA (wB (e 1)) fun j=>xA (wE .add j (.int .i64 1)) fun k=>xA (wE .neq i k) fun m=>xC (e.upd 24 m)
def c4z:Reg:=xA (wB (.pointer none)) fun a=>xC (e.upd 4 a)
def c4A:Reg:=xA (wB (e 0)) fun a=>xA (wJ a) fun b=>xA (wC 0 b) fun c=>xA (wA none c) fun d=>xA (wB (e 5)) fun f=>xA (wI 1 d f) fun g=>xA (wA none g) fun i=>xA (wB i) fun j=>xC (e.upd 4 j)
def e2W:=an (ro c4u.eq_1)<|an (ro c4v.eq_1)<|an (ro c4w.eq_1)<|an (ro c4x.eq_1)<|an (ro c4y.eq_1)<|an (ro c4z.eq_1)<|ro c4A.eq_1
def c8g:CFn:=⟨(xF (xG c4u) (xF (xF (xG c4v) (.cond (fun e=>e 7) (xF (xG c4w) .ret) .skip)) (xF (xG c4x) (xF (xF (xG c4y) (.cond (fun e=>e 24) (xF (xG c4z) .ret) .skip)) (xF (xG c4A) .ret))))),[.t 4]⟩
def e9l:Pers:=⟨6,[7,24],32,[]⟩
def c4B:Reg:=xA (wB (.int .i64 0)) fun a=>xC (e.upd 4 a)
def c4C:Reg:=xA (wB (e 0)) fun a=>xA (.eqK .ptr false a (.pointer none)) fun b=>xC (e.upd 8 b)
def c4D:Reg:=xA (wB (.int .i64 0)) fun a=>xC (e.upd 4 a)
def c4E:Reg:=xA (wB (e 0)) fun a=>xA (wB (e 1)) fun b=>xA (wD 174 [a,.int .i64 0,b]) fun c=>xA (wJ c) fun d=>xA (wA none d) fun f=>xA (wB f) fun g=>xC (e.upd 5 g)
def c4F:Reg:=xA (wB (.int .i64 1)) fun a=>xC (e.upd 6 a)
def c4G:Reg:=xA (wB (e 6)) fun a=>xA (wB (e 0)) fun b=>xA (wJ b) fun c=>xA (wC 0 c) fun d=>xA (wA none d) fun f=>xA (wL f) fun g=>xA (wE .lss a g) fun i=>xC (e.upd 20 i)
def c4I:Reg:=xA (wB (e 5)) fun a=>xA (wB (e 0)) fun b=>xA (wB (e 6)) fun c=>xA (wB (e 1)) fun d=>xA (wD 174 [b,c,d]) fun f=>xA (wJ f) fun g=>xA (wA none g) fun i=>xA (.minmax false [a,i]) fun j=>xA (wB j) fun k=>xC (e.upd 5 k)
def c4H:Reg:=xA (wB (e 6)) fun a=>xA (wE .add a (.int .i64 1)) fun b=>xA (wB b) fun c=>xC (e.upd 6 c)
def a5l:CC:=(xF (xF (xG c4G) (.cond (fun e=>e 20) .skip (.exit 0))) (xF (.block 1 (xG c4I)) (xG c4H)))
def c4J:Reg:=xA (wB (e 5)) fun a=>xA (wB a) fun b=>xC (e.upd 4 b)
def c7L:=an (ro c4B.eq_1)<|an (ro c4C.eq_1)<|an (ro c4D.eq_1)<|an (ro c4E.eq_1)<|an (ro c4F.eq_1)<|an (ro c4G.eq_1)<|an (ro c4I.eq_1)<|an (ro c4H.eq_1)<|ro c4J.eq_1
def b1J:CFn:=⟨(xF (xG c4B) (xF (xF (xG c4C) (.cond (fun e=>e 8) (xF (xG c4D) .ret) .skip)) (xF (xG c4E) (xF (xF (xG c4F) (.block 0 (.loop a5l))) (xF (xG c4J) .ret))))),[.t 4]⟩
def e9m:Pers:=⟨7,[8,20],32,[]⟩
def c4K:Reg:=xA (wB (.int .i64 0)) fun a=>xC (e.upd 6 a)
def c4L:Reg:=xA (wB (e 0)) fun a=>xA (wJ a) fun b=>xA (wC 5 b) fun c=>xA (wA none c) fun d=>xA (wP .not d) fun f=>xC (e.upd 13 f)
def c4M:Reg:=xA (wB (e 1)) fun a=>xA (wB a) fun b=>xC (e.upd 6 b)
def a7c(a:Value):Reg:=xA (wB a) fun b=>xA (wG b 0) fun c=>xA (wG b 1) fun d=>xA (wB c) fun f=>xA (wB d) fun g=>xC ((e.upd 7 f).upd 8 g)
def a7b(a b:Value):Reg:=xA (wO .u64 b) fun c=>xA (wB (e 0)) fun d=>xA (wJ d) fun f=>xA (wC 2 f) fun g=>xA (wA none g) fun i=>xA (wO .u64 i) fun j=>xD fun h14=>xA (wD 179 [a,c,j]) fun k=>a7c e k
def c4N:Reg:=xA (wB (e 1)) fun a=>xA (wO .u64 a) fun b=>xA (wB (e 0)) fun c=>xA (wJ c) fun d=>xA (wC 2 d) fun f=>xA (wA none f) fun g=>xA (wB (e 2)) fun i=>xA (wE .sub g i) fun j=>a7b e b j
def c4O:Reg:=xA (wB (e 7)) fun a=>xA (wO .i64 a) fun b=>xA (wB b) fun c=>xC (e.upd 6 c)
def e4W:=an (ro c4K.eq_1)<|an (ro c4L.eq_1)<|an (ro c4M.eq_1)<|an (ro1 a7c.eq_1)<|an (O5 a7b.eq_1)<|an (ro c4N.eq_1)<|ro c4O.eq_1
def d1y:CFn:=⟨(xF (xG c4K) (xF (xF (xG c4L) (.cond (fun e=>e 13) (xF (xG c4M) .ret) .skip)) (xF (xG c4N) (xF (xG c4O) .ret)))),[.t 6]⟩
def e9n:Pers:=⟨9,[13],35,[]⟩
def c4P:Reg:=xA (wB (.pointer none)) fun a=>xC (e.upd 6 a)
def a7f(a b c d f g:Value):Reg:=xE none none (wA none c) d<|xE none none (wA none a) b<|xA (wE .add f g) fun i=>xA (wI 1 b i) fun j=>xA (wB j) fun k=>xC (e.upd 6 k)
def a7e(a b c d f g:Value):Reg:=xA (wA (some 3) g) fun i=>xA (wB (e 2)) fun j=>xA (wB (e 0)) fun k=>xA (wJ k) fun m=>xA (wC 1 m) fun n=>xA (wA none n) fun o=>xD fun h22=>xA (wD 180 [i,j,o]) fun p=>a7f e a b c d f p
def a7d(a b c d:Value):Reg:=xA (wA none d) fun f=>xA (wE .mul c f) fun g=>xA (wB (e 0)) fun i=>xA (wJ i) fun j=>xA (wC 0 j) fun k=>xA (wA none k) fun m=>xA (wB (e 1)) fun n=>xA (wI 3 m n) fun o=>a7e e a b d f g o
def c4Q:Reg:=xA (wB (e 0)) fun a=>xA (wJ a) fun b=>xA (wC 2 b) fun c=>xA (wA none c) fun d=>xA (wB (e 1)) fun f=>xA (wB (e 0)) fun g=>xA (wJ g) fun i=>xA (wC 1 i) fun j=>a7d e c d f j
def e9Z:=an (ro c4P.eq_1)<|an (ro6 a7f.eq_1)<|an (ro6 a7e.eq_1)<|an (ro4 a7d.eq_1)<|ro c4Q.eq_1
def e1j:CFn:=⟨(xF (xG c4P) (xF (xG c4Q) .ret)),[.t 6]⟩
def e9o:Pers:=⟨7,[],32,[]⟩
def c4R:Reg:=xA (wB (.int .i64 0)) fun a=>xC (e.upd 4 a)
def a7g(a b c:Value):Reg:=xA (wA none c) fun d=>xA (wL d) fun f=>xD fun h10=>xA (wD 180 [a,b,f]) fun g=>xA (wB g) fun i=>xC (e.upd 4 i)
def c4S:Reg:=xA (wB (e 0)) fun a=>xA (wJ a) fun b=>xA (wC 1 b) fun c=>xA (wA (some 3) c) fun d=>xA (wB (e 1)) fun f=>xA (wB (e 0)) fun g=>xA (wJ g) fun i=>xA (wC 4 i) fun j=>a7g e d f j
def f0a:=an (ro c4R.eq_1)<|an (W2 a7g.eq_1)<|ro c4S.eq_1
def e1k:CFn:=⟨(xF (xG c4R) (xF (xG c4S) .ret)),[.t 4]⟩
def e9p:Pers:=⟨5,[],16,[]⟩
def c4T:Reg:=xA (wB (.bool false)) fun a=>xC (e.upd 6 a)
def a7j(a b:Value):Reg:=xB a true (wB (e 2)) fun c=>xB a true (wE .eql b c) fun d=>xA (wK a d (.bool false)) fun f=>xA (wB f) fun g=>xC (e.upd 6 g)
def a7i(a b c d f:Value):Reg:=xB a true (wA none f) fun g=>xB a true (wB (e 1)) fun i=>xB a true (wI 1 g i) fun j=>xB a true (wA none j) fun k=>xB a true (wO .i64 k) fun m=>xB a true (wE .add d m) fun n=>xB a true (.slice 5 1 b (some c) (some n)) fun o=>xB a true (.toStr o) fun p=>a7j e a p
def a7h(a b:Value):Reg:=xB a true (wA none b) fun c=>xB a true (wB (e 1)) fun d=>xB a true (wE .mul d (.int .i64 64)) fun f=>xB a true (wB (e 1)) fun g=>xB a true (wE .mul g (.int .i64 64)) fun i=>xB a true (wB (e 0)) fun j=>xB a true (wJ j) fun k=>xB a true (wC 1 k) fun m=>a7i e a c f i m
def c4U:Reg:=xA (wB (e 0)) fun a=>xA (wB (e 1)) fun b=>xD fun h2=>xA (wD 177 [a,b]) fun c=>xA (wB c) fun d=>xB d true (wB (e 0)) fun f=>xB d true (wJ f) fun g=>xB d true (wC 0 g) fun i=>a7h e d i
def f0b:=an (ro c4T.eq_1)<|an (O5 a7j.eq_1)<|an (ro5 a7i.eq_1)<|an (O5 a7h.eq_1)<|ro c4U.eq_1
def e1l:CFn:=⟨(xF (xG c4T) (xF (xG c4U) .ret)),[.t 6]⟩
def e9q:Pers:=⟨7,[],33,[]⟩
def c4V:Reg:=xA (wB (.bool false)) fun a=>xC (e.upd 4 a)
def a7l(a b:Value):Reg:=xB a true (wE .geq b (.int .i8 0)) fun c=>xA (wK a c (.bool false)) fun d=>xA (wB d) fun f=>xC (e.upd 4 f)
def a7k(a:Value):Reg:=xA (wB a) fun b=>xB b true (wB (e 0)) fun c=>xB b true (wJ c) fun d=>xB b true (wC 1 d) fun f=>xB b true (wA none f) fun g=>xB b true (wB (e 1)) fun i=>xB b true (wI 1 g i) fun j=>xB b true (wA none j) fun k=>a7l e b k
def c4W:Reg:=xA (wB (e 1)) fun a=>xA (wE .geq a (.int .i64 0)) fun b=>xA (wB b) fun c=>xB c true (wB (e 1)) fun d=>xB c true (wB (e 0)) fun f=>xB c true (wD 100 [f]) fun g=>xB c true (wE .lss d g) fun i=>xA (wK c i (.bool false)) fun j=>a7k e j
def e2X:=an (ro c4V.eq_1)<|an (O5 a7l.eq_1)<|an (ro1 a7k.eq_1)<|ro c4W.eq_1
def c8h:CFn:=⟨(xF (xG c4V) (xF (xG c4W) .ret)),[.t 4]⟩
def e9r:Pers:=⟨5,[],23,[]⟩
def c4X:Reg:=xA (wB (e 0)) fun a=>xA (wB (e 1)) fun b=>xA (wD 177 [a,b]) fun c=>xC (e.upd 6 c)
def a7n(a b c d:Value):Reg:=xA (wF 1 d (.int .i8 (-1))) fun _=>xA (wI 1 a b) fun f=>xD fun h17=>xA (wF 1 f c) fun _=>xC e
def a7m(a b c:Value):Reg:=xA (wA none c) fun d=>xA (wB (e 1)) fun f=>xA (wB (e 0)) fun g=>xA (wJ g) fun i=>xA (wC 3 i) fun j=>xA (wA none j) fun k=>xA (wI 1 a b) fun m=>xD fun h15=>a7n e d f k m
def c4Y:Reg:=xA (wB (e 0)) fun a=>xA (wJ a) fun b=>xA (wC 1 b) fun c=>xA (wA none c) fun d=>xA (wB (e 1)) fun f=>xA (wB (e 0)) fun g=>xA (wJ g) fun i=>xA (wC 2 i) fun j=>a7m e d f j
def c4Z:Reg:=xA (wB (e 0)) fun a=>xA (wB (e 1)) fun b=>xA (wO .i32 b) fun c=>xA (wJ a) fun d=>xA (wC 3 d) fun f=>xA (wF 1 f c) fun _=>xC e
def c5a:Reg:=xA (wB (e 0)) fun a=>xA (wJ a) fun b=>xA (wC 4 b) fun c=>xA (wA none c) fun d=>xA (wE .sub d (.int .i64 1)) fun f=>xA (wJ a) fun g=>xA (wC 4 g) fun i=>xA (wF 1 i f) fun _=>xC e
def f0c:=an (ro c4X.eq_1)<|an (ro4 a7n.eq_1)<|an (W2 a7m.eq_1)<|an (ro c4Y.eq_1)<|an (ro c4Z.eq_1)<|ro c5a.eq_1
def e1m:CFn:=⟨(xF (xG c4X) (.cond (fun e=>e 6) (xF (xG c4Y) (xF (xG c4Z) (xG c5a))) .skip)),[]⟩
def e9s:Pers:=⟨4,[6],35,[]⟩
def c5b:Reg:=xA (wB (.int .u64 0)) fun a=>xA (wB (.bool false)) fun b=>xC ((e.upd 6 a).upd 7 b)
def a7o(a b c:Value):Reg:=xA (wB a) fun d=>xA (wB b) fun f=>xA (wB c) fun g=>xC (((e.upd 8 d).upd 9 f).upd 10 g)
def c5c:Reg:=xA (wB (e 0)) fun a=>xA (wB (e 1)) fun b=>xA (wB (e 2)) fun c=>xA (wD 181 [a,b,c]) fun d=>xA (wB d) fun f=>xA (wG f 0) fun g=>xA (wG f 1) fun i=>xA (wG f 2) fun j=>a7o e g i j
def c5d:Reg:=xA (wB (e 10)) fun a=>xA (wP .not a) fun b=>xA (wB b) fun c=>xB c false (wB (e 9)) fun d=>xB c false (wE .gtr d (.int .u64 0)) fun f=>xB c false (wB f) fun g=>xB g true (wB (e 8)) fun i=>xB g true (wE .eql i (.int .u64 18446744073709551615)) fun j=>xB c false (wK g j (.bool false)) fun k=>xA (wK c (.bool true) k) fun m=>xC (e.upd 28 m)
def c5e:Reg:=xA (wB (.int .u64 0)) fun a=>xA (wB (.bool false)) fun b=>xC ((e.upd 6 a).upd 7 b)
def c5f:Reg:=xA (wB (e 9)) fun a=>xA (wE .gtr a (.int .u64 0)) fun b=>xC (e.upd 30 b)
def c5g:Reg:=xA (wB (e 8)) fun a=>xA (wE .add a (.int .u64 1)) fun b=>xA (wB b) fun c=>xC (e.upd 8 c)
def c5h:Reg:=xA (wB (e 8)) fun a=>xA (wB a) fun b=>xA (wB (.bool true)) fun c=>xC ((e.upd 6 b).upd 7 c)
def e4X:=an (ro c5b.eq_1)<|an (W2 a7o.eq_1)<|an (ro c5c.eq_1)<|an (ro c5d.eq_1)<|an (ro c5e.eq_1)<|an (ro c5f.eq_1)<|an (ro c5g.eq_1)<|ro c5h.eq_1
def d1z:CFn:=⟨(xF (xG c5b) (xF (xG c5c) (xF (xF (xG c5d) (.cond (fun e=>e 28) (xF (xG c5e) .ret) .skip)) (xF (xF (xG c5f) (.cond (fun e=>e 30) (xG c5g) .skip)) (xF (xG c5h) .ret))))),[.t 6,.t 7]⟩
def e9t:Pers:=⟨11,[28,30],34,[]⟩
def c5i:Reg:=xA (wN 182 (e 0)) fun a=>xA (wB (.int .i64 0)) fun b=>xC ((e.upd 3 a).upd 6 b)
def c5j:Reg:=xA (wA (some 3) (e 3)) fun a=>xA (wB (e 1)) fun b=>xA (wD 183 [a,b]) fun c=>xA (wB (e 2)) fun d=>xA (wD 182 [c,d]) fun f=>xA (wB f) fun g=>xC (e.upd 6 g)
def f0d:=an (ro c5i.eq_1)<|ro c5j.eq_1
def e1n:CFn:=⟨(xF (xG c5i) (xF (xG c5j) .ret)),[.t 6]⟩
def e9u:Pers:=⟨7,[],12,[]⟩
def c5k:Reg:=xA (wB (.int .u64 0)) fun a=>xA (wB (.int .u64 0)) fun b=>xA (wB (.bool false)) fun c=>xC (((e.upd 6 a).upd 7 b).upd 8 c)
def c5l:Reg:=xA (wB (e 0)) fun a=>xA (wB (e 1)) fun b=>xA (wD 85 [a,b]) fun c=>xA (wB c) fun d=>xA (wG d 0) fun f=>xA (wG d 1) fun g=>xA (wB f) fun i=>xA (wB g) fun j=>xC ((e.upd 9 i).upd 10 j)
def c5m:Reg:=xA (wB (e 2)) fun a=>xA (wE .eql a (.int .u64 0)) fun b=>xA (wB b) fun c=>xB c false (wB (e 9)) fun d=>xB c false (wB (e 2)) fun f=>xB c false (wE .geq d f) fun g=>xA (wK c (.bool true) g) fun i=>xC (e.upd 25 i)
def c5n:Reg:=xA (wB (.int .u64 0)) fun a=>xA (wB (.int .u64 0)) fun b=>xA (wB (.bool false)) fun c=>xC (((e.upd 6 a).upd 7 b).upd 8 c)
def c5o:Reg:=xA (wB (e 9)) fun a=>xA (wB (e 10)) fun b=>xA (wB (e 2)) fun c=>xA (wD 184 [a,b,c]) fun d=>xA (wB d) fun f=>xA (wG f 0) fun g=>xA (wG f 1) fun i=>xA (wB g) fun j=>xA (wB i) fun k=>xC ((e.upd 11 j).upd 12 k)
def c5p:Reg:=xA (wB (e 11)) fun a=>xA (wB (e 12)) fun b=>xA (wB a) fun c=>xA (wB b) fun d=>xA (wB (.bool true)) fun f=>xC (((e.upd 6 c).upd 7 d).upd 8 f)
def f0e:=an (ro c5k.eq_1)<|an (ro c5l.eq_1)<|an (ro c5m.eq_1)<|an (ro c5n.eq_1)<|an (ro c5o.eq_1)<|ro c5p.eq_1
def e1o:CFn:=⟨(xF (xG c5k) (xF (xG c5l) (xF (xF (xG c5m) (.cond (fun e=>e 25) (xF (xG c5n) .ret) .skip)) (xF (xG c5o) (xF (xG c5p) .ret))))),[.t 6,.t 7,.t 8]⟩
def e9v:Pers:=⟨13,[25],35,[]⟩
def c5q:Reg:=xA (wB (.int .i64 0)) fun a=>xC (e.upd 4 a)
def c5r:Reg:=xA (wB (e 1)) fun a=>xA (wE .lss a (.int .i64 1)) fun b=>xC (e.upd 8 b)
def c5s:Reg:=xA (wB (.int .i64 0)) fun a=>xC (e.upd 4 a)
def c5t:Reg:=xA (wB (e 0)) fun a=>xA (wB (e 1)) fun b=>xA (wO .u64 b) fun c=>xA (wD 185 [a,c,.int .u64 2305843009213693951]) fun d=>xA (wB d) fun f=>xA (wG f 0) fun g=>xA (wG f 1) fun i=>xA (wB g) fun j=>xA (wB i) fun k=>xC ((e.upd 5 j).upd 6 k)
def c5u:Reg:=xA (wB (e 5)) fun a=>xA (wO .i64 a) fun b=>xA (wB b) fun c=>xC (e.upd 4 c)
def f0f:=an (ro c5q.eq_1)<|an (ro c5r.eq_1)<|an (ro c5s.eq_1)<|an (ro c5t.eq_1)<|ro c5u.eq_1
def e1p:CFn:=⟨(xF (xG c5q) (xF (xF (xG c5r) (.cond (fun e=>e 8) (xF (xG c5s) .ret) .skip)) (xF (xG c5t) (xF (xG c5u) .ret)))),[.t 4]⟩
def e9w:Pers:=⟨7,[8],18,[]⟩
def c5v:Reg:=xA (wN 182 (e 0)) fun a=>xA (wB (.int .u64 0)) fun b=>xC ((e.upd 2 a).upd 4 b)
def c5w:Reg:=xA (wB (e 1)) fun a=>xA (.lenStr a) fun b=>xA (wO .u64 b) fun c=>xA (wE .add c (.int .u64 1)) fun d=>xA (wB d) fun f=>xC (e.upd 5 f)
def c5x:Reg:=xA (wB (.int .i64 0)) fun a=>xC (e.upd 6 a)
def c5y:Reg:=xA (wB (e 6)) fun a=>xA (wB (e 1)) fun b=>xA (.lenStr b) fun c=>xA (wE .lss a c) fun d=>xC (e.upd 14 d)
def a7p(a b c d:Value):Reg:=xA (wE .add d (.int .i64 7)) fun f=>xA (wB (e 1)) fun g=>xA (.lenStr g) fun i=>xA (.minmax false [f,i]) fun j=>xA (.sliceStr b (some c) (some j)) fun k=>xD fun h12=>xA (wD 188 [k]) fun m=>xD fun h13=>xA (wD 186 [a,m]) fun n=>xA (wB n) fun o=>xC (e.upd 5 o)
def c5A:Reg:=xA (wB (e 5)) fun a=>xA (wC 0 (e 2)) fun b=>xA (wA none b) fun c=>xD fun h3=>xA (wD 187 [a,c]) fun d=>xA (wB (e 1)) fun f=>xA (wB (e 6)) fun g=>xA (wB (e 6)) fun i=>a7p e d f g i
def c5z:Reg:=xA (wB (e 6)) fun a=>xA (wE .add a (.int .i64 7)) fun b=>xA (wB b) fun c=>xC (e.upd 6 c)
def a5m:CC:=(xF (xF (xG c5y) (.cond (fun e=>e 14) .skip (.exit 0))) (xF (.block 1 (xG c5A)) (xG c5z)))
def a7q(a b:Value):Reg:=xD fun h6=>xA (wD 186 [a,b]) fun c=>xA (wB c) fun d=>xC (e.upd 4 d)
def c5B:Reg:=xA (wB (e 5)) fun a=>xA (wC 1 (e 2)) fun b=>xA (wA none b) fun c=>xD fun h3=>xA (wD 187 [a,c]) fun d=>xA (wC 2 (e 2)) fun f=>xA (wA none f) fun g=>xE none (some h3) (wA none f) g<|a7q e d g
def e0M:=an (ro c5v.eq_1)<|an (ro c5w.eq_1)<|an (ro c5x.eq_1)<|an (ro c5y.eq_1)<|an (ro4 a7p.eq_1)<|an (ro c5A.eq_1)<|an (ro c5z.eq_1)<|an (O5 a7q.eq_1)<|ro c5B.eq_1
def b6k:CFn:=⟨(xF (xG c5v) (xF (xG c5w) (xF (xF (xG c5x) (.block 0 (.loop a5m))) (xF (xG c5B) .ret)))),[.t 4]⟩
def e9x:Pers:=⟨7,[14],38,[]⟩
def c5C:Reg:=xA (wB (.int .u64 0)) fun a=>xA (wB (.int .u64 0)) fun b=>xC ((e.upd 6 a).upd 7 b)
def c5D:Reg:=xA (wB (e 2)) fun a=>xA (wE .eql a (.int .u64 0)) fun b=>xC (e.upd 20 b)
def c5E:Reg:=xA (wA none unk) fun a=>xA (.bad) fun _=>xC e
def c5F:Reg:=xA (wB (e 2)) fun a=>xA (wB (e 0)) fun b=>xA (wE .leq a b) fun c=>xC (e.upd 24 c)
def c5G:Reg:=xA (wA none unk) fun a=>xA (.bad) fun _=>xC e
def c5H:Reg:=xA (wB (e 0)) fun a=>xA (wE .eql a (.int .u64 0)) fun b=>xC (e.upd 27 b)
def c5I:Reg:=xA (wB (e 1)) fun a=>xA (wB (e 2)) fun b=>xA (wE .quo a b) fun c=>xA (wB (e 1)) fun d=>xA (wB (e 2)) fun f=>xA (wE .rem d f) fun g=>xA (wB c) fun i=>xA (wB g) fun j=>xC ((e.upd 6 i).upd 7 j)
def c5J:Reg:=xA (wB (e 2)) fun a=>xA (wD 189 [a]) fun b=>xA (wO .u64 b) fun c=>xA (wB c) fun d=>xC (e.upd 8 d)
def c5K:Reg:=xA (wB (e 2)) fun a=>xA (wB (e 8)) fun b=>xA (wE .shl a b) fun c=>xA (wB c) fun d=>xC (e.upd 2 d)
def c5L:Reg:=xA (wB (e 2)) fun a=>xA (wE .shr a (.int .u64 32)) fun b=>xA (wB b) fun c=>xC (e.upd 9 c)
def b3Q:Reg:=xA (wB (e 2)) fun a=>xA (wE .and a (.int .u64 4294967295)) fun b=>xA (wB b) fun c=>xC (e.upd 10 c)
def b3R:Reg:=xA (wB (e 0)) fun a=>xA (wB (e 8)) fun b=>xA (wE .shl a b) fun c=>xA (wB (e 1)) fun d=>xA (wB (e 8)) fun f=>xA (wE .sub (.int .u64 64) f) fun g=>xA (wE .shr d g) fun i=>xA (wE .or c i) fun j=>xA (wB j) fun k=>xC (e.upd 11 k)
def b3S:Reg:=xA (wB (e 1)) fun a=>xA (wB (e 8)) fun b=>xA (wE .shl a b) fun c=>xA (wB c) fun d=>xC (e.upd 12 d)
def b3T:Reg:=xA (wB (e 12)) fun a=>xA (wE .shr a (.int .u64 32)) fun b=>xA (wB b) fun c=>xC (e.upd 13 c)
def b3U:Reg:=xA (wB (e 12)) fun a=>xA (wE .and a (.int .u64 4294967295)) fun b=>xA (wB b) fun c=>xC (e.upd 14 c)
def b3V:Reg:=xA (wB (e 11)) fun a=>xA (wB (e 9)) fun b=>xA (wE .quo a b) fun c=>xA (wB c) fun d=>xC (e.upd 15 d)
def b3W:Reg:=xA (wB (e 11)) fun a=>xA (wB (e 15)) fun b=>xA (wB (e 9)) fun c=>xA (wE .mul b c) fun d=>xA (wE .sub a d) fun f=>xA (wB f) fun g=>xC (e.upd 16 g)
def a4z(a b c:Value):Reg:=xB a false (wB (e 13)) fun d=>xB a false (wE .add c d) fun f=>xB a false (wE .gtr b f) fun g=>xA (wK a (.bool true) g) fun i=>xC (e.upd 78 i)
def b3X:Reg:=xA (wB (e 15)) fun a=>xA (wE .geq a (.int .u64 4294967296)) fun b=>xA (wB b) fun c=>xB c false (wB (e 15)) fun d=>xB c false (wB (e 10)) fun f=>xB c false (wE .mul d f) fun g=>xB c false (wB (e 16)) fun i=>xB c false (wE .mul (.int .u64 4294967296) i) fun j=>a4z e c g j
def b3Y:Reg:=xA (wB (e 15)) fun a=>xA (wE .sub a (.int .u64 1)) fun b=>xA (wB b) fun c=>xC (e.upd 15 c)
def b3Z:Reg:=xA (wB (e 16)) fun a=>xA (wB (e 9)) fun b=>xA (wE .add a b) fun c=>xA (wB c) fun d=>xC (e.upd 16 d)
def b4a:Reg:=xA (wB (e 16)) fun a=>xA (wE .geq a (.int .u64 4294967296)) fun b=>xC (e.upd 85 b)
def a0y:CC:=(xF (xF (xG b3X) (.cond (fun e=>e 78) .skip (.exit 0))) (.block 1 (xF (xG b3Y) (xF (xG b3Z) (xF (xG b4a) (.cond (fun e=>e 85) (.exit 0) .skip))))))
def b4b:Reg:=xA (wB (e 11)) fun a=>xA (wE .mul a (.int .u64 4294967296)) fun b=>xA (wB (e 13)) fun c=>xA (wE .add b c) fun d=>xA (wB (e 15)) fun f=>xA (wB (e 2)) fun g=>xA (wE .mul f g) fun i=>xA (wE .sub d i) fun j=>xA (wB j) fun k=>xC (e.upd 17 k)
def b4c:Reg:=xA (wB (e 17)) fun a=>xA (wB (e 9)) fun b=>xA (wE .quo a b) fun c=>xA (wB c) fun d=>xC (e.upd 18 d)
def b4d:Reg:=xA (wB (e 17)) fun a=>xA (wB (e 18)) fun b=>xA (wB (e 9)) fun c=>xA (wE .mul b c) fun d=>xA (wE .sub a d) fun f=>xA (wB f) fun g=>xC (e.upd 16 g)
def a4A(a b c:Value):Reg:=xB a false (wB (e 14)) fun d=>xB a false (wE .add c d) fun f=>xB a false (wE .gtr b f) fun g=>xA (wK a (.bool true) g) fun i=>xC (e.upd 113 i)
def b4e:Reg:=xA (wB (e 18)) fun a=>xA (wE .geq a (.int .u64 4294967296)) fun b=>xA (wB b) fun c=>xB c false (wB (e 18)) fun d=>xB c false (wB (e 10)) fun f=>xB c false (wE .mul d f) fun g=>xB c false (wB (e 16)) fun i=>xB c false (wE .mul (.int .u64 4294967296) i) fun j=>a4A e c g j
def b4f:Reg:=xA (wB (e 18)) fun a=>xA (wE .sub a (.int .u64 1)) fun b=>xA (wB b) fun c=>xC (e.upd 18 c)
def b4h:Reg:=xA (wB (e 16)) fun a=>xA (wB (e 9)) fun b=>xA (wE .add a b) fun c=>xA (wB c) fun d=>xC (e.upd 16 d)
def b4i:Reg:=xA (wB (e 16)) fun a=>xA (wE .geq a (.int .u64 4294967296)) fun b=>xC (e.upd 120 b)
def a0z:CC:=(xF (xF (xG b4e) (.cond (fun e=>e 113) .skip (.exit 2))) (.block 3 (xF (xG b4f) (xF (xG b4h) (xF (xG b4i) (.cond (fun e=>e 120) (.exit 2) .skip))))))
def a4B(a b:Value):Reg:=xA (wB (e 18)) fun c=>xA (wB (e 2)) fun d=>xA (wE .mul c d) fun f=>xA (wE .sub b f) fun g=>xA (wB (e 8)) fun i=>xA (wE .shr g i) fun j=>xA (wB a) fun k=>xA (wB j) fun m=>xC ((e.upd 6 k).upd 7 m)
def b4j:Reg:=xA (wB (e 15)) fun a=>xA (wE .mul a (.int .u64 4294967296)) fun b=>xA (wB (e 18)) fun c=>xA (wE .add b c) fun d=>xA (wB (e 17)) fun f=>xA (wE .mul f (.int .u64 4294967296)) fun g=>xA (wB (e 14)) fun i=>xA (wE .add g i) fun j=>a4B e d j
def a2H:=an (ro c5C.eq_1)<|an (ro c5D.eq_1)<|an (ro c5E.eq_1)<|an (ro c5F.eq_1)<|an (ro c5G.eq_1)<|an (ro c5H.eq_1)<|an (ro c5I.eq_1)<|an (ro c5J.eq_1)<|an (ro c5K.eq_1)<|an (ro c5L.eq_1)<|an (ro b3Q.eq_1)<|an (ro b3R.eq_1)<|an (ro b3S.eq_1)<|an (ro b3T.eq_1)<|an (ro b3U.eq_1)<|an (ro b3V.eq_1)<|an (ro b3W.eq_1)<|an (W2 a4z.eq_1)<|an (ro b3X.eq_1)<|an (ro b3Y.eq_1)<|an (ro b3Z.eq_1)<|an (ro b4a.eq_1)<|an (ro b4b.eq_1)<|an (ro b4c.eq_1)<|an (ro b4d.eq_1)<|an (W2 a4A.eq_1)<|an (ro b4e.eq_1)<|an (ro b4f.eq_1)<|an (ro b4h.eq_1)<|an (ro b4i.eq_1)<|an (O5 a4B.eq_1)<|ro b4j.eq_1
def a1e:CFn:=⟨(xF (xG c5C) (xF (xF (xG c5D) (.cond (fun e=>e 20) (xG c5E) .skip)) (xF (xF (xG c5F) (.cond (fun e=>e 24) (xG c5G) .skip)) (xF (xF (xG c5H) (.cond (fun e=>e 27) (xF (xG c5I) .ret) .skip)) (xF (xG c5J) (xF (xG c5K) (xF (xG c5L) (xF (xG b3Q) (xF (xG b3R) (xF (xG b3S) (xF (xG b3T) (xF (xG b3U) (xF (xG b3V) (xF (xG b3W) (xF (.block 0 (.loop a0y)) (xF (xG b4b) (xF (xG b4c) (xF (xG b4d) (xF (.block 2 (.loop a0z)) (xF (xG b4j) .ret)))))))))))))))))))),[.t 6,.t 7]⟩
def e9y:Pers:=⟨19,[20,24,27,78,85,113,120],135,[]⟩
def c5M:Reg:=xA (wB (.int .u64 0)) fun a=>xA (wB (.bool false)) fun b=>xC ((e.upd 6 a).upd 7 b)
def a7r(a b c:Value):Reg:=xA (wB a) fun d=>xA (wB b) fun f=>xA (wB c) fun g=>xC (((e.upd 8 d).upd 9 f).upd 10 g)
def c5N:Reg:=xA (wB (e 0)) fun a=>xA (wB (e 1)) fun b=>xA (wB (e 2)) fun c=>xA (wD 181 [a,b,c]) fun d=>xA (wB d) fun f=>xA (wG f 0) fun g=>xA (wG f 1) fun i=>xA (wG f 2) fun j=>a7r e g i j
def c5O:Reg:=xA (wB (e 8)) fun a=>xA (wB (e 10)) fun b=>xA (wB a) fun c=>xA (wB b) fun d=>xC ((e.upd 6 c).upd 7 d)
def f0g:=an (ro c5M.eq_1)<|an (W2 a7r.eq_1)<|an (ro c5N.eq_1)<|ro c5O.eq_1
def e1q:CFn:=⟨(xF (xG c5M) (xF (xG c5N) (xF (xG c5O) .ret))),[.t 6,.t 7]⟩
def e9z:Pers:=⟨11,[],21,[]⟩
def c5P:Reg:=xA (wB (.int .u64 0)) fun a=>xC (e.upd 4 a)
def c5Q:Reg:=xA (wB (e 0)) fun a=>xA (wB (e 1)) fun b=>xA (wE .add a b) fun c=>xA (wD 90 [c]) fun d=>xA (wB d) fun f=>xC (e.upd 4 f)
def f0h:=an (ro c5P.eq_1)<|ro c5Q.eq_1
def e1r:CFn:=⟨(xF (xG c5P) (xF (xG c5Q) .ret)),[.t 4]⟩
def e9A:Pers:=⟨5,[],9,[]⟩
def c5R:Reg:=xA (wB (.int .u64 0)) fun a=>xC (e.upd 4 a)
def c5S:Reg:=xA (wB (e 0)) fun a=>xA (wB (e 1)) fun b=>xA (wD 85 [a,b]) fun c=>xA (wB c) fun d=>xA (wG d 0) fun f=>xA (wG d 1) fun g=>xA (wB f) fun i=>xA (wB g) fun j=>xC ((e.upd 5 i).upd 6 j)
def a7s(a b:Value):Reg:=xA (wE .rem b (.int .u64 2305843009213693951)) fun c=>xA (wD 186 [a,c]) fun d=>xA (wB d) fun f=>xC (e.upd 4 f)
def c5T:Reg:=xA (wB (e 5)) fun a=>xA (wE .shl a (.int .u64 3)) fun b=>xA (wB (e 6)) fun c=>xA (wE .shr c (.int .u64 61)) fun d=>xA (wE .or b d) fun f=>xA (wD 90 [f]) fun g=>xA (wB (e 6)) fun i=>xA (wE .and i (.int .u64 2305843009213693951)) fun j=>a7s e g j
def f0i:=an (ro c5R.eq_1)<|an (ro c5S.eq_1)<|an (O5 a7s.eq_1)<|ro c5T.eq_1
def e1s:CFn:=⟨(xF (xG c5R) (xF (xG c5S) (xF (xG c5T) .ret))),[.t 4]⟩
def e9B:Pers:=⟨7,[],23,[]⟩
def c5U:Reg:=xA (wB (.int .u64 0)) fun a=>xC (e.upd 2 a)
def c5V:Reg:=xA (wB (.int .u64 0)) fun a=>xC (e.upd 3 a)
def c5W:Reg:=xA (wB (e 0)) fun a=>xA (.lenStr a) fun b=>xA (wB (.int .i64 0)) fun c=>xC ((e.upd 6 b).upd 7 c)
def c5X:Reg:=xA (wE .lss (e 7) (e 6)) fun a=>xC (e.upd 8 a)
def c5Y:Reg:=xA (wB (e 7)) fun a=>xA (wB a) fun b=>xC (e.upd 4 b)
def c5Z:Reg:=xA (wB (e 3)) fun a=>xA (wE .shl a (.int .u64 8)) fun b=>xA (wB (e 0)) fun c=>xA (wB (e 4)) fun d=>xA (.indexStr c d) fun f=>xA (wO .u64 f) fun g=>xA (wE .or b g) fun i=>xA (wB i) fun j=>xC (e.upd 3 j)
def c6a:Reg:=xA (wE .add (e 7) (.int .i64 1)) fun a=>xA (wB a) fun b=>xC (e.upd 7 b)
def a5n:CC:=(xF (xG c5X) (xF (.cond (fun e=>e 8) .skip (.exit 0)) (xF (.block 1 (xF (xG c5Y) (xG c5Z))) (xG c6a))))
def c6b:Reg:=xA (wB (e 3)) fun a=>xA (wB a) fun b=>xC (e.upd 2 b)
def e0N:=an (ro c5U.eq_1)<|an (ro c5V.eq_1)<|an (ro c5W.eq_1)<|an (ro c5X.eq_1)<|an (ro c5Y.eq_1)<|an (ro c5Z.eq_1)<|an (ro c6a.eq_1)<|ro c6b.eq_1
def b6m:CFn:=⟨(xF (xG c5U) (xF (xG c5V) (xF (xF (xG c5W) (.block 0 (.loop a5n))) (xF (xG c6b) .ret)))),[.t 2]⟩
def e9C:Pers:=⟨5,[6,7,8],19,[]⟩
def c6c:Reg:=xA (wB (.int .i64 0)) fun a=>xC (e.upd 2 a)
def c6d:Reg:=xA (wB (e 0)) fun a=>xA (wD 190 [a]) fun b=>xA (wE .sub (.int .i64 64) b) fun c=>xA (wB c) fun d=>xC (e.upd 2 d)
def f0j:=an (ro c6c.eq_1)<|ro c6d.eq_1
def e1t:CFn:=⟨(xF (xG c6c) (xF (xG c6d) .ret)),[.t 2]⟩
def e9D:Pers:=⟨3,[],6,[]⟩
def c6e:Reg:=xA (wB (.int .i64 0)) fun a=>xC (e.upd 2 a)
def c6f:Reg:=xA (wB (e 0)) fun a=>xA (wE .geq a (.int .u64 4294967296)) fun b=>xC (e.upd 4 b)
def c6g:Reg:=xA (wB (e 0)) fun a=>xA (wE .shr a (.int .u64 32)) fun b=>xA (wB b) fun c=>xC (e.upd 0 c)
def c6h:Reg:=xA (wB (.int .i64 32)) fun a=>xC (e.upd 2 a)
def c6i:Reg:=xA (wB (e 0)) fun a=>xA (wE .geq a (.int .u64 65536)) fun b=>xC (e.upd 8 b)
def c6j:Reg:=xA (wB (e 0)) fun a=>xA (wE .shr a (.int .u64 16)) fun b=>xA (wB b) fun c=>xC (e.upd 0 c)
def c6k:Reg:=xA (wB (e 2)) fun a=>xA (wE .add a (.int .i64 16)) fun b=>xA (wB b) fun c=>xC (e.upd 2 c)
def c6l:Reg:=xA (wB (e 0)) fun a=>xA (wE .geq a (.int .u64 256)) fun b=>xC (e.upd 14 b)
def c6m:Reg:=xA (wB (e 0)) fun a=>xA (wE .shr a (.int .u64 8)) fun b=>xA (wB b) fun c=>xC (e.upd 0 c)
def c6n:Reg:=xA (wB (e 2)) fun a=>xA (wE .add a (.int .i64 8)) fun b=>xA (wB b) fun c=>xC (e.upd 2 c)
def b4k:Reg:=xA (wB (e 2)) fun a=>xA (wB (e 0)) fun b=>xA (wO .u8 b) fun c=>xA (.indexStr (.string d0s) c) fun d=>xA (wO .i64 d) fun f=>xA (wE .add a f) fun g=>xA (wB g) fun i=>xC (e.upd 2 i)
def b2Q:=an (ro c6e.eq_1)<|an (ro c6f.eq_1)<|an (ro c6g.eq_1)<|an (ro c6h.eq_1)<|an (ro c6i.eq_1)<|an (ro c6j.eq_1)<|an (ro c6k.eq_1)<|an (ro c6l.eq_1)<|an (ro c6m.eq_1)<|an (ro c6n.eq_1)<|ro b4k.eq_1
def a7t:CFn:=⟨(xF (xG c6e) (xF (xF (xG c6f) (.cond (fun e=>e 4) (xF (xG c6g) (xG c6h)) .skip)) (xF (xF (xG c6i) (.cond (fun e=>e 8) (xF (xG c6j) (xG c6k)) .skip)) (xF (xF (xG c6l) (.cond (fun e=>e 14) (xF (xG c6m) (xG c6n)) .skip)) (xF (xG b4k) .ret))))),[.t 2]⟩
def e9E:Pers:=⟨3,[4,8,14],25,[]⟩
def cpF:FuncId->Option CFn
 |6=>some c6
 |11=>some c11
 |12=>some c12
 |13=>some c13
 |14=>some c14
 |15=>some c15
 |16=>some c16
 |20=>some c20
 |21=>some c21
 |25=>some c25
 |26=>some c26
 |27=>some c27
 |28=>some c28
 |30=>some c30
 |31=>some c31
 |32=>some c32
 |34=>some c34
 |35=>some c35
 |36=>some c36
 |38=>some c38
 |39=>some c39
 |40=>some c40
 |44=>some c44
 |45=>some c45
 |46=>some c46
 |47=>some c47
 |49=>some c49
 |50=>some c50
 |51=>some c51
 |52=>some c52
 |53=>some c53
 |54=>some c54
 |55=>some c55
 |56=>some c56
 |57=>some c57
 |58=>some c58
 |59=>some c59
 |60=>some c60
 |61=>some c61
 |62=>some c62
 |63=>some c63
 |64=>some c64
 |65=>some c65
 |66=>some c66
 |70=>some c70
 |71=>some c71
 |72=>some c72
 |73=>some c73
 |74=>some c74
 |75=>some c75
 |76=>some c76
 |77=>some c77
 |78=>some c78
 |79=>some c79
 |80=>some c80
 |81=>some c81
 |82=>some c82
 |83=>some c83
 |84=>some c84
 |85=>some c85
 |86=>some c86
 |87=>some c87
 |88=>some c88
 |89=>some c89
 |90=>some c90
 |91=>some c91
 |92=>some c92
 |93=>some c93
 |94=>some c94
 |95=>some c95
 |96=>some c96
 |97=>some c97
 |98=>some c98
 |99=>some c99
 |100=>some e0X
 |101=>some b3b
 |117=>some a0Q
 |118=>some d0x
 |119=>some d0y
 |120=>some U9
 |121=>some b6b
 |122=>some a8L
 |123=>some b3u
 |124=>some a5U
 |125=>some d0z
 |126=>some d0A
 |127=>some b3v
 |128=>some c8b
 |129=>some e0Y
 |130=>some b1C
 |131=>some a0l
 |132=>some b6c
 |133=>some b6d
 |134=>some b3y
 |135=>some d0L
 |136=>some b3z
 |137=>some a8M
 |138=>some e0Z
 |139=>some c8c
 |140=>some b1F
 |141=>some e1a
 |142=>some e1b
 |143=>some a8N
 |144=>some e1c
 |145=>some e1d
 |147=>some d0W
 |148=>some d0X
 |149=>some d0Y
 |150=>some c8d
 |151=>some b6h
 |152=>some a3v
 |153=>some d1g
 |154=>some c8e
 |155=>some d1h
 |156=>some e1e
 |157=>some b3F
 |158=>some e1f
 |159=>some e1g
 |160=>some b1H
 |161=>some e1h
 |162=>some b1I
 |163=>some c163
 |164=>some b3G
 |165=>some b3H
 |166=>some d1s
 |167=>some a8O
 |168=>some e1i
 |169=>some c8f
 |170=>some d1x
 |171=>some c8g
 |172=>some b1J
 |173=>some d1y
 |174=>some e1j
 |175=>some e1k
 |176=>some e1l
 |177=>some c8h
 |178=>some e1m
 |179=>some d1z
 |180=>some e1n
 |181=>some e1o
 |182=>some e1p
 |183=>some b6k
 |184=>some a1e
 |185=>some e1q
 |186=>some e1r
 |187=>some e1s
 |188=>some b6m
 |189=>some e1t
 |190=>some a7t
 |_=>none
def cp:CProg:=⟨cpF,none⟩
theorem f0l:cp 12=some c12:=rfl
theorem f0m:cp 13=some c13:=rfl
theorem f0n:cp 14=some c14:=rfl
theorem e4i:cp 15=some c15:=rfl
theorem f0o:cp 16=some c16:=rfl
theorem f0p:cp 20=some c20:=rfl
theorem f0q:cp 25=some c25:=rfl
theorem f0r:cp 26=some c26:=rfl
theorem f0s:cp 28=some c28:=rfl
theorem f0t:cp 30=some c30:=rfl
theorem f0u:cp 31=some c31:=rfl
theorem f0v:cp 32=some c32:=rfl
theorem f0w:cp 34=some c34:=rfl
theorem e4j:cp 35=some c35:=rfl
theorem f0x:cp 36=some c36:=rfl
theorem f0y:cp 38=some c38:=rfl
theorem f0z:cp 39=some c39:=rfl
theorem f0A:cp 40=some c40:=rfl
theorem e6C:cp 44=some c44:=rfl
theorem f0B:cp 45=some c45:=rfl
theorem f0C:cp 46=some c46:=rfl
theorem e6D:cp 49=some c49:=rfl
theorem f0D:cp 50=some c50:=rfl
theorem f0E:cp 51=some c51:=rfl
theorem f0F:cp 52=some c52:=rfl
theorem f0G:cp 53=some c53:=rfl
theorem f0H:cp 54=some c54:=rfl
theorem f0I:cp 55=some c55:=rfl
theorem f0J:cp 56=some c56:=rfl
theorem f0K:cp 57=some c57:=rfl
theorem f0L:cp 58=some c58:=rfl
theorem f0M:cp 59=some c59:=rfl
theorem f0N:cp 60=some c60:=rfl
theorem f0O:cp 61=some c61:=rfl
theorem f0P:cp 62=some c62:=rfl
theorem f0Q:cp 63=some c63:=rfl
theorem f0R:cp 64=some c64:=rfl
theorem f0S:cp 65=some c65:=rfl
theorem f0T:cp 66=some c66:=rfl
theorem f0U:cp 70=some c70:=rfl
theorem f0V:cp 71=some c71:=rfl
theorem f0W:cp 72=some c72:=rfl
theorem f0X:cp 73=some c73:=rfl
theorem e6E:cp 74=some c74:=rfl
theorem f0Y:cp 75=some c75:=rfl
theorem f0Z:cp 76=some c76:=rfl
theorem f1a:cp 77=some c77:=rfl
theorem f1b:cp 78=some c78:=rfl
theorem f1c:cp 79=some c79:=rfl
theorem f1d:cp 80=some c80:=rfl
theorem f1e:cp 81=some c81:=rfl
theorem f1f:cp 82=some c82:=rfl
theorem f1g:cp 83=some c83:=rfl
theorem f1h:cp 84=some c84:=rfl
theorem f1i:cp 85=some c85:=rfl
theorem f1j:cp 86=some c86:=rfl
theorem f1k:cp 87=some c87:=rfl
theorem f1l:cp 88=some c88:=rfl
theorem f1m:cp 89=some c89:=rfl
theorem f1n:cp 90=some c90:=rfl
theorem f1o:cp 91=some c91:=rfl
theorem f1p:cp 92=some c92:=rfl
theorem f1q:cp 93=some c93:=rfl
theorem f1r:cp 94=some c94:=rfl
theorem f1s:cp 95=some c95:=rfl
theorem f1t:cp 96=some c96:=rfl
theorem f1u:cp 97=some c97:=rfl
theorem f1v:cp 98=some c98:=rfl
theorem e6F:cp 99=some c99:=rfl
theorem e5m:cp 100=some e0X:=rfl
theorem e5n:cp 101=some b3b:=rfl
theorem c6U:cp 117=some a0Q:=rfl
theorem e5o:cp 118=some d0x:=rfl
theorem e5p:cp 119=some d0y:=rfl
theorem e2t:cp 120=some U9:=rfl
theorem e5q:cp 121=some b6b:=rfl
theorem e5r:cp 122=some a8L:=rfl
theorem e5s:cp 123=some b3u:=rfl
theorem e5t:cp 124=some a5U:=rfl
theorem e5u:cp 125=some d0z:=rfl
theorem e5v:cp 126=some d0A:=rfl
theorem e5w:cp 127=some b3v:=rfl
theorem e5x:cp 128=some c8b:=rfl
theorem e5y:cp 129=some e0Y:=rfl
theorem e5z:cp 130=some b1C:=rfl
theorem e5A:cp 131=some a0l:=rfl
theorem e2u:cp 132=some b6c:=rfl
theorem e5B:cp 133=some b6d:=rfl
theorem e5C:cp 134=some b3y:=rfl
theorem e5D:cp 135=some d0L:=rfl
theorem e5E:cp 136=some b3z:=rfl
theorem e5F:cp 137=some a8M:=rfl
theorem e5G:cp 138=some e0Z:=rfl
theorem e5H:cp 139=some c8c:=rfl
theorem e5I:cp 140=some b1F:=rfl
theorem e5J:cp 141=some e1a:=rfl
theorem e5K:cp 142=some e1b:=rfl
theorem e5L:cp 143=some a8N:=rfl
theorem e5M:cp 144=some e1c:=rfl
theorem e5N:cp 145=some e1d:=rfl
theorem e5O:cp 147=some d0W:=rfl
theorem e2v:cp 148=some d0X:=rfl
theorem e5P:cp 149=some d0Y:=rfl
theorem e5Q:cp 150=some c8d:=rfl
theorem e5R:cp 151=some b6h:=rfl
theorem e5S:cp 152=some a3v:=rfl
theorem e5T:cp 153=some d1g:=rfl
theorem e5U:cp 154=some c8e:=rfl
theorem e5V:cp 155=some d1h:=rfl
theorem e5W:cp 156=some e1e:=rfl
theorem e5X:cp 157=some b3F:=rfl
theorem e5Y:cp 158=some e1f:=rfl
theorem e5Z:cp 159=some e1g:=rfl
theorem e6a:cp 160=some b1H:=rfl
theorem e6b:cp 161=some e1h:=rfl
theorem e6c:cp 162=some b1I:=rfl
theorem e6d:cp 163=some c163:=rfl
theorem e6e:cp 164=some b3G:=rfl
theorem e6f:cp 165=some b3H:=rfl
theorem e2w:cp 166=some d1s:=rfl
theorem e6g:cp 167=some a8O:=rfl
theorem e6h:cp 168=some e1i:=rfl
theorem e6i:cp 169=some c8f:=rfl
theorem e6j:cp 170=some d1x:=rfl
theorem e6k:cp 171=some c8g:=rfl
theorem e2x:cp 172=some b1J:=rfl
theorem e6l:cp 173=some d1y:=rfl
theorem e6m:cp 174=some e1j:=rfl
theorem e6n:cp 175=some e1k:=rfl
theorem e6o:cp 176=some e1l:=rfl
theorem e6p:cp 177=some c8h:=rfl
theorem e6q:cp 178=some e1m:=rfl
theorem e6r:cp 179=some d1z:=rfl
theorem e6s:cp 180=some e1n:=rfl
theorem e6t:cp 181=some e1o:=rfl
theorem e6u:cp 182=some e1p:=rfl
theorem e6v:cp 183=some b6k:=rfl
theorem e6w:cp 184=some a1e:=rfl
theorem e6x:cp 185=some e1q:=rfl
theorem e6y:cp 186=some e1r:=rfl
theorem e6z:cp 187=some e1s:=rfl
theorem e6A:cp 188=some b6m:=rfl
theorem e6B:cp 189=some e1t:=rfl
theorem a4D:cp 190=some a7t:=rfl
end
theorem fn6:z7 Tryz.prog p6 Tryz.f6=some c6:=by kernel_rfl
theorem f1x:z7 Tryz.prog p11 Tryz.f11=some c11:=by kernel_rfl
theorem f1y:z7 Tryz.prog p12 Tryz.f12=some c12:=by kernel_rfl
theorem f1z:z7 Tryz.prog p13 Tryz.f13=some c13:=by kernel_rfl
theorem f1A:z7 Tryz.prog p14 Tryz.f14=some c14:=by kernel_rfl
theorem f1B:z7 Tryz.prog p15 Tryz.f15=some c15:=by kernel_rfl
theorem f1C:z7 Tryz.prog p16 Tryz.f16=some c16:=by kernel_rfl
theorem f1D:z7 Tryz.prog p20 Tryz.f20=some c20:=by kernel_rfl
theorem f1E:z7 Tryz.prog p21 Tryz.f21=some c21:=by kernel_rfl
theorem f1F:z7 Tryz.prog p25 Tryz.f25=some c25:=by kernel_rfl
theorem f1G:z7 Tryz.prog p26 Tryz.f26=some c26:=by kernel_rfl
theorem f1H:z7 Tryz.prog p27 Tryz.f27=some c27:=by kernel_rfl
theorem f1I:z7 Tryz.prog p28 Tryz.f28=some c28:=by kernel_rfl
theorem f1J:z7 Tryz.prog p30 Tryz.f30=some c30:=by kernel_rfl
theorem f1K:z7 Tryz.prog p31 Tryz.f31=some c31:=by kernel_rfl
theorem f1L:z7 Tryz.prog p32 Tryz.f32=some c32:=by kernel_rfl
theorem f1M:z7 Tryz.prog p34 Tryz.f34=some c34:=by kernel_rfl
theorem f1N:z7 Tryz.prog p35 Tryz.f35=some c35:=by kernel_rfl
theorem f1O:z7 Tryz.prog p36 Tryz.f36=some c36:=by kernel_rfl
theorem f1P:z7 Tryz.prog p38 Tryz.f38=some c38:=by kernel_rfl
theorem f1Q:z7 Tryz.prog p39 Tryz.f39=some c39:=by kernel_rfl
theorem f1R:z7 Tryz.prog p40 Tryz.f40=some c40:=by kernel_rfl
theorem f1S:z7 Tryz.prog p44 Tryz.f44=some c44:=by kernel_rfl
theorem f1T:z7 Tryz.prog p45 Tryz.f45=some c45:=by kernel_rfl
theorem f1U:z7 Tryz.prog p46 Tryz.f46=some c46:=by kernel_rfl
theorem f1V:z7 Tryz.prog p47 Tryz.f47=some c47:=by kernel_rfl
theorem f1W:z7 Tryz.prog p49 Tryz.f49=some c49:=by kernel_rfl
theorem f1X:z7 Tryz.prog p50 Tryz.f50=some c50:=by kernel_rfl
theorem f1Y:z7 Tryz.prog p51 Tryz.f51=some c51:=by kernel_rfl
theorem f1Z:z7 Tryz.prog p52 Tryz.f52=some c52:=by kernel_rfl
theorem f2a:z7 Tryz.prog p53 Tryz.f53=some c53:=by kernel_rfl
theorem f2b:z7 Tryz.prog p54 Tryz.f54=some c54:=by kernel_rfl
theorem f2c:z7 Tryz.prog p55 Tryz.f55=some c55:=by kernel_rfl
theorem f2d:z7 Tryz.prog p56 Tryz.f56=some c56:=by kernel_rfl
theorem f2e:z7 Tryz.prog p57 Tryz.f57=some c57:=by kernel_rfl
theorem f2f:z7 Tryz.prog p58 Tryz.f58=some c58:=by kernel_rfl
theorem f2g:z7 Tryz.prog p59 Tryz.f59=some c59:=by kernel_rfl
theorem f2h:z7 Tryz.prog p60 Tryz.f60=some c60:=by kernel_rfl
theorem f2i:z7 Tryz.prog p61 Tryz.f61=some c61:=by kernel_rfl
theorem f2j:z7 Tryz.prog p62 Tryz.f62=some c62:=by kernel_rfl
theorem f2k:z7 Tryz.prog p63 Tryz.f63=some c63:=by kernel_rfl
theorem f2l:z7 Tryz.prog p64 Tryz.f64=some c64:=by kernel_rfl
theorem f2m:z7 Tryz.prog p65 Tryz.f65=some c65:=by kernel_rfl
theorem f2n:z7 Tryz.prog p66 Tryz.f66=some c66:=by kernel_rfl
theorem f2o:z7 Tryz.prog p70 Tryz.f70=some c70:=by kernel_rfl
theorem f2p:z7 Tryz.prog p71 Tryz.f71=some c71:=by kernel_rfl
theorem f2q:z7 Tryz.prog p72 Tryz.f72=some c72:=by kernel_rfl
theorem f2r:z7 Tryz.prog p73 Tryz.f73=some c73:=by kernel_rfl
theorem f2s:z7 Tryz.prog p74 Tryz.f74=some c74:=by kernel_rfl
theorem f2t:z7 Tryz.prog p75 Tryz.f75=some c75:=by kernel_rfl
theorem f2u:z7 Tryz.prog p76 Tryz.f76=some c76:=by kernel_rfl
theorem f2v:z7 Tryz.prog p77 Tryz.f77=some c77:=by kernel_rfl
theorem f2w:z7 Tryz.prog p78 Tryz.f78=some c78:=by kernel_rfl
theorem f2x:z7 Tryz.prog p79 Tryz.f79=some c79:=by kernel_rfl
theorem f2y:z7 Tryz.prog p80 Tryz.f80=some c80:=by kernel_rfl
theorem f2z:z7 Tryz.prog p81 Tryz.f81=some c81:=by kernel_rfl
theorem f2A:z7 Tryz.prog p82 Tryz.f82=some c82:=by kernel_rfl
theorem f2B:z7 Tryz.prog p83 Tryz.f83=some c83:=by kernel_rfl
theorem f2C:z7 Tryz.prog p84 Tryz.f84=some c84:=by kernel_rfl
theorem f2D:z7 Tryz.prog p85 Tryz.f85=some c85:=by kernel_rfl
theorem f2E:z7 Tryz.prog p86 Tryz.f86=some c86:=by kernel_rfl
theorem f2F:z7 Tryz.prog p87 Tryz.f87=some c87:=by kernel_rfl
theorem f2G:z7 Tryz.prog p88 Tryz.f88=some c88:=by kernel_rfl
theorem f2H:z7 Tryz.prog p89 Tryz.f89=some c89:=by kernel_rfl
theorem f2I:z7 Tryz.prog p90 Tryz.f90=some c90:=by kernel_rfl
theorem f2J:z7 Tryz.prog p91 Tryz.f91=some c91:=by kernel_rfl
theorem f2K:z7 Tryz.prog p92 Tryz.f92=some c92:=by kernel_rfl
theorem f2L:z7 Tryz.prog p93 Tryz.f93=some c93:=by kernel_rfl
theorem f2M:z7 Tryz.prog p94 Tryz.f94=some c94:=by kernel_rfl
theorem f2N:z7 Tryz.prog p95 Tryz.f95=some c95:=by kernel_rfl
theorem f2O:z7 Tryz.prog p96 Tryz.f96=some c96:=by kernel_rfl
theorem f2P:z7 Tryz.prog p97 Tryz.f97=some c97:=by kernel_rfl
theorem f2Q:z7 Tryz.prog p98 Tryz.f98=some c98:=by kernel_rfl
theorem f2R:z7 Tryz.prog p99 Tryz.f99=some c99:=by kernel_rfl
theorem e6H:z7 Tryz.prog e8i Tryz.f100=some e0X:=by kernel_rfl
theorem e6I:z7 Tryz.prog e8j Tryz.f101=some b3b:=by kernel_rfl
theorem e6J:z7 Tryz.prog e8k Tryz.f117=some a0Q:=by kernel_rfl
theorem e6K:z7 Tryz.prog e8l Tryz.f118=some d0x:=by kernel_rfl
theorem e6L:z7 Tryz.prog e8m Tryz.f119=some d0y:=by kernel_rfl
theorem e6M:z7 Tryz.prog e8n Tryz.f120=some U9:=by kernel_rfl
theorem e6N:z7 Tryz.prog e8o Tryz.f121=some b6b:=by kernel_rfl
theorem e6O:z7 Tryz.prog e8p Tryz.f122=some a8L:=by kernel_rfl
theorem e6P:z7 Tryz.prog e8q Tryz.f123=some b3u:=by kernel_rfl
theorem e6Q:z7 Tryz.prog e8r Tryz.f124=some a5U:=by kernel_rfl
theorem e6R:z7 Tryz.prog e8s Tryz.f125=some d0z:=by kernel_rfl
theorem e6S:z7 Tryz.prog e8t Tryz.f126=some d0A:=by kernel_rfl
theorem e6T:z7 Tryz.prog e8u Tryz.f127=some b3v:=by kernel_rfl
theorem e6U:z7 Tryz.prog e8v Tryz.f128=some c8b:=by kernel_rfl
theorem e6V:z7 Tryz.prog e8w Tryz.f129=some e0Y:=by kernel_rfl
theorem e6W:z7 Tryz.prog e8x Tryz.f130=some b1C:=by kernel_rfl
theorem e6X:z7 Tryz.prog e8y Tryz.f131=some a0l:=by kernel_rfl
theorem e6Y:z7 Tryz.prog e8z Tryz.f132=some b6c:=by kernel_rfl
theorem e6Z:z7 Tryz.prog e8A Tryz.f133=some b6d:=by kernel_rfl
theorem e7a:z7 Tryz.prog e8B Tryz.f134=some b3y:=by kernel_rfl
theorem e7b:z7 Tryz.prog e8C Tryz.f135=some d0L:=by kernel_rfl
theorem e7c:z7 Tryz.prog e8D Tryz.f136=some b3z:=by kernel_rfl
theorem e7d:z7 Tryz.prog e8E Tryz.f137=some a8M:=by kernel_rfl
theorem e7e:z7 Tryz.prog e8F Tryz.f138=some e0Z:=by kernel_rfl
theorem e7f:z7 Tryz.prog e8G Tryz.f139=some c8c:=by kernel_rfl
theorem e7g:z7 Tryz.prog e8H Tryz.f140=some b1F:=by kernel_rfl
theorem e7h:z7 Tryz.prog e8I Tryz.f141=some e1a:=by kernel_rfl
theorem e7i:z7 Tryz.prog e8J Tryz.f142=some e1b:=by kernel_rfl
theorem e7j:z7 Tryz.prog e8K Tryz.f143=some a8N:=by kernel_rfl
theorem e7k:z7 Tryz.prog e8L Tryz.f144=some e1c:=by kernel_rfl
theorem e7l:z7 Tryz.prog e8M Tryz.f145=some e1d:=by kernel_rfl
theorem e7m:z7 Tryz.prog e8N Tryz.f147=some d0W:=by kernel_rfl
theorem e7n:z7 Tryz.prog e8O Tryz.f148=some d0X:=by kernel_rfl
theorem e7o:z7 Tryz.prog e8P Tryz.f149=some d0Y:=by kernel_rfl
theorem e7p:z7 Tryz.prog e8Q Tryz.f150=some c8d:=by kernel_rfl
theorem e7q:z7 Tryz.prog e8R Tryz.f151=some b6h:=by kernel_rfl
theorem e7r:z7 Tryz.prog e8S Tryz.f152=some a3v:=by kernel_rfl
theorem e7s:z7 Tryz.prog e8T Tryz.f153=some d1g:=by kernel_rfl
theorem e7t:z7 Tryz.prog e8U Tryz.f154=some c8e:=by kernel_rfl
theorem e7u:z7 Tryz.prog e8V Tryz.f155=some d1h:=by kernel_rfl
theorem e7v:z7 Tryz.prog e8W Tryz.f156=some e1e:=by kernel_rfl
theorem e7w:z7 Tryz.prog e8X Tryz.f157=some b3F:=by kernel_rfl
theorem e7x:z7 Tryz.prog e8Y Tryz.f158=some e1f:=by kernel_rfl
theorem e7y:z7 Tryz.prog e8Z Tryz.f159=some e1g:=by kernel_rfl
theorem e7z:z7 Tryz.prog e9a Tryz.f160=some b1H:=by kernel_rfl
theorem e7A:z7 Tryz.prog e9b Tryz.f161=some e1h:=by kernel_rfl
theorem e7B:z7 Tryz.prog e9c Tryz.f162=some b1I:=by kernel_rfl
theorem e7C:z7 Tryz.prog e9d Tryz.f163=some c163:=by kernel_rfl
theorem e7D:z7 Tryz.prog e9e Tryz.f164=some b3G:=by kernel_rfl
theorem e7E:z7 Tryz.prog e9f Tryz.f165=some b3H:=by kernel_rfl
theorem e7F:z7 Tryz.prog e9g Tryz.f166=some d1s:=by kernel_rfl
theorem e7G:z7 Tryz.prog e9h Tryz.f167=some a8O:=by kernel_rfl
theorem e7H:z7 Tryz.prog e9i Tryz.f168=some e1i:=by kernel_rfl
theorem e7I:z7 Tryz.prog e9j Tryz.f169=some c8f:=by kernel_rfl
theorem e7J:z7 Tryz.prog e9k Tryz.f170=some d1x:=by kernel_rfl
theorem e7K:z7 Tryz.prog e9l Tryz.f171=some c8g:=by kernel_rfl
theorem e7L:z7 Tryz.prog e9m Tryz.f172=some b1J:=by kernel_rfl
theorem e7M:z7 Tryz.prog e9n Tryz.f173=some d1y:=by kernel_rfl
theorem e7N:z7 Tryz.prog e9o Tryz.f174=some e1j:=by kernel_rfl
theorem e7O:z7 Tryz.prog e9p Tryz.f175=some e1k:=by kernel_rfl
theorem e7P:z7 Tryz.prog e9q Tryz.f176=some e1l:=by kernel_rfl
theorem e7Q:z7 Tryz.prog e9r Tryz.f177=some c8h:=by kernel_rfl
theorem e7R:z7 Tryz.prog e9s Tryz.f178=some e1m:=by kernel_rfl
theorem e7S:z7 Tryz.prog e9t Tryz.f179=some d1z:=by kernel_rfl
theorem e7T:z7 Tryz.prog e9u Tryz.f180=some e1n:=by kernel_rfl
theorem e7U:z7 Tryz.prog e9v Tryz.f181=some e1o:=by kernel_rfl
theorem e7V:z7 Tryz.prog e9w Tryz.f182=some e1p:=by kernel_rfl
theorem e7W:z7 Tryz.prog e9x Tryz.f183=some b6k:=by kernel_rfl
theorem e7X:z7 Tryz.prog e9y Tryz.f184=some a1e:=by kernel_rfl
theorem e7Y:z7 Tryz.prog e9z Tryz.f185=some e1q:=by kernel_rfl
theorem e7Z:z7 Tryz.prog e9A Tryz.f186=some e1r:=by kernel_rfl
theorem e8a:z7 Tryz.prog e9B Tryz.f187=some e1s:=by kernel_rfl
theorem e8b:z7 Tryz.prog e9C Tryz.f188=some b6m:=by kernel_rfl
theorem e8c:z7 Tryz.prog e9D Tryz.f189=some e1t:=by kernel_rfl
theorem e8d:z7 Tryz.prog e9E Tryz.f190=some a7t:=by kernel_rfl
set_option maxRecDepth 100000 in
theorem d9K:a5D Tryz.prog cp:=by
 refine⟨rfl,fun f fn h=>?_⟩
 have h:cpF f=some fn:=h
 unfold cpF at h
 split at h
 ·obtain rfl:=uzA h;exact⟨p6,Tryz.f6,Tryz.func6,fn6⟩
 ·obtain rfl:=uzA h;exact⟨p11,Tryz.f11,Tryz.func11,f1x⟩
 ·obtain rfl:=uzA h;exact⟨p12,Tryz.f12,Tryz.func12,f1y⟩
 ·obtain rfl:=uzA h;exact⟨p13,Tryz.f13,Tryz.func13,f1z⟩
 ·obtain rfl:=uzA h;exact⟨p14,Tryz.f14,Tryz.func14,f1A⟩
 ·obtain rfl:=uzA h;exact⟨p15,Tryz.f15,Tryz.func15,f1B⟩
 ·obtain rfl:=uzA h;exact⟨p16,Tryz.f16,Tryz.func16,f1C⟩
 ·obtain rfl:=uzA h;exact⟨p20,Tryz.f20,Tryz.func20,f1D⟩
 ·obtain rfl:=uzA h;exact⟨p21,Tryz.f21,Tryz.func21,f1E⟩
 ·obtain rfl:=uzA h;exact⟨p25,Tryz.f25,Tryz.func25,f1F⟩
 ·obtain rfl:=uzA h;exact⟨p26,Tryz.f26,Tryz.func26,f1G⟩
 ·obtain rfl:=uzA h;exact⟨p27,Tryz.f27,Tryz.func27,f1H⟩
 ·obtain rfl:=uzA h;exact⟨p28,Tryz.f28,Tryz.func28,f1I⟩
 ·obtain rfl:=uzA h;exact⟨p30,Tryz.f30,Tryz.func30,f1J⟩
 ·obtain rfl:=uzA h;exact⟨p31,Tryz.f31,Tryz.func31,f1K⟩
 ·obtain rfl:=uzA h;exact⟨p32,Tryz.f32,Tryz.func32,f1L⟩
 ·obtain rfl:=uzA h;exact⟨p34,Tryz.f34,Tryz.func34,f1M⟩
 ·obtain rfl:=uzA h;exact⟨p35,Tryz.f35,Tryz.func35,f1N⟩
 ·obtain rfl:=uzA h;exact⟨p36,Tryz.f36,Tryz.func36,f1O⟩
 ·obtain rfl:=uzA h;exact⟨p38,Tryz.f38,Tryz.func38,f1P⟩
 ·obtain rfl:=uzA h;exact⟨p39,Tryz.f39,Tryz.func39,f1Q⟩
 ·obtain rfl:=uzA h;exact⟨p40,Tryz.f40,Tryz.func40,f1R⟩
 ·obtain rfl:=uzA h;exact⟨p44,Tryz.f44,Tryz.func44,f1S⟩
 ·obtain rfl:=uzA h;exact⟨p45,Tryz.f45,Tryz.func45,f1T⟩
 ·obtain rfl:=uzA h;exact⟨p46,Tryz.f46,Tryz.func46,f1U⟩
 ·obtain rfl:=uzA h;exact⟨p47,Tryz.f47,Tryz.func47,f1V⟩
 ·obtain rfl:=uzA h;exact⟨p49,Tryz.f49,Tryz.func49,f1W⟩
 ·obtain rfl:=uzA h;exact⟨p50,Tryz.f50,Tryz.func50,f1X⟩
 ·obtain rfl:=uzA h;exact⟨p51,Tryz.f51,Tryz.func51,f1Y⟩
 ·obtain rfl:=uzA h;exact⟨p52,Tryz.f52,Tryz.func52,f1Z⟩
 ·obtain rfl:=uzA h;exact⟨p53,Tryz.f53,Tryz.func53,f2a⟩
 ·obtain rfl:=uzA h;exact⟨p54,Tryz.f54,Tryz.func54,f2b⟩
 ·obtain rfl:=uzA h;exact⟨p55,Tryz.f55,Tryz.func55,f2c⟩
 ·obtain rfl:=uzA h;exact⟨p56,Tryz.f56,Tryz.func56,f2d⟩
 ·obtain rfl:=uzA h;exact⟨p57,Tryz.f57,Tryz.func57,f2e⟩
 ·obtain rfl:=uzA h;exact⟨p58,Tryz.f58,Tryz.func58,f2f⟩
 ·obtain rfl:=uzA h;exact⟨p59,Tryz.f59,Tryz.func59,f2g⟩
 ·obtain rfl:=uzA h;exact⟨p60,Tryz.f60,Tryz.func60,f2h⟩
 ·obtain rfl:=uzA h;exact⟨p61,Tryz.f61,Tryz.func61,f2i⟩
 ·obtain rfl:=uzA h;exact⟨p62,Tryz.f62,Tryz.func62,f2j⟩
 ·obtain rfl:=uzA h;exact⟨p63,Tryz.f63,Tryz.func63,f2k⟩
 ·obtain rfl:=uzA h;exact⟨p64,Tryz.f64,Tryz.func64,f2l⟩
 ·obtain rfl:=uzA h;exact⟨p65,Tryz.f65,Tryz.func65,f2m⟩
 ·obtain rfl:=uzA h;exact⟨p66,Tryz.f66,Tryz.func66,f2n⟩
 ·obtain rfl:=uzA h;exact⟨p70,Tryz.f70,Tryz.func70,f2o⟩
 ·obtain rfl:=uzA h;exact⟨p71,Tryz.f71,Tryz.func71,f2p⟩
 ·obtain rfl:=uzA h;exact⟨p72,Tryz.f72,Tryz.func72,f2q⟩
 ·obtain rfl:=uzA h;exact⟨p73,Tryz.f73,Tryz.func73,f2r⟩
 ·obtain rfl:=uzA h;exact⟨p74,Tryz.f74,Tryz.func74,f2s⟩
 ·obtain rfl:=uzA h;exact⟨p75,Tryz.f75,Tryz.func75,f2t⟩
 ·obtain rfl:=uzA h;exact⟨p76,Tryz.f76,Tryz.func76,f2u⟩
 ·obtain rfl:=uzA h;exact⟨p77,Tryz.f77,Tryz.func77,f2v⟩
 ·obtain rfl:=uzA h;exact⟨p78,Tryz.f78,Tryz.func78,f2w⟩
 ·obtain rfl:=uzA h;exact⟨p79,Tryz.f79,Tryz.func79,f2x⟩
 ·obtain rfl:=uzA h;exact⟨p80,Tryz.f80,Tryz.func80,f2y⟩
 ·obtain rfl:=uzA h;exact⟨p81,Tryz.f81,Tryz.func81,f2z⟩
 ·obtain rfl:=uzA h;exact⟨p82,Tryz.f82,Tryz.func82,f2A⟩
 ·obtain rfl:=uzA h;exact⟨p83,Tryz.f83,Tryz.func83,f2B⟩
 ·obtain rfl:=uzA h;exact⟨p84,Tryz.f84,Tryz.func84,f2C⟩
 ·obtain rfl:=uzA h;exact⟨p85,Tryz.f85,Tryz.func85,f2D⟩
 ·obtain rfl:=uzA h;exact⟨p86,Tryz.f86,Tryz.func86,f2E⟩
 ·obtain rfl:=uzA h;exact⟨p87,Tryz.f87,Tryz.func87,f2F⟩
 ·obtain rfl:=uzA h;exact⟨p88,Tryz.f88,Tryz.func88,f2G⟩
 ·obtain rfl:=uzA h;exact⟨p89,Tryz.f89,Tryz.func89,f2H⟩
 ·obtain rfl:=uzA h;exact⟨p90,Tryz.f90,Tryz.func90,f2I⟩
 ·obtain rfl:=uzA h;exact⟨p91,Tryz.f91,Tryz.func91,f2J⟩
 ·obtain rfl:=uzA h;exact⟨p92,Tryz.f92,Tryz.func92,f2K⟩
 ·obtain rfl:=uzA h;exact⟨p93,Tryz.f93,Tryz.func93,f2L⟩
 ·obtain rfl:=uzA h;exact⟨p94,Tryz.f94,Tryz.func94,f2M⟩
 ·obtain rfl:=uzA h;exact⟨p95,Tryz.f95,Tryz.func95,f2N⟩
 ·obtain rfl:=uzA h;exact⟨p96,Tryz.f96,Tryz.func96,f2O⟩
 ·obtain rfl:=uzA h;exact⟨p97,Tryz.f97,Tryz.func97,f2P⟩
 ·obtain rfl:=uzA h;exact⟨p98,Tryz.f98,Tryz.func98,f2Q⟩
 ·obtain rfl:=uzA h;exact⟨p99,Tryz.f99,Tryz.func99,f2R⟩
 ·obtain rfl:=uzA h;exact⟨e8i,Tryz.f100,Tryz.func100,e6H⟩
 ·obtain rfl:=uzA h;exact⟨e8j,Tryz.f101,Tryz.func101,e6I⟩
 ·obtain rfl:=uzA h;exact⟨e8k,Tryz.f117,Tryz.func117,e6J⟩
 ·obtain rfl:=uzA h;exact⟨e8l,Tryz.f118,Tryz.func118,e6K⟩
 ·obtain rfl:=uzA h;exact⟨e8m,Tryz.f119,Tryz.func119,e6L⟩
 ·obtain rfl:=uzA h;exact⟨e8n,Tryz.f120,Tryz.func120,e6M⟩
 ·obtain rfl:=uzA h;exact⟨e8o,Tryz.f121,Tryz.func121,e6N⟩
 ·obtain rfl:=uzA h;exact⟨e8p,Tryz.f122,Tryz.func122,e6O⟩
 ·obtain rfl:=uzA h;exact⟨e8q,Tryz.f123,Tryz.func123,e6P⟩
 ·obtain rfl:=uzA h;exact⟨e8r,Tryz.f124,Tryz.func124,e6Q⟩
 ·obtain rfl:=uzA h;exact⟨e8s,Tryz.f125,Tryz.func125,e6R⟩
 ·obtain rfl:=uzA h;exact⟨e8t,Tryz.f126,Tryz.func126,e6S⟩
 ·obtain rfl:=uzA h;exact⟨e8u,Tryz.f127,Tryz.func127,e6T⟩
 ·obtain rfl:=uzA h;exact⟨e8v,Tryz.f128,Tryz.func128,e6U⟩
 ·obtain rfl:=uzA h;exact⟨e8w,Tryz.f129,Tryz.func129,e6V⟩
 ·obtain rfl:=uzA h;exact⟨e8x,Tryz.f130,Tryz.func130,e6W⟩
 ·obtain rfl:=uzA h;exact⟨e8y,Tryz.f131,Tryz.func131,e6X⟩
 ·obtain rfl:=uzA h;exact⟨e8z,Tryz.f132,Tryz.func132,e6Y⟩
 ·obtain rfl:=uzA h;exact⟨e8A,Tryz.f133,Tryz.func133,e6Z⟩
 ·obtain rfl:=uzA h;exact⟨e8B,Tryz.f134,Tryz.func134,e7a⟩
 ·obtain rfl:=uzA h;exact⟨e8C,Tryz.f135,Tryz.func135,e7b⟩
 ·obtain rfl:=uzA h;exact⟨e8D,Tryz.f136,Tryz.func136,e7c⟩
 ·obtain rfl:=uzA h;exact⟨e8E,Tryz.f137,Tryz.func137,e7d⟩
 ·obtain rfl:=uzA h;exact⟨e8F,Tryz.f138,Tryz.func138,e7e⟩
 ·obtain rfl:=uzA h;exact⟨e8G,Tryz.f139,Tryz.func139,e7f⟩
 ·obtain rfl:=uzA h;exact⟨e8H,Tryz.f140,Tryz.func140,e7g⟩
 ·obtain rfl:=uzA h;exact⟨e8I,Tryz.f141,Tryz.func141,e7h⟩
 ·obtain rfl:=uzA h;exact⟨e8J,Tryz.f142,Tryz.func142,e7i⟩
 ·obtain rfl:=uzA h;exact⟨e8K,Tryz.f143,Tryz.func143,e7j⟩
 ·obtain rfl:=uzA h;exact⟨e8L,Tryz.f144,Tryz.func144,e7k⟩
 ·obtain rfl:=uzA h;exact⟨e8M,Tryz.f145,Tryz.func145,e7l⟩
 ·obtain rfl:=uzA h;exact⟨e8N,Tryz.f147,Tryz.func147,e7m⟩
 ·obtain rfl:=uzA h;exact⟨e8O,Tryz.f148,Tryz.func148,e7n⟩
 ·obtain rfl:=uzA h;exact⟨e8P,Tryz.f149,Tryz.func149,e7o⟩
 ·obtain rfl:=uzA h;exact⟨e8Q,Tryz.f150,Tryz.func150,e7p⟩
 ·obtain rfl:=uzA h;exact⟨e8R,Tryz.f151,Tryz.func151,e7q⟩
 ·obtain rfl:=uzA h;exact⟨e8S,Tryz.f152,Tryz.func152,e7r⟩
 ·obtain rfl:=uzA h;exact⟨e8T,Tryz.f153,Tryz.func153,e7s⟩
 ·obtain rfl:=uzA h;exact⟨e8U,Tryz.f154,Tryz.func154,e7t⟩
 ·obtain rfl:=uzA h;exact⟨e8V,Tryz.f155,Tryz.func155,e7u⟩
 ·obtain rfl:=uzA h;exact⟨e8W,Tryz.f156,Tryz.func156,e7v⟩
 ·obtain rfl:=uzA h;exact⟨e8X,Tryz.f157,Tryz.func157,e7w⟩
 ·obtain rfl:=uzA h;exact⟨e8Y,Tryz.f158,Tryz.func158,e7x⟩
 ·obtain rfl:=uzA h;exact⟨e8Z,Tryz.f159,Tryz.func159,e7y⟩
 ·obtain rfl:=uzA h;exact⟨e9a,Tryz.f160,Tryz.func160,e7z⟩
 ·obtain rfl:=uzA h;exact⟨e9b,Tryz.f161,Tryz.func161,e7A⟩
 ·obtain rfl:=uzA h;exact⟨e9c,Tryz.f162,Tryz.func162,e7B⟩
 ·obtain rfl:=uzA h;exact⟨e9d,Tryz.f163,Tryz.func163,e7C⟩
 ·obtain rfl:=uzA h;exact⟨e9e,Tryz.f164,Tryz.func164,e7D⟩
 ·obtain rfl:=uzA h;exact⟨e9f,Tryz.f165,Tryz.func165,e7E⟩
 ·obtain rfl:=uzA h;exact⟨e9g,Tryz.f166,Tryz.func166,e7F⟩
 ·obtain rfl:=uzA h;exact⟨e9h,Tryz.f167,Tryz.func167,e7G⟩
 ·obtain rfl:=uzA h;exact⟨e9i,Tryz.f168,Tryz.func168,e7H⟩
 ·obtain rfl:=uzA h;exact⟨e9j,Tryz.f169,Tryz.func169,e7I⟩
 ·obtain rfl:=uzA h;exact⟨e9k,Tryz.f170,Tryz.func170,e7J⟩
 ·obtain rfl:=uzA h;exact⟨e9l,Tryz.f171,Tryz.func171,e7K⟩
 ·obtain rfl:=uzA h;exact⟨e9m,Tryz.f172,Tryz.func172,e7L⟩
 ·obtain rfl:=uzA h;exact⟨e9n,Tryz.f173,Tryz.func173,e7M⟩
 ·obtain rfl:=uzA h;exact⟨e9o,Tryz.f174,Tryz.func174,e7N⟩
 ·obtain rfl:=uzA h;exact⟨e9p,Tryz.f175,Tryz.func175,e7O⟩
 ·obtain rfl:=uzA h;exact⟨e9q,Tryz.f176,Tryz.func176,e7P⟩
 ·obtain rfl:=uzA h;exact⟨e9r,Tryz.f177,Tryz.func177,e7Q⟩
 ·obtain rfl:=uzA h;exact⟨e9s,Tryz.f178,Tryz.func178,e7R⟩
 ·obtain rfl:=uzA h;exact⟨e9t,Tryz.f179,Tryz.func179,e7S⟩
 ·obtain rfl:=uzA h;exact⟨e9u,Tryz.f180,Tryz.func180,e7T⟩
 ·obtain rfl:=uzA h;exact⟨e9v,Tryz.f181,Tryz.func181,e7U⟩
 ·obtain rfl:=uzA h;exact⟨e9w,Tryz.f182,Tryz.func182,e7V⟩
 ·obtain rfl:=uzA h;exact⟨e9x,Tryz.f183,Tryz.func183,e7W⟩
 ·obtain rfl:=uzA h;exact⟨e9y,Tryz.f184,Tryz.func184,e7X⟩
 ·obtain rfl:=uzA h;exact⟨e9z,Tryz.f185,Tryz.func185,e7Y⟩
 ·obtain rfl:=uzA h;exact⟨e9A,Tryz.f186,Tryz.func186,e7Z⟩
 ·obtain rfl:=uzA h;exact⟨e9B,Tryz.f187,Tryz.func187,e8a⟩
 ·obtain rfl:=uzA h;exact⟨e9C,Tryz.f188,Tryz.func188,e8b⟩
 ·obtain rfl:=uzA h;exact⟨e9D,Tryz.f189,Tryz.func189,e8c⟩
 ·obtain rfl:=uzA h;exact⟨e9E,Tryz.f190,Tryz.func190,e8d⟩
 ·cases h
theorem a1Z(n:Int):IntKind.u64.wrap n=n % 18446744073709551616:=by simp[IntKind.wrap,IntKind.bits,IntKind.signed]
theorem f2U(n:Int):IntKind.u32.wrap n=n % 4294967296:=by simp[IntKind.wrap,IntKind.bits,IntKind.signed]
theorem wu8(n:Int):IntKind.u8.wrap n=n % 256:=by simp[IntKind.wrap,IntKind.bits,IntKind.signed]
theorem R7(n:Int):IntKind.i64.wrap n=(n+9223372036854775808) % 18446744073709551616-9223372036854775808:=by
 show(if(true && decide (n % 18446744073709551616>=9223372036854775808))=true then n % 18446744073709551616-18446744073709551616 else n % 18446744073709551616)=_
 simp only[Bool.true_and,decide_eq_true_eq]
 split<;>omega
def D5(n:Int):Prop:= -9223372036854775808<=n/\n<=9223372036854775807
def U64(n:Int):Prop:=0<=n/\n<=18446744073709551615
instance (n:Int):Decidable (D5 n):=by unfold D5;infer_instance
instance (n:Int):Decidable (U64 n):=by unfold U64;infer_instance
theorem e4F{a:Int}(h:(Lit.int .i64 a).wf=true):D5 a:=by
 simp only[Lit.wf,IntKind.min,IntKind.max,IntKind.signed,IntKind.bits,vjz,decide_eq_true_eq]at h
 simp at h
 unfold D5;omega
theorem b2V(k:IntKind)(i:Nat)(hi:i<=k.bits)(hk:∀n:Int,0<=n->n<2 ^ i->k.wrap n=n)(x:Int):
  k.wrap ((BitVec.ofInt k.bits x &&& BitVec.ofInt k.bits (2 ^ i-1)).toNat:Int)=x % 2 ^ i:=by
 have hp:(2:Nat) ^ i<=2 ^ k.bits:=Nat.pow_le_pow_right (by decide) hi
 have hpos:0<2 ^ i:=Nat.two_pow_pos i
 have hc:((2:Int) ^ i-1)=((2 ^ i-1:Nat):Int):=by rw[Int.natCast_sub hpos];simp
 rw[hc]
 simp only[BitVec.ofInt_natCast,BitVec.toNat_and,BitVec.toNat_ofNat,BitVec.toNat_ofInt]
 rw[Nat.mod_eq_of_lt (a:=2 ^ i-1) (by omega),Nat.and_two_pow_sub_one_eq_mod]
 have e:(((x % ((2 ^ k.bits:Nat):Int)).toNat % 2 ^ i:Nat):Int)=x % 2 ^ i:=by
  have hb:(0:Int)<((2 ^ k.bits:Nat):Int):=by exact_mod_cast Nat.two_pow_pos k.bits
  have h0:0<=x % ((2 ^ k.bits:Nat):Int):=Int.emod_nonneg _ (by omega)
  rw[Int.natCast_emod,Int.toNat_of_nonneg h0]
  have hd:((2 ^ i:Nat):Int) ∣ ((2 ^ k.bits:Nat):Int):=by
   exact_mod_cast Nat.pow_dvd_pow 2 hi
  rw[Int.emod_emod_of_dvd _ hd]
  simp
 rw[e]
 have h2:(0:Int)<2 ^ i:=by exact_mod_cast hpos
 exact hk _ (Int.emod_nonneg _ (by omega)) (Int.emod_lt_of_pos _ h2)
theorem b2M(i:Nat)(hi:i<=64):∀n:Int,0<=n->n<2 ^ i->IntKind.u64.wrap n=n:=fun n h0 h1=>by
 have:(2:Nat) ^ i<=2 ^ 64:=Nat.pow_le_pow_right (by decide) hi
 have h2:(2:Int) ^ i<=2 ^ 64:=by exact_mod_cast this
 rw[a1Z];omega
theorem e1S(i:Nat)(hi:i<=63):∀n:Int,0<=n->n<2 ^ i->IntKind.i64.wrap n=n:=fun n h0 h1=>by
 have:(2:Nat) ^ i<=2 ^ 63:=Nat.pow_le_pow_right (by decide) hi
 have h2:(2:Int) ^ i<=2 ^ 63:=by exact_mod_cast this
 rw[R7];omega
theorem a2M(i:Nat)(hi:i<=64)(x m:Int)(hm:m=2 ^ i-1):IntKind.u64.wrap ((BitVec.ofInt IntKind.u64.bits x &&& BitVec.ofInt IntKind.u64.bits m).toNat:Int)=x % 2 ^ i:=by
 rw[hm];exact b2V .u64 i hi (b2M i hi) x
theorem W7(i:Nat)(hi:i<=63)(x m:Int)(hm:m=2 ^ i-1):IntKind.i64.wrap ((BitVec.ofInt IntKind.i64.bits x &&& BitVec.ofInt IntKind.i64.bits m).toNat:Int)=x % 2 ^ i:=by
 rw[hm];exact b2V .i64 i (by show i<=64;omega) (e1S i hi) x
theorem a2i(k:IntKind)(x:Int)(n:Nat)(h:n<=k.bits):x.fdiv (2 ^ (min n k.bits))=x / 2 ^ n:=by
 rw[Nat.min_eq_left h,Int.fdiv_eq_ediv_of_nonneg _ (by exact_mod_cast vJz _)]
theorem b5r(k:IntKind)(x:Int)(n:Nat)(h:n<=k.bits):x*2 ^ (min n k.bits)=x*2 ^ n:=by
 rw[Nat.min_eq_left h]
theorem J8(a b:Int)(h:0<=a):Int.tmod a b=a % b:=Int.tmod_eq_emod_of_nonneg h
theorem a5w(a b:Int)(h:0<=a):Int.tdiv a b=a / b:=Int.tdiv_eq_ediv_of_nonneg h
theorem e4t(a1 a0 b1 b0 p00 p01 p10 p11:Int)(h00:p00=a0*b0)(h01:p01=a0*b1)(h10:p10=a1*b0)(h11:p11=a1*b1):
  (a1*4294967296+a0)*(b1*4294967296+b0)=p11*18446744073709551616+(p10+p01)*4294967296+p00:=by
 subst h00 h01 h10 h11
 simp only[Int.add_mul,Int.mul_add]
 have e1:a1*4294967296*(b1*4294967296)=a1*b1*18446744073709551616:=by
  rw[Int.mul_assoc,Int.mul_left_comm 4294967296 b1,<-Int.mul_assoc];rfl
 have e2:a0*(b1*4294967296)=a0*b1*4294967296:=(Int.mul_assoc ..).symm
 have e3:a1*4294967296*b0=a1*b0*4294967296:=by rw[Int.mul_assoc,Int.mul_comm 4294967296 b0,<-Int.mul_assoc]
 rw[e1,e2,e3]
 omega
theorem X2(x y m:Int)(hx0:0<=x)(hx:x<=m)(hy0:0<=y)(hy:y<=m):0<=x*y/\x*y<=m*m:=
 ⟨uzO hx0 hy0,vHz hx hy hy0 (by omega)⟩
theorem e9L(a b p00 p01 p10 p11:Int)(ha0:0<=a)(ha:a<18446744073709551616)(hb0:0<=b)(hb:b<18446744073709551616)
  (h00:p00=(a % 4294967296)*(b % 4294967296)) (h01:p01=(a % 4294967296)*(b / 4294967296)) (h10:p10=(a / 4294967296)*(b % 4294967296)) (h11:p11=(a / 4294967296)*(b / 4294967296)):
  a*b=p11*18446744073709551616+(p10+p01)*4294967296+p00/\(0<=p00/\p00<=18446744065119617025)/\(0<=p01/\p01<=18446744065119617025)/\(0<=p10/\p10<=18446744065119617025)/\0<=p11/\p11<=18446744065119617025:=by
 have e:=e4t (a / 4294967296) (a % 4294967296) (b / 4294967296) (b % 4294967296) p00 p01 p10 p11 h00 h01 h10 h11
 have ea:a / 4294967296*4294967296+a % 4294967296=a:=by omega
 have eb:b / 4294967296*4294967296+b % 4294967296=b:=by omega
 rw[ea,eb]at e
 refine⟨e,?_,?_,?_,?_⟩
 ·rw[h00];exact X2 _ _ 4294967295 (by omega) (by omega) (by omega) (by omega)
 ·rw[h01];exact X2 _ _ 4294967295 (by omega) (by omega) (by omega) (by omega)
 ·rw[h10];exact X2 _ _ 4294967295 (by omega) (by omega) (by omega) (by omega)
 ·rw[h11];exact X2 _ _ 4294967295 (by omega) (by omega) (by omega) (by omega)
theorem d9y(a b:Int)(ha:U64 a)(hb:U64 b):
  (a / 4294967296*(b / 4294967296) % 18446744073709551616+(a / 4294967296*(b % 4294967296) % 18446744073709551616+a % 4294967296*(b % 4294967296) % 18446744073709551616 / 4294967296) % 18446744073709551616 / 4294967296) % 18446744073709551616+
   ((a / 4294967296*(b % 4294967296) % 18446744073709551616+a % 4294967296*(b % 4294967296) % 18446744073709551616 / 4294967296) % 18446744073709551616 % 4294967296+a % 4294967296*(b / 4294967296) % 18446744073709551616) % 18446744073709551616 / 4294967296=a*b / 18446744073709551616:=by
 unfold U64 at ha hb
 obtain⟨e,h0,h1,h2,h3⟩:=e9L a b _ _ _ _ ha.1 (by omega) hb.1 (by omega) rfl rfl rfl rfl
 generalize a % 4294967296*(b % 4294967296)=p00 at*
 generalize a % 4294967296*(b / 4294967296)=p01 at*
 generalize a / 4294967296*(b % 4294967296)=p10 at*
 generalize a / 4294967296*(b / 4294967296)=p11 at*
 rw[e]
 omega
end Go.Proofs.YtlakhgibjfmjjaaGreat.Can
namespace Go.Proofs.YtlakhgibjfmjjaaGreat.Can
open Go
attribute [local congr] u5 u4 l5 l8 r8 s9 u6 w9 u7
variable {Q : Value → Heap → Prop}
theorem a8g(h:Heap)(a b:Int)(ha:U64 a)(hb:U64 b)(Q:Value->Heap->Prop):u9 cp 85 [.int .u64 a,.int .u64 b] h Q↔Q (.tuple #[.int .u64 (a*b / 18446744073709551616),.int .u64 (a*b % 18446744073709551616)]) h:=by
 refine v9 ?_ Q
 rw[a8 cp f1i]
 have m1:=fun x:Int=>a2M 32 (by decide) x 4294967295 (by decide)
 have s1:=fun x:Int=>a2i .u64 x 32 (by decide)
 have p32:(2:Int) ^ 32=4294967296:=by decide
 simp(disch:=omega)only[c85,↓R85,m1,s1,a1Z,p32,↓l9,m9,zA,zB,zC,zD,zE,zF,zG,zH,zI,reduceCtorEq,zJ,zK,zL,zM]
 have e:=d9y a b ha hb
 have h2:0<=a*b / 18446744073709551616/\a*b / 18446744073709551616<18446744073709551616:=by
  unfold U64 at ha hb
  have:=X2 a b 18446744073709551615 ha.1 ha.2 hb.1 hb.2
  omega
 rw[e,Int.emod_eq_of_lt h2.1 h2.2]
theorem a2Y(n:Int)(h:D5 n):IntKind.i64.wrap n=n:=by unfold D5 at h;exact P9 h.1 h.2
theorem d0k(a b:Int)(ha:D5 a)(hb:D5 b):(decide (IntKind.i64.wrap (a+b)>a)==decide (b>0))=decide (D5 (a+b)):=by
 unfold D5 at*
 rw[R7]
 by_cases h: -9223372036854775808<=a+b/\a+b<=9223372036854775807
 ·rw[dTz h,beq_iff_eq,decide_eq_decide];omega
 ·rw[dFz h,beq_eq_false_iff_ne,ne_eq,decide_eq_decide];omega
theorem e2Y(h:Heap)(a b:Int)(ha:D5 a)(hb:D5 b)(Q:Value->Heap->Prop):u9 cp 144 [.int .i64 a,.int .i64 b] h Q↔Q (.tuple #[.int .i64 (IntKind.i64.wrap (a+b)),.bool (decide (D5 (a+b)))]) h:=by
 refine v9 ?_ Q
 rw[a8 cp e5M]
 simp(disch:=omega)only[e1c,↓e9S,↓l9,m9,zA,zB,zC,zD,zE,zF,zG,zH,zI,reduceCtorEq,zJ,zK,zL,zM]
 rw[d0k a b ha hb]
 first|done|trivial
theorem e4o(h:Heap)(b:Bool)(Q:Value->Heap->Prop):u9 cp 145 [.bool b] h Q↔Q (.int .i64 (if b then-9223372036854775808 else 9223372036854775807)) h:=by
 refine v9 ?_ Q
 rw[a8 cp e5N]
 cases b<;>simp(disch:=omega)only[e1d,↓e9T,↓l9,m9,zA,zB,zC,zD,zE,zF,zG,zH,zI,reduceCtorEq,zJ,zK,zL,zM]<;>first|done|trivial
def O4(n:Int):Int:=if n< -9223372036854775808 then-9223372036854775808 else if n>9223372036854775807 then 9223372036854775807 else n
theorem a3d(n:Int):D5 (O4 n):=by
 unfold O4 D5
 split
 ·omega
 ·split<;>omega
theorem S8{n:Int}(h:D5 n):O4 n=n:=by unfold D5 at h;unfold O4;rw[if_neg (by omega),if_neg (by omega)]
theorem P6(h:Heap)(a b:Int)(ha:D5 a)(hb:D5 b)(Q:Value->Heap->Prop):u9 cp 126 [.int .i64 a,.int .i64 b] h Q↔Q (.int .i64 (O4 (a+b))) h:=by
 refine v9 ?_ Q
 rw[a8 cp e5v]
 have f1:=fun h=>e2Y h a b ha hb
 by_cases hi:D5 (a+b)
 ·have a1:=dTz hi
  simp(disch:=omega)only[d0A,↓e4N,f1,a1,S8 hi,a2Y _ hi,↓l9,m9,zA,zB,zC,zD,zE,zF,zG,zH,zI,reduceCtorEq,zJ,zK,zL,zM]
  first|done|trivial
 ·have a1:=dFz hi
  simp(disch:=omega)only[d0A,↓e4N,f1,a1,e4o,↓l9,m9,zA,zB,zC,zD,zE,zF,zG,zH,zI,reduceCtorEq,zJ,zK,zL,zM]
  unfold D5 at ha hb hi
  unfold O4
  by_cases h0:a<0
  ·rw[dTz h0,if_pos rfl,if_pos (by omega)]
  ·rw[dFz h0,if_neg Bool.false_ne_true,if_neg (by omega),if_pos (by omega)]
def T3(W D:Int):Int:=if W % D=0 then W / D else W / D+1
theorem c6S(h:Heap)(a b:Int)(ha:D5 a)(ha0:0<=a)(hb:D5 b)(hb1:1<=b)(Q:Value->Heap->Prop):u9 cp 73 [.int .i64 a,.int .i64 b] h Q↔Q (.int .i64 (T3 a b)) h:=by
 refine v9 ?_ Q
 rw[a8 cp f0X]
 unfold D5 at ha hb
 have a1:decide (a<0)=false:=dFz (by omega)
 have a2:decide (b<1)=false:=dFz (by omega)
 have n0:(b=0)=False:=by simp;omega
 have q0:0<=a / b:=Int.ediv_nonneg ha0 (by omega)
 have q1:a / b<=a:=Int.ediv_le_self b ha0
 have r0:0<=a % b:=Int.emod_nonneg a (by omega)
 have r1:=Int.emod_lt_of_pos a (show 0<b by omega)
 have t1:a.tdiv b=a / b:=a5w a b ha0
 have t2:a.tmod b=a % b:=J8 a b ha0
 by_cases hr:a % b=0
 ·have a3:decide (a % b>0)=false:=dFz (by omega)
  simp(disch:=omega)only[c73,↓R73,a1,a2,a3,n0,t1,t2,↓l9,m9,zA,zB,zC,zD,zE,zF,zG,zH,zI,reduceCtorEq,zJ,zK,zL,zM]
  exact(by unfold T3;rw[if_pos hr])
 ·have a3:decide (a % b>0)=true:=dTz (by omega)
  have q2:a / b<a\/b=1:=by
   by_cases hb2:b=1
   ·exact .inr hb2
   ·left
    have:=Int.ediv_lt_self_of_pos_of_ne_one (x:=a) (y:=b) (by rcases Int.lt_or_eq_of_le ha0 with h|h;exact h;rw[<-h]at hr;simp at hr) hb2
    omega
  have q3:a / b+1<=9223372036854775807:=by
   rcases q2 with h|h
   ·omega
   ·subst h;simp at hr
  simp(disch:=omega)only[c73,↓R73,a1,a2,a3,n0,t1,t2,↓l9,m9,zA,zB,zC,zD,zE,zF,zG,zH,zI,reduceCtorEq,zJ,zK,zL,zM]
  exact(by unfold T3;rw[if_neg hr])
theorem d9z(a b p:Int)(ha:D5 a)(hb:D5 b)(hp:p=a*b):
  ∃hi lo,a % 18446744073709551616*(b % 18446744073709551616) / 18446744073709551616=hi/\a % 18446744073709551616*(b % 18446744073709551616) % 18446744073709551616=lo/\U64 hi/\U64 lo/\
   IntKind.i64.wrap lo=IntKind.i64.wrap p/\
   ((let up:=IntKind.i64.wrap hi;let up:=if a<0 then IntKind.i64.wrap (up-b)else up;let up:=if b<0 then IntKind.i64.wrap (up-a)else up;(up==IntKind.i64.wrap lo / 9223372036854775808))=decide (D5 p)):=by
 have hpb: -85070591730234615865843651857942052864<=p/\p<=85070591730234615865843651857942052864:=by
  unfold D5 at ha hb
  rw[hp]
  have h1:(a.natAbs:Int)<=9223372036854775808:=by omega
  have h2:(b.natAbs:Int)<=9223372036854775808:=by omega
  have h3:((a*b).natAbs:Int)<=9223372036854775808*9223372036854775808:=by
   rw[Int.natAbs_mul,Int.natCast_mul]
   exact vHz h1 h2 (by omega) (by omega)
  omega
 refine⟨_,_,rfl,rfl,?_⟩
 unfold D5 at ha hb
 have hx:∃m,a % 18446744073709551616*(b % 18446744073709551616)=p+18446744073709551616*m/\
   m=(if a<0 then b else 0)+(if b<0 then a else 0)+(if a<0/\b<0 then 18446744073709551616 else 0):=by
  refine⟨_,?_,rfl⟩
  by_cases c1:a<0
  ·have e1:a % 18446744073709551616=a+18446744073709551616:=by omega
   by_cases c2:b<0
   ·have e2:b % 18446744073709551616=b+18446744073709551616:=by omega
    rw[e1,e2,if_pos c1,if_pos c2,if_pos ⟨c1,c2⟩,Int.add_mul,Int.mul_add,Int.mul_add,<-hp];omega
   ·have e2:b % 18446744073709551616=b:=by omega
    rw[e1,e2,if_pos c1,if_neg c2,if_neg (by omega),Int.add_mul,<-hp];omega
  ·have e1:a % 18446744073709551616=a:=by omega
   by_cases c2:b<0
   ·have e2:b % 18446744073709551616=b+18446744073709551616:=by omega
    rw[e1,e2,if_neg c1,if_pos c2,if_neg (by omega),Int.mul_add,<-hp];omega
   ·have e2:b % 18446744073709551616=b:=by omega
    rw[e1,e2,if_neg c1,if_neg c2,if_neg (by omega),<-hp];omega
 obtain⟨m,hm,hmm⟩:=hx
 have hpos:=X2 (a % 18446744073709551616) (b % 18446744073709551616) 18446744073709551615 (by omega) (by omega) (by omega) (by omega)
 rw[hm]at hpos ⊢
 clear hm hp
 have hq:(p+18446744073709551616*m) / 18446744073709551616=p / 18446744073709551616+m:=by omega
 have hl:(p+18446744073709551616*m) % 18446744073709551616=p % 18446744073709551616:=by omega
 have hqb: -4611686018427387904<=p / 18446744073709551616/\p / 18446744073709551616<=4611686018427387904:=by omega
 have hlw:IntKind.i64.wrap (p % 18446744073709551616)=IntKind.i64.wrap p:=by rw[R7,R7];omega
 rw[hq,hl,hlw]
 have ws:∀x y:Int,IntKind.i64.wrap (IntKind.i64.wrap x-y)=IntKind.i64.wrap (x-y):=fun x y=>by rw[R7,R7,R7];omega
 have ws2:∀x y z:Int,IntKind.i64.wrap (IntKind.i64.wrap x-y-z)=IntKind.i64.wrap (x-y-z):=fun x y z=>by rw[R7,R7,R7];omega
 have hw:∀x k:Int,x=p / 18446744073709551616+18446744073709551616*k->IntKind.i64.wrap x=p / 18446744073709551616:=fun x k hx=>by rw[R7];omega
 have hfin:(p / 18446744073709551616=IntKind.i64.wrap p / 9223372036854775808)↔D5 p:=by unfold D5;rw[R7];omega
 have hhi:U64 (p / 18446744073709551616+m):=by
  unfold U64
  clear ws hw hfin hlw
  omega
 refine⟨hhi,by unfold U64;omega,rfl,?_⟩
 simp only
 rw[Bool.eq_iff_iff,decide_eq_true_eq,beq_iff_eq,<-hfin]
 by_cases c1:a<0
 ·by_cases c2:b<0
  ·rw[if_pos c1,if_pos c2,if_pos ⟨c1,c2⟩]at hmm
   rw[if_pos c1,if_pos c2,ws,ws2,hw _ 1 (by omega)]
  ·rw[if_pos c1,if_neg c2,if_neg (by omega)]at hmm
   rw[if_pos c1,if_neg c2,ws,hw _ 0 (by omega)]
 ·by_cases c2:b<0
  ·rw[if_neg c1,if_pos c2,if_neg (by omega)]at hmm
   rw[if_neg c1,if_pos c2,ws,hw _ 0 (by omega)]
  ·rw[if_neg c1,if_neg c2,if_neg (by omega)]at hmm
   rw[if_neg c1,if_neg c2,hw _ 0 (by omega)]
theorem d9A(h:Heap)(a b:Int)(ha:D5 a)(hb:D5 b)(Q:Value->Heap->Prop):u9 cp 72 [.int .i64 a,.int .i64 b] h Q↔Q (.tuple #[.int .i64 (IntKind.i64.wrap (a*b)),.bool (decide (D5 (a*b)))]) h:=by
 refine v9 ?_ Q
 rw[a8 cp f0W]
 have f1:=fun h=>a8g h (a % 18446744073709551616) (b % 18446744073709551616) (by unfold U64;omega) (by unfold U64;omega)
 obtain⟨hi,lo,e1,e2,u1,u2,e3,e4⟩:=d9z a b (a*b) ha hb rfl
 have c64:∀x:Int,(2:Int) ^ 63=9223372036854775808:=fun _=>by decide
 have s1:=fun x:Int=>a2i .i64 x 63 (by decide)
 rw[<-e4,<-e3]
 by_cases c1:a<0
 ·have a1:=dTz c1
  by_cases c2:b<0
  ·have a2:=dTz c2
   simp(disch:=omega)only[c72,↓R72,a1Z,f1,e1,e2,a1,a2,s1,c64 0,c1,c2,↓l9,m9,zA,zB,zC,zD,zE,zF,zG,zH,zI,reduceCtorEq,zJ,zK,zL,zM]
   first|done|trivial
  ·have a2:=dFz c2
   simp(disch:=omega)only[c72,↓R72,a1Z,f1,e1,e2,a1,a2,s1,c64 0,c1,c2,↓l9,m9,zA,zB,zC,zD,zE,zF,zG,zH,zI,reduceCtorEq,zJ,zK,zL,zM]
   first|done|trivial
 ·have a1:=dFz c1
  by_cases c2:b<0
  ·have a2:=dTz c2
   simp(disch:=omega)only[c72,↓R72,a1Z,f1,e1,e2,a1,a2,s1,c64 0,c1,c2,↓l9,m9,zA,zB,zC,zD,zE,zF,zG,zH,zI,reduceCtorEq,zJ,zK,zL,zM]
   first|done|trivial
  ·have a2:=dFz c2
   simp(disch:=omega)only[c72,↓R72,a1Z,f1,e1,e2,a1,a2,s1,c64 0,c1,c2,↓l9,m9,zA,zB,zC,zD,zE,zF,zG,zH,zI,reduceCtorEq,zJ,zK,zL,zM]
   first|done|trivial
end Go.Proofs.YtlakhgibjfmjjaaGreat.Can
