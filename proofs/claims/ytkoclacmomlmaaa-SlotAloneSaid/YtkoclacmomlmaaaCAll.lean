/- The canonical code of functions of the program, written by a program of this session (wip/can/res.py). No condition. -/
import Derived.Test.YtkoclacmomlmaaaCanWp
namespace Go.Proofs.Ytkoclacmomlmaaa.Can
open Go
set_option linter.unusedVariables false
def big0 : ByteArray := ⟨#[0, 1, 2, 2, 3, 3, 3, 3, 4, 4, 4, 4, 4, 4, 4, 4, 5, 5, 5, 5, 5, 5, 5, 5, 5, 5, 5, 5, 5, 5, 5, 5, 6, 6, 6, 6, 6, 6, 6, 6, 6, 6, 6, 6, 6, 6, 6, 6, 6, 6, 6, 6, 6, 6, 6, 6, 6, 6, 6, 6, 6, 6, 6, 6, 7, 7, 7, 7, 7, 7, 7, 7, 7, 7, 7, 7, 7, 7, 7, 7, 7, 7, 7, 7, 7, 7, 7, 7, 7, 7, 7, 7, 7, 7, 7, 7, 7, 7, 7, 7, 7, 7, 7, 7, 7, 7, 7, 7, 7, 7, 7, 7, 7, 7, 7, 7, 7, 7, 7, 7, 7, 7, 7, 7, 7, 7, 7, 7, 8, 8, 8, 8, 8, 8, 8, 8, 8, 8, 8, 8, 8, 8, 8, 8, 8, 8, 8, 8, 8, 8, 8, 8, 8, 8, 8, 8, 8, 8, 8, 8, 8, 8, 8, 8, 8, 8, 8, 8, 8, 8, 8, 8, 8, 8, 8, 8, 8, 8, 8, 8, 8, 8, 8, 8, 8, 8, 8, 8, 8, 8, 8, 8, 8, 8, 8, 8, 8, 8, 8, 8, 8, 8, 8, 8, 8, 8, 8, 8, 8, 8, 8, 8, 8, 8, 8, 8, 8, 8, 8, 8, 8, 8, 8, 8, 8, 8, 8, 8, 8, 8, 8, 8, 8, 8, 8, 8, 8, 8, 8, 8, 8, 8, 8, 8, 8, 8, 8, 8, 8, 8, 8, 8, 8, 8, 8, 8]⟩
-- 3: weighbridge/weighbridgelaw06.SlotAlone
def c3_r0 : Env → Reg := fun e =>
  .op (.mv (.bool false)) fun t4 =>
  .done (e.upd 4 t4)
theorem c3_r0_run {CP : CProg} (e : Env) (h : Heap) (Q : Post) : RunR CP (c3_r0 e) h Q ↔ RunR CP (
  .op (.mv (.bool false)) fun t4 =>
  .done (e.upd 4 t4)) h Q := Iff.rfl
def c3_r1 : Env → Reg := fun e =>
  .op (.call 9 []) fun t17 =>
  .op (.un .not t17) fun t18 =>
  .done (e.upd 18 t18)
theorem c3_r1_run {CP : CProg} (e : Env) (h : Heap) (Q : Post) : RunR CP (c3_r1 e) h Q ↔ RunR CP (
  .op (.call 9 []) fun t17 =>
  .op (.un .not t17) fun t18 =>
  .done (e.upd 18 t18)) h Q := Iff.rfl
def c3_r2 : Env → Reg := fun e =>
  .op (.mv (.bool false)) fun t4 =>
  .done (e.upd 4 t4)
theorem c3_r2_run {CP : CProg} (e : Env) (h : Heap) (Q : Post) : RunR CP (c3_r2 e) h Q ↔ RunR CP (
  .op (.mv (.bool false)) fun t4 =>
  .done (e.upd 4 t4)) h Q := Iff.rfl
def c3_r3 : Env → Reg := fun e =>
  .op (.mv (e 0)) fun t19 =>
  .op (.lenSl t19) fun t20 =>
  .op (.bin .gtr t20 (.int .i64 60)) fun t21 =>
  .op (.mv t21) fun t22 =>
  .opg t22 false (.mv (e 1)) fun t23 =>
  .opg t22 false (.call 10 [t23]) fun t24 =>
  .opg t22 false (.un .not t24) fun t25 =>
  .op (.pick t22 (.bool true) t25) fun t26 =>
  .done (e.upd 26 t26)
theorem c3_r3_run {CP : CProg} (e : Env) (h : Heap) (Q : Post) : RunR CP (c3_r3 e) h Q ↔ RunR CP (
  .op (.mv (e 0)) fun t19 =>
  .op (.lenSl t19) fun t20 =>
  .op (.bin .gtr t20 (.int .i64 60)) fun t21 =>
  .op (.mv t21) fun t22 =>
  .opg t22 false (.mv (e 1)) fun t23 =>
  .opg t22 false (.call 10 [t23]) fun t24 =>
  .opg t22 false (.un .not t24) fun t25 =>
  .op (.pick t22 (.bool true) t25) fun t26 =>
  .done (e.upd 26 t26)) h Q := Iff.rfl
def c3_r4 : Env → Reg := fun e =>
  .op (.mv (.bool true)) fun t4 =>
  .done (e.upd 4 t4)
theorem c3_r4_run {CP : CProg} (e : Env) (h : Heap) (Q : Post) : RunR CP (c3_r4 e) h Q ↔ RunR CP (
  .op (.mv (.bool true)) fun t4 =>
  .done (e.upd 4 t4)) h Q := Iff.rfl
def c3_r5 : Env → Reg := fun e =>
  .op (.mv (e 0)) fun t27 =>
  .op (.call 11 [t27, (.int .i64 4)]) fun t28 =>
  .op (.mv t28) fun t5 =>
  .done (e.upd 5 t5)
theorem c3_r5_run {CP : CProg} (e : Env) (h : Heap) (Q : Post) : RunR CP (c3_r5 e) h Q ↔ RunR CP (
  .op (.mv (e 0)) fun t27 =>
  .op (.call 11 [t27, (.int .i64 4)]) fun t28 =>
  .op (.mv t28) fun t5 =>
  .done (e.upd 5 t5)) h Q := Iff.rfl
def c3_r6 : Env → Reg := fun e =>
  .op (.mv (e 5)) fun t29 =>
  .op (.call 12 [t29, (.int .i64 64)]) fun t30 =>
  .op (.mv t30) fun t6 =>
  .done (e.upd 6 t6)
theorem c3_r6_run {CP : CProg} (e : Env) (h : Heap) (Q : Post) : RunR CP (c3_r6 e) h Q ↔ RunR CP (
  .op (.mv (e 5)) fun t29 =>
  .op (.call 12 [t29, (.int .i64 64)]) fun t30 =>
  .op (.mv t30) fun t6 =>
  .done (e.upd 6 t6)) h Q := Iff.rfl
def c3_r7 : Env → Reg := fun e =>
  .op (.makeMap) fun t31 =>
  .op (.mv t31) fun t7 =>
  .done (e.upd 7 t7)
theorem c3_r7_run {CP : CProg} (e : Env) (h : Heap) (Q : Post) : RunR CP (c3_r7 e) h Q ↔ RunR CP (
  .op (.makeMap) fun t31 =>
  .op (.mv t31) fun t7 =>
  .done (e.upd 7 t7)) h Q := Iff.rfl
def c3_r8 : Env → Reg := fun e =>
  .op (.mv (e 1)) fun t32 =>
  .op (.lenSl t32) fun t33 =>
  .op (.mv (.int .i64 0)) fun t34 =>
  .done (((e.upd 32 t32).upd 33 t33).upd 34 t34)
theorem c3_r8_run {CP : CProg} (e : Env) (h : Heap) (Q : Post) : RunR CP (c3_r8 e) h Q ↔ RunR CP (
  .op (.mv (e 1)) fun t32 =>
  .op (.lenSl t32) fun t33 =>
  .op (.mv (.int .i64 0)) fun t34 =>
  .done (((e.upd 32 t32).upd 33 t33).upd 34 t34)) h Q := Iff.rfl
def c3_r9 : Env → Reg := fun e =>
  .op (.bin .lss (e 34) (e 33)) fun t35 =>
  .done (e.upd 35 t35)
theorem c3_r9_run {CP : CProg} (e : Env) (h : Heap) (Q : Post) : RunR CP (c3_r9 e) h Q ↔ RunR CP (
  .op (.bin .lss (e 34) (e 33)) fun t35 =>
  .done (e.upd 35 t35)) h Q := Iff.rfl
def c3_r10 : Env → Reg := fun e =>
  .op (.indexSl 2 (e 32) (e 34)) fun t36 =>
  .op (.load (some 2) t36) fun t37 =>
  .op (.alloc 32 [(.string ⟨#[]⟩), (.int .i64 0)]) fun t9 =>
  .op (.store 2 t9 t37) fun _ =>
  .done (e.upd 9 t9)
theorem c3_r10_run {CP : CProg} (e : Env) (h : Heap) (Q : Post) : RunR CP (c3_r10 e) h Q ↔ RunR CP (
  .op (.indexSl 2 (e 32) (e 34)) fun t36 =>
  .op (.load (some 2) t36) fun t37 =>
  .op (.alloc 32 [(.string ⟨#[]⟩), (.int .i64 0)]) fun t9 =>
  .op (.store 2 t9 t37) fun _ =>
  .done (e.upd 9 t9)) h Q := Iff.rfl
def c3_r11 : Env → Reg := fun e =>
  .op (.mv (e 6)) fun t38 =>
  .op (.fieldAddr 0 (e 9)) fun t39 =>
  .op (.load none t39) fun t40 =>
  .op (.fieldAddr 1 (e 9)) fun t41 =>
  .op (.load none t41) fun t42 =>
  .op (.bin .and t42 (.int .i64 65535)) fun t43 =>
  .op (.call 13 [t38, t40, t43]) fun t44 =>
  .done e
theorem c3_r11_run {CP : CProg} (e : Env) (h : Heap) (Q : Post) : RunR CP (c3_r11 e) h Q ↔ RunR CP (
  .op (.mv (e 6)) fun t38 =>
  .op (.fieldAddr 0 (e 9)) fun t39 =>
  .op (.load none t39) fun t40 =>
  .op (.fieldAddr 1 (e 9)) fun t41 =>
  .op (.load none t41) fun t42 =>
  .op (.bin .and t42 (.int .i64 65535)) fun t43 =>
  .op (.call 13 [t38, t40, t43]) fun t44 =>
  .done e) h Q := Iff.rfl
def c3_r12 : Env → Reg := fun e =>
  .op (.mv (e 7)) fun t45 =>
  .op (.fieldAddr 0 (e 9)) fun t46 =>
  .op (.load none t46) fun t47 =>
  .op (.lookup (.one .str) (.int .i64 0) false t45 t47) fun t48 =>
  .op (.fieldAddr 1 (e 9)) fun t49 =>
  .op (.load none t49) fun t50 =>
  .op (.bin .and t50 (.int .i64 65535)) fun t51 =>
  .op (.bin .add t48 t51) fun t52 =>
  .op (.mapUpdate (.one .str) t45 t47 t52) fun _ =>
  .done e
theorem c3_r12_run {CP : CProg} (e : Env) (h : Heap) (Q : Post) : RunR CP (c3_r12 e) h Q ↔ RunR CP (
  .op (.mv (e 7)) fun t45 =>
  .op (.fieldAddr 0 (e 9)) fun t46 =>
  .op (.load none t46) fun t47 =>
  .op (.lookup (.one .str) (.int .i64 0) false t45 t47) fun t48 =>
  .op (.fieldAddr 1 (e 9)) fun t49 =>
  .op (.load none t49) fun t50 =>
  .op (.bin .and t50 (.int .i64 65535)) fun t51 =>
  .op (.bin .add t48 t51) fun t52 =>
  .op (.mapUpdate (.one .str) t45 t47 t52) fun _ =>
  .done e) h Q := Iff.rfl
def c3_r13 : Env → Reg := fun e =>
  .op (.bin .add (e 34) (.int .i64 1)) fun t53 =>
  .op (.mv t53) fun t34 =>
  .done (e.upd 34 t34)
theorem c3_r13_run {CP : CProg} (e : Env) (h : Heap) (Q : Post) : RunR CP (c3_r13 e) h Q ↔ RunR CP (
  .op (.bin .add (e 34) (.int .i64 1)) fun t53 =>
  .op (.mv t53) fun t34 =>
  .done (e.upd 34 t34)) h Q := Iff.rfl
def c3_l0 : CC := (.seq (.region c3_r9) (.seq (.cond (fun e => e 35) .skip (.exit 0)) (.seq (.block 1 (.seq (.region c3_r10) (.seq (.region c3_r11) (.region c3_r12)))) (.region c3_r13))))
def c3_r14 : Env → Reg := fun e =>
  .op (.mv (e 7)) fun t54 =>
  .op (.rangeMap t54) fun t55 =>
  .done (e.upd 55 t55)
theorem c3_r14_run {CP : CProg} (e : Env) (h : Heap) (Q : Post) : RunR CP (c3_r14 e) h Q ↔ RunR CP (
  .op (.mv (e 7)) fun t54 =>
  .op (.rangeMap t54) fun t55 =>
  .done (e.upd 55 t55)) h Q := Iff.rfl
def c3_r15 : Env → Reg := fun e =>
  .op (.bad) fun t56 =>
  .op (.extract t56 0) fun t57 =>
  .done (e.upd 57 t57)
theorem c3_r15_run {CP : CProg} (e : Env) (h : Heap) (Q : Post) : RunR CP (c3_r15 e) h Q ↔ RunR CP (
  .op (.bad) fun t56 =>
  .op (.extract t56 0) fun t57 =>
  .done (e.upd 57 t57)) h Q := Iff.rfl
def c3_r16 : Env → Reg := fun e =>
  .op (.bad) fun t58 =>
  .op (.extract t58 0) fun t59 =>
  .op (.extract t58 1) fun t60 =>
  .op (.mv t59) fun t10 =>
  .op (.mv t60) fun t11 =>
  .done ((e.upd 10 t10).upd 11 t11)
theorem c3_r16_run {CP : CProg} (e : Env) (h : Heap) (Q : Post) : RunR CP (c3_r16 e) h Q ↔ RunR CP (
  .op (.bad) fun t58 =>
  .op (.extract t58 0) fun t59 =>
  .op (.extract t58 1) fun t60 =>
  .op (.mv t59) fun t10 =>
  .op (.mv t60) fun t11 =>
  .done ((e.upd 10 t10).upd 11 t11)) h Q := Iff.rfl
def c3_r17 : Env → Reg := fun e =>
  .op (.mv (.bool false)) fun t12 =>
  .done (e.upd 12 t12)
theorem c3_r17_run {CP : CProg} (e : Env) (h : Heap) (Q : Post) : RunR CP (c3_r17 e) h Q ↔ RunR CP (
  .op (.mv (.bool false)) fun t12 =>
  .done (e.upd 12 t12)) h Q := Iff.rfl
def c3_r18 : Env → Reg := fun e =>
  .op (.mv (e 5)) fun t61 =>
  .op (.lenSl t61) fun t62 =>
  .op (.mv (.int .i64 0)) fun t63 =>
  .done (((e.upd 61 t61).upd 62 t62).upd 63 t63)
theorem c3_r18_run {CP : CProg} (e : Env) (h : Heap) (Q : Post) : RunR CP (c3_r18 e) h Q ↔ RunR CP (
  .op (.mv (e 5)) fun t61 =>
  .op (.lenSl t61) fun t62 =>
  .op (.mv (.int .i64 0)) fun t63 =>
  .done (((e.upd 61 t61).upd 62 t62).upd 63 t63)) h Q := Iff.rfl
def c3_r19 : Env → Reg := fun e =>
  .op (.bin .lss (e 63) (e 62)) fun t64 =>
  .done (e.upd 64 t64)
theorem c3_r19_run {CP : CProg} (e : Env) (h : Heap) (Q : Post) : RunR CP (c3_r19 e) h Q ↔ RunR CP (
  .op (.bin .lss (e 63) (e 62)) fun t64 =>
  .done (e.upd 64 t64)) h Q := Iff.rfl
def c3_r20 : Env → Reg := fun e =>
  .op (.indexSl 3 (e 61) (e 63)) fun t65 =>
  .op (.load (some 3) t65) fun t66 =>
  .op (.alloc 36 [(.int .u64 0), (.int .u64 0), (.int .u64 0)]) fun t14 =>
  .op (.store 3 t14 t66) fun _ =>
  .done (e.upd 14 t14)
theorem c3_r20_run {CP : CProg} (e : Env) (h : Heap) (Q : Post) : RunR CP (c3_r20 e) h Q ↔ RunR CP (
  .op (.indexSl 3 (e 61) (e 63)) fun t65 =>
  .op (.load (some 3) t65) fun t66 =>
  .op (.alloc 36 [(.int .u64 0), (.int .u64 0), (.int .u64 0)]) fun t14 =>
  .op (.store 3 t14 t66) fun _ =>
  .done (e.upd 14 t14)) h Q := Iff.rfl
def c3_r21 : Env → Reg := fun e =>
  .op (.mv (.bool false)) fun t15 =>
  .done (e.upd 15 t15)
theorem c3_r21_run {CP : CProg} (e : Env) (h : Heap) (Q : Post) : RunR CP (c3_r21 e) h Q ↔ RunR CP (
  .op (.mv (.bool false)) fun t15 =>
  .done (e.upd 15 t15)) h Q := Iff.rfl
def c3_r22 : Env → Reg := fun e =>
  .op (.mv (e 7)) fun t67 =>
  .op (.rangeMap t67) fun t68 =>
  .done (e.upd 68 t68)
theorem c3_r22_run {CP : CProg} (e : Env) (h : Heap) (Q : Post) : RunR CP (c3_r22 e) h Q ↔ RunR CP (
  .op (.mv (e 7)) fun t67 =>
  .op (.rangeMap t67) fun t68 =>
  .done (e.upd 68 t68)) h Q := Iff.rfl
def c3_r23 : Env → Reg := fun e =>
  .op (.bad) fun t69 =>
  .op (.extract t69 0) fun t70 =>
  .done (e.upd 70 t70)
theorem c3_r23_run {CP : CProg} (e : Env) (h : Heap) (Q : Post) : RunR CP (c3_r23 e) h Q ↔ RunR CP (
  .op (.bad) fun t69 =>
  .op (.extract t69 0) fun t70 =>
  .done (e.upd 70 t70)) h Q := Iff.rfl
def c3_r24 : Env → Reg := fun e =>
  .op (.bad) fun t71 =>
  .op (.extract t71 0) fun t72 =>
  .op (.mv t72) fun t16 =>
  .done (e.upd 16 t16)
theorem c3_r24_run {CP : CProg} (e : Env) (h : Heap) (Q : Post) : RunR CP (c3_r24 e) h Q ↔ RunR CP (
  .op (.bad) fun t71 =>
  .op (.extract t71 0) fun t72 =>
  .op (.mv t72) fun t16 =>
  .done (e.upd 16 t16)) h Q := Iff.rfl
def c3_r25_c2 (e : Env) (t74 : Value) (t78 : Value) (t85 : Value) : Reg :=
  .opg t74 false (.pick t78 t85 (.bool false)) fun t86 =>
  .op (.pick t74 (.bool true) t86) fun t87 =>
  .op (.mv t87) fun t15 =>
  .done (e.upd 15 t15)
theorem c3_r25_c2_run {CP : CProg} (e : Env) (t74 : Value) (t78 : Value) (t85 : Value) (h : Heap) (Q : Post) : RunR CP (c3_r25_c2 e t74 t78 t85) h Q ↔ RunR CP (
  .opg t74 false (.pick t78 t85 (.bool false)) fun t86 =>
  .op (.pick t74 (.bool true) t86) fun t87 =>
  .op (.mv t87) fun t15 =>
  .done (e.upd 15 t15)) h Q := Iff.rfl
def c3_r25_c1 (e : Env) (t74 : Value) (t78 : Value) (t79 : Value) (t80 : Value) : Reg :=
  .snap fun h8 =>
  .opg t78 true (.call 14 [t79, t80, (.int .i64 64)]) fun t81 =>
  .opg t78 true (.load (some 3) (e 14)) fun t82 =>
  .chk (some (t78, true)) (some h8) (.load (some 3) (e 14)) t82 <|
  .opg t78 true (.mv (e 10)) fun t83 =>
  .snap fun h11 =>
  .opg t78 true (.call 14 [t82, t83, (.int .i64 64)]) fun t84 =>
  .opg t78 true (.bin .eql t81 t84) fun t85 =>
  c3_r25_c2 e t74 t78 t85
theorem c3_r25_c1_run {CP : CProg} (e : Env) (t74 : Value) (t78 : Value) (t79 : Value) (t80 : Value) (h : Heap) (Q : Post) : RunR CP (c3_r25_c1 e t74 t78 t79 t80) h Q ↔ RunR CP (
  .snap fun h8 =>
  .opg t78 true (.call 14 [t79, t80, (.int .i64 64)]) fun t81 =>
  .opg t78 true (.load (some 3) (e 14)) fun t82 =>
  .chk (some (t78, true)) (some h8) (.load (some 3) (e 14)) t82 <|
  .opg t78 true (.mv (e 10)) fun t83 =>
  .snap fun h11 =>
  .opg t78 true (.call 14 [t82, t83, (.int .i64 64)]) fun t84 =>
  .opg t78 true (.bin .eql t81 t84) fun t85 =>
  c3_r25_c2 e t74 t78 t85) h Q := Iff.rfl
def c3_r25 : Env → Reg := fun e =>
  .op (.mv (e 15)) fun t73 =>
  .op (.mv t73) fun t74 =>
  .opg t74 false (.mv (e 16)) fun t75 =>
  .opg t74 false (.mv (e 10)) fun t76 =>
  .opg t74 false (.bin .neq t75 t76) fun t77 =>
  .opg t74 false (.mv t77) fun t78 =>
  .opg t78 true (.load (some 3) (e 14)) fun t79 =>
  .opg t78 true (.mv (e 16)) fun t80 =>
  c3_r25_c1 e t74 t78 t79 t80
theorem c3_r25_run {CP : CProg} (e : Env) (h : Heap) (Q : Post) : RunR CP (c3_r25 e) h Q ↔ RunR CP (
  .op (.mv (e 15)) fun t73 =>
  .op (.mv t73) fun t74 =>
  .opg t74 false (.mv (e 16)) fun t75 =>
  .opg t74 false (.mv (e 10)) fun t76 =>
  .opg t74 false (.bin .neq t75 t76) fun t77 =>
  .opg t74 false (.mv t77) fun t78 =>
  .opg t78 true (.load (some 3) (e 14)) fun t79 =>
  .opg t78 true (.mv (e 16)) fun t80 =>
  c3_r25_c1 e t74 t78 t79 t80) h Q := Iff.rfl
def c3_l1 : CC := (.seq (.region c3_r23) (.seq (.cond (fun e => e 70) .skip (.exit 6)) (.block 7 (.seq (.region c3_r24) (.region c3_r25)))))
def c3_r26 : Env → Reg := fun e =>
  .op (.mv (e 12)) fun t88 =>
  .op (.mv t88) fun t89 =>
  .opg t89 false (.mv (e 15)) fun t90 =>
  .opg t89 false (.un .not t90) fun t91 =>
  .op (.pick t89 (.bool true) t91) fun t92 =>
  .op (.mv t92) fun t12 =>
  .done (e.upd 12 t12)
theorem c3_r26_run {CP : CProg} (e : Env) (h : Heap) (Q : Post) : RunR CP (c3_r26 e) h Q ↔ RunR CP (
  .op (.mv (e 12)) fun t88 =>
  .op (.mv t88) fun t89 =>
  .opg t89 false (.mv (e 15)) fun t90 =>
  .opg t89 false (.un .not t90) fun t91 =>
  .op (.pick t89 (.bool true) t91) fun t92 =>
  .op (.mv t92) fun t12 =>
  .done (e.upd 12 t12)) h Q := Iff.rfl
def c3_r27 : Env → Reg := fun e =>
  .op (.bin .add (e 63) (.int .i64 1)) fun t93 =>
  .op (.mv t93) fun t63 =>
  .done (e.upd 63 t63)
theorem c3_r27_run {CP : CProg} (e : Env) (h : Heap) (Q : Post) : RunR CP (c3_r27 e) h Q ↔ RunR CP (
  .op (.bin .add (e 63) (.int .i64 1)) fun t93 =>
  .op (.mv t93) fun t63 =>
  .done (e.upd 63 t63)) h Q := Iff.rfl
def c3_l2 : CC := (.seq (.region c3_r19) (.seq (.cond (fun e => e 64) .skip (.exit 4)) (.seq (.block 5 (.seq (.region c3_r20) (.seq (.region c3_r21) (.seq (.seq (.region c3_r22) (.block 6 (.loop c3_l1))) (.region c3_r26))))) (.region c3_r27))))
def c3_r28 : Env → Reg := fun e =>
  .op (.mv (e 12)) fun t94 =>
  .op (.mv t94) fun t95 =>
  .opg t95 true (.mv (e 6)) fun t96 =>
  .opg t95 true (.mv (e 10)) fun t97 =>
  .opg t95 true (.call 15 [t96, t97]) fun t98 =>
  .opg t95 true (.mv (e 11)) fun t99 =>
  .opg t95 true (.bin .neq t98 t99) fun t100 =>
  .op (.pick t95 t100 (.bool false)) fun t101 =>
  .done (e.upd 101 t101)
theorem c3_r28_run {CP : CProg} (e : Env) (h : Heap) (Q : Post) : RunR CP (c3_r28 e) h Q ↔ RunR CP (
  .op (.mv (e 12)) fun t94 =>
  .op (.mv t94) fun t95 =>
  .opg t95 true (.mv (e 6)) fun t96 =>
  .opg t95 true (.mv (e 10)) fun t97 =>
  .opg t95 true (.call 15 [t96, t97]) fun t98 =>
  .opg t95 true (.mv (e 11)) fun t99 =>
  .opg t95 true (.bin .neq t98 t99) fun t100 =>
  .op (.pick t95 t100 (.bool false)) fun t101 =>
  .done (e.upd 101 t101)) h Q := Iff.rfl
def c3_r29 : Env → Reg := fun e =>
  .op (.mv (.bool false)) fun t4 =>
  .done (e.upd 4 t4)
theorem c3_r29_run {CP : CProg} (e : Env) (h : Heap) (Q : Post) : RunR CP (c3_r29 e) h Q ↔ RunR CP (
  .op (.mv (.bool false)) fun t4 =>
  .done (e.upd 4 t4)) h Q := Iff.rfl
def c3_l3 : CC := (.seq (.region c3_r15) (.seq (.cond (fun e => e 57) .skip (.exit 2)) (.block 3 (.seq (.region c3_r16) (.seq (.region c3_r17) (.seq (.seq (.region c3_r18) (.block 4 (.loop c3_l2))) (.seq (.region c3_r28) (.cond (fun e => e 101) (.seq (.region c3_r29) .ret) .skip))))))))
def c3_r30 : Env → Reg := fun e =>
  .op (.mv (.bool true)) fun t4 =>
  .done (e.upd 4 t4)
theorem c3_r30_run {CP : CProg} (e : Env) (h : Heap) (Q : Post) : RunR CP (c3_r30 e) h Q ↔ RunR CP (
  .op (.mv (.bool true)) fun t4 =>
  .done (e.upd 4 t4)) h Q := Iff.rfl
def c3 : CFn := ⟨(.seq (.region c3_r0) (.seq (.seq (.region c3_r1) (.cond (fun e => e 18) (.seq (.region c3_r2) .ret) .skip)) (.seq (.seq (.region c3_r3) (.cond (fun e => e 26) (.seq (.region c3_r4) .ret) .skip)) (.seq (.region c3_r5) (.seq (.region c3_r6) (.seq (.region c3_r7) (.seq (.seq (.region c3_r8) (.block 0 (.loop c3_l0))) (.seq (.seq (.region c3_r14) (.block 2 (.loop c3_l3))) (.seq (.region c3_r30) .ret))))))))), [.t 4]⟩
def p3 : Pers := ⟨17, [18, 26, 32, 33, 34, 35, 55, 57, 61, 62, 63, 64, 68, 70, 101], 102⟩
-- 4: weighbridge/weighbridgelaw06.SlotLeast
def c4_r0 : Env → Reg := fun e =>
  .op (.mv (.bool false)) fun t6 =>
  .done (e.upd 6 t6)
theorem c4_r0_run {CP : CProg} (e : Env) (h : Heap) (Q : Post) : RunR CP (c4_r0 e) h Q ↔ RunR CP (
  .op (.mv (.bool false)) fun t6 =>
  .done (e.upd 6 t6)) h Q := Iff.rfl
def c4_r1 : Env → Reg := fun e =>
  .op (.call 9 []) fun t14 =>
  .op (.un .not t14) fun t15 =>
  .done (e.upd 15 t15)
theorem c4_r1_run {CP : CProg} (e : Env) (h : Heap) (Q : Post) : RunR CP (c4_r1 e) h Q ↔ RunR CP (
  .op (.call 9 []) fun t14 =>
  .op (.un .not t14) fun t15 =>
  .done (e.upd 15 t15)) h Q := Iff.rfl
def c4_r2 : Env → Reg := fun e =>
  .op (.mv (.bool false)) fun t6 =>
  .done (e.upd 6 t6)
theorem c4_r2_run {CP : CProg} (e : Env) (h : Heap) (Q : Post) : RunR CP (c4_r2 e) h Q ↔ RunR CP (
  .op (.mv (.bool false)) fun t6 =>
  .done (e.upd 6 t6)) h Q := Iff.rfl
def c4_r3_c1 (e : Env) (t23 : Value) : Reg :=
  .op (.mv t23) fun t24 =>
  .opg t24 false (.mv (e 2)) fun t25 =>
  .opg t24 false (.lenStr t25) fun t26 =>
  .opg t24 false (.bin .gtr t26 (.int .i64 100)) fun t27 =>
  .op (.pick t24 (.bool true) t27) fun t28 =>
  .done (e.upd 28 t28)
theorem c4_r3_c1_run {CP : CProg} (e : Env) (t23 : Value) (h : Heap) (Q : Post) : RunR CP (c4_r3_c1 e t23) h Q ↔ RunR CP (
  .op (.mv t23) fun t24 =>
  .opg t24 false (.mv (e 2)) fun t25 =>
  .opg t24 false (.lenStr t25) fun t26 =>
  .opg t24 false (.bin .gtr t26 (.int .i64 100)) fun t27 =>
  .op (.pick t24 (.bool true) t27) fun t28 =>
  .done (e.upd 28 t28)) h Q := Iff.rfl
def c4_r3 : Env → Reg := fun e =>
  .op (.mv (e 0)) fun t16 =>
  .op (.lenSl t16) fun t17 =>
  .op (.bin .gtr t17 (.int .i64 60)) fun t18 =>
  .op (.mv t18) fun t19 =>
  .opg t19 false (.mv (e 1)) fun t20 =>
  .opg t19 false (.call 10 [t20]) fun t21 =>
  .opg t19 false (.un .not t21) fun t22 =>
  .op (.pick t19 (.bool true) t22) fun t23 =>
  c4_r3_c1 e t23
theorem c4_r3_run {CP : CProg} (e : Env) (h : Heap) (Q : Post) : RunR CP (c4_r3 e) h Q ↔ RunR CP (
  .op (.mv (e 0)) fun t16 =>
  .op (.lenSl t16) fun t17 =>
  .op (.bin .gtr t17 (.int .i64 60)) fun t18 =>
  .op (.mv t18) fun t19 =>
  .opg t19 false (.mv (e 1)) fun t20 =>
  .opg t19 false (.call 10 [t20]) fun t21 =>
  .opg t19 false (.un .not t21) fun t22 =>
  .op (.pick t19 (.bool true) t22) fun t23 =>
  c4_r3_c1 e t23) h Q := Iff.rfl
def c4_r4 : Env → Reg := fun e =>
  .op (.mv (.bool true)) fun t6 =>
  .done (e.upd 6 t6)
theorem c4_r4_run {CP : CProg} (e : Env) (h : Heap) (Q : Post) : RunR CP (c4_r4 e) h Q ↔ RunR CP (
  .op (.mv (.bool true)) fun t6 =>
  .done (e.upd 6 t6)) h Q := Iff.rfl
def c4_r5 : Env → Reg := fun e =>
  .op (.mv (e 0)) fun t29 =>
  .op (.call 11 [t29, (.int .i64 4)]) fun t30 =>
  .op (.call 12 [t30, (.int .i64 5)]) fun t31 =>
  .op (.mv t31) fun t7 =>
  .done (e.upd 7 t7)
theorem c4_r5_run {CP : CProg} (e : Env) (h : Heap) (Q : Post) : RunR CP (c4_r5 e) h Q ↔ RunR CP (
  .op (.mv (e 0)) fun t29 =>
  .op (.call 11 [t29, (.int .i64 4)]) fun t30 =>
  .op (.call 12 [t30, (.int .i64 5)]) fun t31 =>
  .op (.mv t31) fun t7 =>
  .done (e.upd 7 t7)) h Q := Iff.rfl
def c4_r6 : Env → Reg := fun e =>
  .op (.mv (.int .i64 0)) fun t8 =>
  .done (e.upd 8 t8)
theorem c4_r6_run {CP : CProg} (e : Env) (h : Heap) (Q : Post) : RunR CP (c4_r6 e) h Q ↔ RunR CP (
  .op (.mv (.int .i64 0)) fun t8 =>
  .done (e.upd 8 t8)) h Q := Iff.rfl
def c4_r7 : Env → Reg := fun e =>
  .op (.mv (e 1)) fun t32 =>
  .op (.lenSl t32) fun t33 =>
  .op (.mv (.int .i64 0)) fun t34 =>
  .done (((e.upd 32 t32).upd 33 t33).upd 34 t34)
theorem c4_r7_run {CP : CProg} (e : Env) (h : Heap) (Q : Post) : RunR CP (c4_r7 e) h Q ↔ RunR CP (
  .op (.mv (e 1)) fun t32 =>
  .op (.lenSl t32) fun t33 =>
  .op (.mv (.int .i64 0)) fun t34 =>
  .done (((e.upd 32 t32).upd 33 t33).upd 34 t34)) h Q := Iff.rfl
def c4_r8 : Env → Reg := fun e =>
  .op (.bin .lss (e 34) (e 33)) fun t35 =>
  .done (e.upd 35 t35)
theorem c4_r8_run {CP : CProg} (e : Env) (h : Heap) (Q : Post) : RunR CP (c4_r8 e) h Q ↔ RunR CP (
  .op (.bin .lss (e 34) (e 33)) fun t35 =>
  .done (e.upd 35 t35)) h Q := Iff.rfl
def c4_r9 : Env → Reg := fun e =>
  .op (.indexSl 2 (e 32) (e 34)) fun t36 =>
  .op (.load (some 2) t36) fun t37 =>
  .op (.alloc 32 [(.string ⟨#[]⟩), (.int .i64 0)]) fun t10 =>
  .op (.store 2 t10 t37) fun _ =>
  .done (e.upd 10 t10)
theorem c4_r9_run {CP : CProg} (e : Env) (h : Heap) (Q : Post) : RunR CP (c4_r9 e) h Q ↔ RunR CP (
  .op (.indexSl 2 (e 32) (e 34)) fun t36 =>
  .op (.load (some 2) t36) fun t37 =>
  .op (.alloc 32 [(.string ⟨#[]⟩), (.int .i64 0)]) fun t10 =>
  .op (.store 2 t10 t37) fun _ =>
  .done (e.upd 10 t10)) h Q := Iff.rfl
def c4_r10 : Env → Reg := fun e =>
  .op (.mv (e 7)) fun t38 =>
  .op (.fieldAddr 0 (e 10)) fun t39 =>
  .op (.load none t39) fun t40 =>
  .op (.fieldAddr 1 (e 10)) fun t41 =>
  .op (.load none t41) fun t42 =>
  .op (.call 13 [t38, t40, t42]) fun t43 =>
  .done e
theorem c4_r10_run {CP : CProg} (e : Env) (h : Heap) (Q : Post) : RunR CP (c4_r10 e) h Q ↔ RunR CP (
  .op (.mv (e 7)) fun t38 =>
  .op (.fieldAddr 0 (e 10)) fun t39 =>
  .op (.load none t39) fun t40 =>
  .op (.fieldAddr 1 (e 10)) fun t41 =>
  .op (.load none t41) fun t42 =>
  .op (.call 13 [t38, t40, t42]) fun t43 =>
  .done e) h Q := Iff.rfl
def c4_r11 : Env → Reg := fun e =>
  .op (.mv (e 7)) fun t44 =>
  .op (.mv (e 2)) fun t45 =>
  .op (.call 15 [t44, t45]) fun t46 =>
  .op (.mv t46) fun t11 =>
  .done (e.upd 11 t11)
theorem c4_r11_run {CP : CProg} (e : Env) (h : Heap) (Q : Post) : RunR CP (c4_r11 e) h Q ↔ RunR CP (
  .op (.mv (e 7)) fun t44 =>
  .op (.mv (e 2)) fun t45 =>
  .op (.call 15 [t44, t45]) fun t46 =>
  .op (.mv t46) fun t11 =>
  .done (e.upd 11 t11)) h Q := Iff.rfl
def c4_r12 : Env → Reg := fun e =>
  .op (.mv (.bool false)) fun t12 =>
  .done (e.upd 12 t12)
theorem c4_r12_run {CP : CProg} (e : Env) (h : Heap) (Q : Post) : RunR CP (c4_r12 e) h Q ↔ RunR CP (
  .op (.mv (.bool false)) fun t12 =>
  .done (e.upd 12 t12)) h Q := Iff.rfl
def c4_r13 : Env → Reg := fun e =>
  .op (.mv (.int .i64 0)) fun t47 =>
  .done (e.upd 47 t47)
theorem c4_r13_run {CP : CProg} (e : Env) (h : Heap) (Q : Post) : RunR CP (c4_r13 e) h Q ↔ RunR CP (
  .op (.mv (.int .i64 0)) fun t47 =>
  .done (e.upd 47 t47)) h Q := Iff.rfl
def c4_r14 : Env → Reg := fun e =>
  .op (.bin .lss (e 47) (.int .i64 4)) fun t48 =>
  .done (e.upd 48 t48)
theorem c4_r14_run {CP : CProg} (e : Env) (h : Heap) (Q : Post) : RunR CP (c4_r14 e) h Q ↔ RunR CP (
  .op (.bin .lss (e 47) (.int .i64 4)) fun t48 =>
  .done (e.upd 48 t48)) h Q := Iff.rfl
def c4_r15 : Env → Reg := fun e =>
  .op (.mv (e 47)) fun t49 =>
  .op (.mv t49) fun t13 =>
  .done (e.upd 13 t13)
theorem c4_r15_run {CP : CProg} (e : Env) (h : Heap) (Q : Post) : RunR CP (c4_r15 e) h Q ↔ RunR CP (
  .op (.mv (e 47)) fun t49 =>
  .op (.mv t49) fun t13 =>
  .done (e.upd 13 t13)) h Q := Iff.rfl
def c4_r16 : Env → Reg := fun e =>
  .op (.mv (e 12)) fun t50 =>
  .op (.mv t50) fun t51 =>
  .opg t51 false (.mv (e 7)) fun t52 =>
  .opg t51 false (.mv (e 13)) fun t53 =>
  .opg t51 false (.mv (e 2)) fun t54 =>
  .opg t51 false (.call 16 [t52, t53, t54]) fun t55 =>
  .opg t51 false (.mv (e 11)) fun t56 =>
  .opg t51 false (.bin .eql t55 t56) fun t57 =>
  .op (.pick t51 (.bool true) t57) fun t58 =>
  .op (.mv t58) fun t12 =>
  .done (e.upd 12 t12)
theorem c4_r16_run {CP : CProg} (e : Env) (h : Heap) (Q : Post) : RunR CP (c4_r16 e) h Q ↔ RunR CP (
  .op (.mv (e 12)) fun t50 =>
  .op (.mv t50) fun t51 =>
  .opg t51 false (.mv (e 7)) fun t52 =>
  .opg t51 false (.mv (e 13)) fun t53 =>
  .opg t51 false (.mv (e 2)) fun t54 =>
  .opg t51 false (.call 16 [t52, t53, t54]) fun t55 =>
  .opg t51 false (.mv (e 11)) fun t56 =>
  .opg t51 false (.bin .eql t55 t56) fun t57 =>
  .op (.pick t51 (.bool true) t57) fun t58 =>
  .op (.mv t58) fun t12 =>
  .done (e.upd 12 t12)) h Q := Iff.rfl
def c4_r17 : Env → Reg := fun e =>
  .op (.mv (e 7)) fun t59 =>
  .op (.mv (e 13)) fun t60 =>
  .op (.mv (e 2)) fun t61 =>
  .op (.call 16 [t59, t60, t61]) fun t62 =>
  .op (.mv (e 11)) fun t63 =>
  .op (.bin .lss t62 t63) fun t64 =>
  .done (e.upd 64 t64)
theorem c4_r17_run {CP : CProg} (e : Env) (h : Heap) (Q : Post) : RunR CP (c4_r17 e) h Q ↔ RunR CP (
  .op (.mv (e 7)) fun t59 =>
  .op (.mv (e 13)) fun t60 =>
  .op (.mv (e 2)) fun t61 =>
  .op (.call 16 [t59, t60, t61]) fun t62 =>
  .op (.mv (e 11)) fun t63 =>
  .op (.bin .lss t62 t63) fun t64 =>
  .done (e.upd 64 t64)) h Q := Iff.rfl
def c4_r18 : Env → Reg := fun e =>
  .op (.mv (.bool false)) fun t6 =>
  .done (e.upd 6 t6)
theorem c4_r18_run {CP : CProg} (e : Env) (h : Heap) (Q : Post) : RunR CP (c4_r18 e) h Q ↔ RunR CP (
  .op (.mv (.bool false)) fun t6 =>
  .done (e.upd 6 t6)) h Q := Iff.rfl
def c4_r19 : Env → Reg := fun e =>
  .op (.bin .add (e 47) (.int .i64 1)) fun t65 =>
  .op (.mv t65) fun t47 =>
  .done (e.upd 47 t47)
theorem c4_r19_run {CP : CProg} (e : Env) (h : Heap) (Q : Post) : RunR CP (c4_r19 e) h Q ↔ RunR CP (
  .op (.bin .add (e 47) (.int .i64 1)) fun t65 =>
  .op (.mv t65) fun t47 =>
  .done (e.upd 47 t47)) h Q := Iff.rfl
def c4_l0 : CC := (.seq (.region c4_r14) (.seq (.cond (fun e => e 48) .skip (.exit 2)) (.seq (.block 3 (.seq (.region c4_r15) (.seq (.region c4_r16) (.seq (.region c4_r17) (.cond (fun e => e 64) (.seq (.region c4_r18) .ret) .skip))))) (.region c4_r19))))
def c4_r20 : Env → Reg := fun e =>
  .op (.mv (e 12)) fun t66 =>
  .op (.un .not t66) fun t67 =>
  .op (.mv t67) fun t68 =>
  .opg t68 false (.mv (e 11)) fun t69 =>
  .opg t68 false (.mv (e 8)) fun t70 =>
  .opg t68 false (.bin .lss t69 t70) fun t71 =>
  .op (.pick t68 (.bool true) t71) fun t72 =>
  .done (e.upd 72 t72)
theorem c4_r20_run {CP : CProg} (e : Env) (h : Heap) (Q : Post) : RunR CP (c4_r20 e) h Q ↔ RunR CP (
  .op (.mv (e 12)) fun t66 =>
  .op (.un .not t66) fun t67 =>
  .op (.mv t67) fun t68 =>
  .opg t68 false (.mv (e 11)) fun t69 =>
  .opg t68 false (.mv (e 8)) fun t70 =>
  .opg t68 false (.bin .lss t69 t70) fun t71 =>
  .op (.pick t68 (.bool true) t71) fun t72 =>
  .done (e.upd 72 t72)) h Q := Iff.rfl
def c4_r21 : Env → Reg := fun e =>
  .op (.mv (.bool false)) fun t6 =>
  .done (e.upd 6 t6)
theorem c4_r21_run {CP : CProg} (e : Env) (h : Heap) (Q : Post) : RunR CP (c4_r21 e) h Q ↔ RunR CP (
  .op (.mv (.bool false)) fun t6 =>
  .done (e.upd 6 t6)) h Q := Iff.rfl
def c4_r22 : Env → Reg := fun e =>
  .op (.mv (e 11)) fun t73 =>
  .op (.mv t73) fun t8 =>
  .done (e.upd 8 t8)
theorem c4_r22_run {CP : CProg} (e : Env) (h : Heap) (Q : Post) : RunR CP (c4_r22 e) h Q ↔ RunR CP (
  .op (.mv (e 11)) fun t73 =>
  .op (.mv t73) fun t8 =>
  .done (e.upd 8 t8)) h Q := Iff.rfl
def c4_r23 : Env → Reg := fun e =>
  .op (.bin .add (e 34) (.int .i64 1)) fun t74 =>
  .op (.mv t74) fun t34 =>
  .done (e.upd 34 t34)
theorem c4_r23_run {CP : CProg} (e : Env) (h : Heap) (Q : Post) : RunR CP (c4_r23 e) h Q ↔ RunR CP (
  .op (.bin .add (e 34) (.int .i64 1)) fun t74 =>
  .op (.mv t74) fun t34 =>
  .done (e.upd 34 t34)) h Q := Iff.rfl
def c4_l1 : CC := (.seq (.region c4_r8) (.seq (.cond (fun e => e 35) .skip (.exit 0)) (.seq (.block 1 (.seq (.region c4_r9) (.seq (.region c4_r10) (.seq (.region c4_r11) (.seq (.region c4_r12) (.seq (.seq (.region c4_r13) (.block 2 (.loop c4_l0))) (.seq (.seq (.region c4_r20) (.cond (fun e => e 72) (.seq (.region c4_r21) .ret) .skip)) (.region c4_r22)))))))) (.region c4_r23))))
def c4_r24 : Env → Reg := fun e =>
  .op (.mv (e 7)) fun t75 =>
  .op (.mv (e 2)) fun t76 =>
  .op (.call 15 [t75, t76]) fun t77 =>
  .op (.mv (e 8)) fun t78 =>
  .op (.bin .eql t77 t78) fun t79 =>
  .op (.mv t79) fun t6 =>
  .done (e.upd 6 t6)
theorem c4_r24_run {CP : CProg} (e : Env) (h : Heap) (Q : Post) : RunR CP (c4_r24 e) h Q ↔ RunR CP (
  .op (.mv (e 7)) fun t75 =>
  .op (.mv (e 2)) fun t76 =>
  .op (.call 15 [t75, t76]) fun t77 =>
  .op (.mv (e 8)) fun t78 =>
  .op (.bin .eql t77 t78) fun t79 =>
  .op (.mv t79) fun t6 =>
  .done (e.upd 6 t6)) h Q := Iff.rfl
def c4 : CFn := ⟨(.seq (.region c4_r0) (.seq (.seq (.region c4_r1) (.cond (fun e => e 15) (.seq (.region c4_r2) .ret) .skip)) (.seq (.seq (.region c4_r3) (.cond (fun e => e 28) (.seq (.region c4_r4) .ret) .skip)) (.seq (.region c4_r5) (.seq (.region c4_r6) (.seq (.seq (.region c4_r7) (.block 0 (.loop c4_l1))) (.seq (.region c4_r24) .ret))))))), [.t 6]⟩
def p4 : Pers := ⟨14, [15, 28, 32, 33, 34, 35, 47, 48, 64, 72], 80⟩
-- 5: weighbridge/weighbridgelaw06.SlotOne
def c5_r0 : Env → Reg := fun e =>
  .op (.box 42 (e 1)) fun t4 =>
  .op (.mv (.bool false)) fun t6 =>
  .done ((e.upd 4 t4).upd 6 t6)
theorem c5_r0_run {CP : CProg} (e : Env) (h : Heap) (Q : Post) : RunR CP (c5_r0 e) h Q ↔ RunR CP (
  .op (.box 42 (e 1)) fun t4 =>
  .op (.mv (.bool false)) fun t6 =>
  .done ((e.upd 4 t4).upd 6 t6)) h Q := Iff.rfl
def c5_r1 : Env → Reg := fun e =>
  .op (.call 9 []) fun t11 =>
  .op (.un .not t11) fun t12 =>
  .done (e.upd 12 t12)
theorem c5_r1_run {CP : CProg} (e : Env) (h : Heap) (Q : Post) : RunR CP (c5_r1 e) h Q ↔ RunR CP (
  .op (.call 9 []) fun t11 =>
  .op (.un .not t11) fun t12 =>
  .done (e.upd 12 t12)) h Q := Iff.rfl
def c5_r2 : Env → Reg := fun e =>
  .op (.mv (.bool false)) fun t6 =>
  .done (e.upd 6 t6)
theorem c5_r2_run {CP : CProg} (e : Env) (h : Heap) (Q : Post) : RunR CP (c5_r2 e) h Q ↔ RunR CP (
  .op (.mv (.bool false)) fun t6 =>
  .done (e.upd 6 t6)) h Q := Iff.rfl
def c5_r3 : Env → Reg := fun e =>
  .op (.mv (e 0)) fun t13 =>
  .op (.lenSl t13) fun t14 =>
  .op (.bin .gtr t14 (.int .i64 60)) fun t15 =>
  .op (.mv t15) fun t16 =>
  .opg t16 false (.mv (e 2)) fun t17 =>
  .opg t16 false (.lenSl t17) fun t18 =>
  .opg t16 false (.bin .gtr t18 (.int .i64 100)) fun t19 =>
  .op (.pick t16 (.bool true) t19) fun t20 =>
  .done (e.upd 20 t20)
theorem c5_r3_run {CP : CProg} (e : Env) (h : Heap) (Q : Post) : RunR CP (c5_r3 e) h Q ↔ RunR CP (
  .op (.mv (e 0)) fun t13 =>
  .op (.lenSl t13) fun t14 =>
  .op (.bin .gtr t14 (.int .i64 60)) fun t15 =>
  .op (.mv t15) fun t16 =>
  .opg t16 false (.mv (e 2)) fun t17 =>
  .opg t16 false (.lenSl t17) fun t18 =>
  .opg t16 false (.bin .gtr t18 (.int .i64 100)) fun t19 =>
  .op (.pick t16 (.bool true) t19) fun t20 =>
  .done (e.upd 20 t20)) h Q := Iff.rfl
def c5_r4 : Env → Reg := fun e =>
  .op (.mv (.bool true)) fun t6 =>
  .done (e.upd 6 t6)
theorem c5_r4_run {CP : CProg} (e : Env) (h : Heap) (Q : Post) : RunR CP (c5_r4 e) h Q ↔ RunR CP (
  .op (.mv (.bool true)) fun t6 =>
  .done (e.upd 6 t6)) h Q := Iff.rfl
def c5_r5_c1 (e : Env) (h5 : Heap) (t26 : Value) (t27 : Value) : Reg :=
  .op (.load none t27) fun t28 =>
  .chk none (some h5) (.load none t27) t28 <|
  .op (.bin .and t28 (.int .i64 31)) fun t29 =>
  .op (.bin .add t29 (.int .i64 1)) fun t30 =>
  .snap fun h10 =>
  .op (.call 12 [t26, t30]) fun t31 =>
  .op (.mv t31) fun t7 =>
  .done (e.upd 7 t7)
theorem c5_r5_c1_run {CP : CProg} (e : Env) (h5 : Heap) (t26 : Value) (t27 : Value) (h : Heap) (Q : Post) : RunR CP (c5_r5_c1 e h5 t26 t27) h Q ↔ RunR CP (
  .op (.load none t27) fun t28 =>
  .chk none (some h5) (.load none t27) t28 <|
  .op (.bin .and t28 (.int .i64 31)) fun t29 =>
  .op (.bin .add t29 (.int .i64 1)) fun t30 =>
  .snap fun h10 =>
  .op (.call 12 [t26, t30]) fun t31 =>
  .op (.mv t31) fun t7 =>
  .done (e.upd 7 t7)) h Q := Iff.rfl
def c5_r5 : Env → Reg := fun e =>
  .op (.mv (e 0)) fun t21 =>
  .op (.indexArr 2 1 (e 4) (.int .i64 0)) fun t22 =>
  .op (.load none t22) fun t23 =>
  .op (.bin .and t23 (.int .i64 7)) fun t24 =>
  .op (.bin .add t24 (.int .i64 1)) fun t25 =>
  .snap fun h5 =>
  .op (.call 11 [t21, t25]) fun t26 =>
  .op (.indexArr 2 1 (e 4) (.int .i64 1)) fun t27 =>
  c5_r5_c1 e h5 t26 t27
theorem c5_r5_run {CP : CProg} (e : Env) (h : Heap) (Q : Post) : RunR CP (c5_r5 e) h Q ↔ RunR CP (
  .op (.mv (e 0)) fun t21 =>
  .op (.indexArr 2 1 (e 4) (.int .i64 0)) fun t22 =>
  .op (.load none t22) fun t23 =>
  .op (.bin .and t23 (.int .i64 7)) fun t24 =>
  .op (.bin .add t24 (.int .i64 1)) fun t25 =>
  .snap fun h5 =>
  .op (.call 11 [t21, t25]) fun t26 =>
  .op (.indexArr 2 1 (e 4) (.int .i64 1)) fun t27 =>
  c5_r5_c1 e h5 t26 t27) h Q := Iff.rfl
def c5_r6 : Env → Reg := fun e =>
  .op (.mv (.int .i64 0)) fun t8 =>
  .done (e.upd 8 t8)
theorem c5_r6_run {CP : CProg} (e : Env) (h : Heap) (Q : Post) : RunR CP (c5_r6 e) h Q ↔ RunR CP (
  .op (.mv (.int .i64 0)) fun t8 =>
  .done (e.upd 8 t8)) h Q := Iff.rfl
def c5_r7 : Env → Reg := fun e =>
  .op (.mv (e 2)) fun t32 =>
  .op (.lenSl t32) fun t33 =>
  .op (.mv (.int .i64 0)) fun t34 =>
  .done (((e.upd 32 t32).upd 33 t33).upd 34 t34)
theorem c5_r7_run {CP : CProg} (e : Env) (h : Heap) (Q : Post) : RunR CP (c5_r7 e) h Q ↔ RunR CP (
  .op (.mv (e 2)) fun t32 =>
  .op (.lenSl t32) fun t33 =>
  .op (.mv (.int .i64 0)) fun t34 =>
  .done (((e.upd 32 t32).upd 33 t33).upd 34 t34)) h Q := Iff.rfl
def c5_r8 : Env → Reg := fun e =>
  .op (.bin .lss (e 34) (e 33)) fun t35 =>
  .done (e.upd 35 t35)
theorem c5_r8_run {CP : CProg} (e : Env) (h : Heap) (Q : Post) : RunR CP (c5_r8 e) h Q ↔ RunR CP (
  .op (.bin .lss (e 34) (e 33)) fun t35 =>
  .done (e.upd 35 t35)) h Q := Iff.rfl
def c5_r9 : Env → Reg := fun e =>
  .op (.indexSl 1 (e 32) (e 34)) fun t36 =>
  .op (.load none t36) fun t37 =>
  .op (.mv t37) fun t10 =>
  .done (e.upd 10 t10)
theorem c5_r9_run {CP : CProg} (e : Env) (h : Heap) (Q : Post) : RunR CP (c5_r9 e) h Q ↔ RunR CP (
  .op (.indexSl 1 (e 32) (e 34)) fun t36 =>
  .op (.load none t36) fun t37 =>
  .op (.mv t37) fun t10 =>
  .done (e.upd 10 t10)) h Q := Iff.rfl
def c5_r10 : Env → Reg := fun e =>
  .op (.mv (e 7)) fun t38 =>
  .op (.mv (e 10)) fun t39 =>
  .op (.call 13 [t38, (.string ⟨#[107]⟩), t39]) fun t40 =>
  .done e
theorem c5_r10_run {CP : CProg} (e : Env) (h : Heap) (Q : Post) : RunR CP (c5_r10 e) h Q ↔ RunR CP (
  .op (.mv (e 7)) fun t38 =>
  .op (.mv (e 10)) fun t39 =>
  .op (.call 13 [t38, (.string ⟨#[107]⟩), t39]) fun t40 =>
  .done e) h Q := Iff.rfl
def c5_r11 : Env → Reg := fun e =>
  .op (.mv (e 10)) fun t41 =>
  .op (.bin .gtr t41 (.int .i64 0)) fun t42 =>
  .done (e.upd 42 t42)
theorem c5_r11_run {CP : CProg} (e : Env) (h : Heap) (Q : Post) : RunR CP (c5_r11 e) h Q ↔ RunR CP (
  .op (.mv (e 10)) fun t41 =>
  .op (.bin .gtr t41 (.int .i64 0)) fun t42 =>
  .done (e.upd 42 t42)) h Q := Iff.rfl
def c5_r12 : Env → Reg := fun e =>
  .op (.mv (e 8)) fun t43 =>
  .op (.mv (e 10)) fun t44 =>
  .op (.bin .add t43 t44) fun t45 =>
  .op (.mv t45) fun t8 =>
  .done (e.upd 8 t8)
theorem c5_r12_run {CP : CProg} (e : Env) (h : Heap) (Q : Post) : RunR CP (c5_r12 e) h Q ↔ RunR CP (
  .op (.mv (e 8)) fun t43 =>
  .op (.mv (e 10)) fun t44 =>
  .op (.bin .add t43 t44) fun t45 =>
  .op (.mv t45) fun t8 =>
  .done (e.upd 8 t8)) h Q := Iff.rfl
def c5_r13 : Env → Reg := fun e =>
  .op (.mv (e 8)) fun t46 =>
  .op (.bin .lss t46 (.int .i64 0)) fun t47 =>
  .done (e.upd 47 t47)
theorem c5_r13_run {CP : CProg} (e : Env) (h : Heap) (Q : Post) : RunR CP (c5_r13 e) h Q ↔ RunR CP (
  .op (.mv (e 8)) fun t46 =>
  .op (.bin .lss t46 (.int .i64 0)) fun t47 =>
  .done (e.upd 47 t47)) h Q := Iff.rfl
def c5_r14 : Env → Reg := fun e =>
  .op (.mv (.int .i64 9223372036854775807)) fun t8 =>
  .done (e.upd 8 t8)
theorem c5_r14_run {CP : CProg} (e : Env) (h : Heap) (Q : Post) : RunR CP (c5_r14 e) h Q ↔ RunR CP (
  .op (.mv (.int .i64 9223372036854775807)) fun t8 =>
  .done (e.upd 8 t8)) h Q := Iff.rfl
def c5_r15 : Env → Reg := fun e =>
  .op (.mv (e 7)) fun t48 =>
  .op (.call 15 [t48, (.string ⟨#[107]⟩)]) fun t49 =>
  .op (.mv (e 8)) fun t50 =>
  .op (.bin .neq t49 t50) fun t51 =>
  .done (e.upd 51 t51)
theorem c5_r15_run {CP : CProg} (e : Env) (h : Heap) (Q : Post) : RunR CP (c5_r15 e) h Q ↔ RunR CP (
  .op (.mv (e 7)) fun t48 =>
  .op (.call 15 [t48, (.string ⟨#[107]⟩)]) fun t49 =>
  .op (.mv (e 8)) fun t50 =>
  .op (.bin .neq t49 t50) fun t51 =>
  .done (e.upd 51 t51)) h Q := Iff.rfl
def c5_r16 : Env → Reg := fun e =>
  .op (.mv (.bool false)) fun t6 =>
  .done (e.upd 6 t6)
theorem c5_r16_run {CP : CProg} (e : Env) (h : Heap) (Q : Post) : RunR CP (c5_r16 e) h Q ↔ RunR CP (
  .op (.mv (.bool false)) fun t6 =>
  .done (e.upd 6 t6)) h Q := Iff.rfl
def c5_r17 : Env → Reg := fun e =>
  .op (.bin .add (e 34) (.int .i64 1)) fun t52 =>
  .op (.mv t52) fun t34 =>
  .done (e.upd 34 t34)
theorem c5_r17_run {CP : CProg} (e : Env) (h : Heap) (Q : Post) : RunR CP (c5_r17 e) h Q ↔ RunR CP (
  .op (.bin .add (e 34) (.int .i64 1)) fun t52 =>
  .op (.mv t52) fun t34 =>
  .done (e.upd 34 t34)) h Q := Iff.rfl
def c5_l0 : CC := (.seq (.region c5_r8) (.seq (.cond (fun e => e 35) .skip (.exit 0)) (.seq (.block 1 (.seq (.region c5_r9) (.seq (.region c5_r10) (.seq (.seq (.region c5_r11) (.cond (fun e => e 42) (.seq (.region c5_r12) (.seq (.region c5_r13) (.cond (fun e => e 47) (.region c5_r14) .skip))) .skip)) (.seq (.region c5_r15) (.cond (fun e => e 51) (.seq (.region c5_r16) .ret) .skip)))))) (.region c5_r17))))
def c5_r18 : Env → Reg := fun e =>
  .op (.mv (.bool true)) fun t6 =>
  .done (e.upd 6 t6)
theorem c5_r18_run {CP : CProg} (e : Env) (h : Heap) (Q : Post) : RunR CP (c5_r18 e) h Q ↔ RunR CP (
  .op (.mv (.bool true)) fun t6 =>
  .done (e.upd 6 t6)) h Q := Iff.rfl
def c5 : CFn := ⟨(.seq (.region c5_r0) (.seq (.seq (.region c5_r1) (.cond (fun e => e 12) (.seq (.region c5_r2) .ret) .skip)) (.seq (.seq (.region c5_r3) (.cond (fun e => e 20) (.seq (.region c5_r4) .ret) .skip)) (.seq (.region c5_r5) (.seq (.region c5_r6) (.seq (.seq (.region c5_r7) (.block 0 (.loop c5_l0))) (.seq (.region c5_r18) .ret))))))), [.t 6]⟩
def p5 : Pers := ⟨11, [12, 20, 32, 33, 34, 35, 42, 47, 51], 53⟩
-- 6: weighbridge/weighbridgelaw06.SlotRuns
def c6_r0 : Env → Reg := fun e =>
  .op (.box 42 (e 1)) fun t4 =>
  .op (.mv (.bool false)) fun t6 =>
  .done ((e.upd 4 t4).upd 6 t6)
theorem c6_r0_run {CP : CProg} (e : Env) (h : Heap) (Q : Post) : RunR CP (c6_r0 e) h Q ↔ RunR CP (
  .op (.box 42 (e 1)) fun t4 =>
  .op (.mv (.bool false)) fun t6 =>
  .done ((e.upd 4 t4).upd 6 t6)) h Q := Iff.rfl
def c6_r1 : Env → Reg := fun e =>
  .op (.call 9 []) fun t20 =>
  .op (.un .not t20) fun t21 =>
  .done (e.upd 21 t21)
theorem c6_r1_run {CP : CProg} (e : Env) (h : Heap) (Q : Post) : RunR CP (c6_r1 e) h Q ↔ RunR CP (
  .op (.call 9 []) fun t20 =>
  .op (.un .not t20) fun t21 =>
  .done (e.upd 21 t21)) h Q := Iff.rfl
def c6_r2 : Env → Reg := fun e =>
  .op (.mv (.bool false)) fun t6 =>
  .done (e.upd 6 t6)
theorem c6_r2_run {CP : CProg} (e : Env) (h : Heap) (Q : Post) : RunR CP (c6_r2 e) h Q ↔ RunR CP (
  .op (.mv (.bool false)) fun t6 =>
  .done (e.upd 6 t6)) h Q := Iff.rfl
def c6_r3 : Env → Reg := fun e =>
  .op (.mv (e 0)) fun t22 =>
  .op (.lenSl t22) fun t23 =>
  .op (.bin .gtr t23 (.int .i64 60)) fun t24 =>
  .op (.mv t24) fun t25 =>
  .opg t25 false (.mv (e 2)) fun t26 =>
  .opg t25 false (.call 10 [t26]) fun t27 =>
  .opg t25 false (.un .not t27) fun t28 =>
  .op (.pick t25 (.bool true) t28) fun t29 =>
  .done (e.upd 29 t29)
theorem c6_r3_run {CP : CProg} (e : Env) (h : Heap) (Q : Post) : RunR CP (c6_r3 e) h Q ↔ RunR CP (
  .op (.mv (e 0)) fun t22 =>
  .op (.lenSl t22) fun t23 =>
  .op (.bin .gtr t23 (.int .i64 60)) fun t24 =>
  .op (.mv t24) fun t25 =>
  .opg t25 false (.mv (e 2)) fun t26 =>
  .opg t25 false (.call 10 [t26]) fun t27 =>
  .opg t25 false (.un .not t27) fun t28 =>
  .op (.pick t25 (.bool true) t28) fun t29 =>
  .done (e.upd 29 t29)) h Q := Iff.rfl
def c6_r4 : Env → Reg := fun e =>
  .op (.mv (.bool true)) fun t6 =>
  .done (e.upd 6 t6)
theorem c6_r4_run {CP : CProg} (e : Env) (h : Heap) (Q : Post) : RunR CP (c6_r4 e) h Q ↔ RunR CP (
  .op (.mv (.bool true)) fun t6 =>
  .done (e.upd 6 t6)) h Q := Iff.rfl
def c6_r5_c1 (e : Env) (t33 : Value) (t37 : Value) : Reg :=
  .op (.alloc 3 [(.int .i64 0)]) fun t8 =>
  .op (.mv t33) fun t7 =>
  .snap fun h10 =>
  .op (.store 1 t8 t37) fun _ =>
  .done ((e.upd 8 t8).upd 7 t7)
theorem c6_r5_c1_run {CP : CProg} (e : Env) (t33 : Value) (t37 : Value) (h : Heap) (Q : Post) : RunR CP (c6_r5_c1 e t33 t37) h Q ↔ RunR CP (
  .op (.alloc 3 [(.int .i64 0)]) fun t8 =>
  .op (.mv t33) fun t7 =>
  .snap fun h10 =>
  .op (.store 1 t8 t37) fun _ =>
  .done ((e.upd 8 t8).upd 7 t7)) h Q := Iff.rfl
def c6_r5 : Env → Reg := fun e =>
  .op (.indexArr 2 1 (e 4) (.int .i64 0)) fun t30 =>
  .op (.load none t30) fun t31 =>
  .op (.bin .and t31 (.int .i64 3)) fun t32 =>
  .op (.bin .add t32 (.int .i64 1)) fun t33 =>
  .op (.indexArr 2 1 (e 4) (.int .i64 1)) fun t34 =>
  .op (.load none t34) fun t35 =>
  .op (.bin .and t35 (.int .i64 7)) fun t36 =>
  .op (.bin .add t36 (.int .i64 1)) fun t37 =>
  c6_r5_c1 e t33 t37
theorem c6_r5_run {CP : CProg} (e : Env) (h : Heap) (Q : Post) : RunR CP (c6_r5 e) h Q ↔ RunR CP (
  .op (.indexArr 2 1 (e 4) (.int .i64 0)) fun t30 =>
  .op (.load none t30) fun t31 =>
  .op (.bin .and t31 (.int .i64 3)) fun t32 =>
  .op (.bin .add t32 (.int .i64 1)) fun t33 =>
  .op (.indexArr 2 1 (e 4) (.int .i64 1)) fun t34 =>
  .op (.load none t34) fun t35 =>
  .op (.bin .and t35 (.int .i64 7)) fun t36 =>
  .op (.bin .add t36 (.int .i64 1)) fun t37 =>
  c6_r5_c1 e t33 t37) h Q := Iff.rfl
def c6_r6 : Env → Reg := fun e =>
  .op (.mv (e 0)) fun t38 =>
  .op (.mv (e 7)) fun t39 =>
  .snap fun h2 =>
  .op (.call 11 [t38, t39]) fun t40 =>
  .op (.load none (e 8)) fun t41 =>
  .chk none (some h2) (.load none (e 8)) t41 <|
  .snap fun h4 =>
  .op (.call 12 [t40, t41]) fun t42 =>
  .op (.mv t42) fun t9 =>
  .done (e.upd 9 t9)
theorem c6_r6_run {CP : CProg} (e : Env) (h : Heap) (Q : Post) : RunR CP (c6_r6 e) h Q ↔ RunR CP (
  .op (.mv (e 0)) fun t38 =>
  .op (.mv (e 7)) fun t39 =>
  .snap fun h2 =>
  .op (.call 11 [t38, t39]) fun t40 =>
  .op (.load none (e 8)) fun t41 =>
  .chk none (some h2) (.load none (e 8)) t41 <|
  .snap fun h4 =>
  .op (.call 12 [t40, t41]) fun t42 =>
  .op (.mv t42) fun t9 =>
  .done (e.upd 9 t9)) h Q := Iff.rfl
def c6_r7 : Env → Reg := fun e =>
  .op (.mv (e 0)) fun t43 =>
  .op (.mv (e 7)) fun t44 =>
  .op (.call 17 [t43, t44]) fun t45 =>
  .op (.alloc 45 [(.slice none 0 0)]) fun t10 =>
  .op (.store 1 t10 t45) fun _ =>
  .done (e.upd 10 t10)
theorem c6_r7_run {CP : CProg} (e : Env) (h : Heap) (Q : Post) : RunR CP (c6_r7 e) h Q ↔ RunR CP (
  .op (.mv (e 0)) fun t43 =>
  .op (.mv (e 7)) fun t44 =>
  .op (.call 17 [t43, t44]) fun t45 =>
  .op (.alloc 45 [(.slice none 0 0)]) fun t10 =>
  .op (.store 1 t10 t45) fun _ =>
  .done (e.upd 10 t10)) h Q := Iff.rfl
def c6_r8 : Env → Reg := fun e =>
  .op (.mv (e 7)) fun t46 =>
  .op (.makeSlice 49 8 64 [(.int .i64 0), (.int .i64 0), (.int .i64 0), (.int .i64 0), (.int .i64 0), (.int .i64 0), (.int .i64 0), (.int .i64 0)] t46 t46) fun t47 =>
  .op (.alloc 47 [(.slice none 0 0)]) fun t11 =>
  .op (.store 1 t11 t47) fun _ =>
  .done (e.upd 11 t11)
theorem c6_r8_run {CP : CProg} (e : Env) (h : Heap) (Q : Post) : RunR CP (c6_r8 e) h Q ↔ RunR CP (
  .op (.mv (e 7)) fun t46 =>
  .op (.makeSlice 49 8 64 [(.int .i64 0), (.int .i64 0), (.int .i64 0), (.int .i64 0), (.int .i64 0), (.int .i64 0), (.int .i64 0), (.int .i64 0)] t46 t46) fun t47 =>
  .op (.alloc 47 [(.slice none 0 0)]) fun t11 =>
  .op (.store 1 t11 t47) fun _ =>
  .done (e.upd 11 t11)) h Q := Iff.rfl
def c6_r9 : Env → Reg := fun e =>
  .op (.mv (e 2)) fun t48 =>
  .op (.lenSl t48) fun t49 =>
  .op (.mv (.int .i64 0)) fun t50 =>
  .done (((e.upd 48 t48).upd 49 t49).upd 50 t50)
theorem c6_r9_run {CP : CProg} (e : Env) (h : Heap) (Q : Post) : RunR CP (c6_r9 e) h Q ↔ RunR CP (
  .op (.mv (e 2)) fun t48 =>
  .op (.lenSl t48) fun t49 =>
  .op (.mv (.int .i64 0)) fun t50 =>
  .done (((e.upd 48 t48).upd 49 t49).upd 50 t50)) h Q := Iff.rfl
def c6_r10 : Env → Reg := fun e =>
  .op (.bin .lss (e 50) (e 49)) fun t51 =>
  .done (e.upd 51 t51)
theorem c6_r10_run {CP : CProg} (e : Env) (h : Heap) (Q : Post) : RunR CP (c6_r10 e) h Q ↔ RunR CP (
  .op (.bin .lss (e 50) (e 49)) fun t51 =>
  .done (e.upd 51 t51)) h Q := Iff.rfl
def c6_r11 : Env → Reg := fun e =>
  .op (.indexSl 2 (e 48) (e 50)) fun t52 =>
  .op (.load (some 2) t52) fun t53 =>
  .op (.alloc 32 [(.string ⟨#[]⟩), (.int .i64 0)]) fun t13 =>
  .op (.store 2 t13 t53) fun _ =>
  .done (e.upd 13 t13)
theorem c6_r11_run {CP : CProg} (e : Env) (h : Heap) (Q : Post) : RunR CP (c6_r11 e) h Q ↔ RunR CP (
  .op (.indexSl 2 (e 48) (e 50)) fun t52 =>
  .op (.load (some 2) t52) fun t53 =>
  .op (.alloc 32 [(.string ⟨#[]⟩), (.int .i64 0)]) fun t13 =>
  .op (.store 2 t13 t53) fun _ =>
  .done (e.upd 13 t13)) h Q := Iff.rfl
def c6_r12 : Env → Reg := fun e =>
  .op (.makeFunc 18 [] [(e 11), (e 10), (e 13), (e 8)]) fun t54 =>
  .op (.mv t54) fun t14 =>
  .done (e.upd 14 t14)
theorem c6_r12_run {CP : CProg} (e : Env) (h : Heap) (Q : Post) : RunR CP (c6_r12 e) h Q ↔ RunR CP (
  .op (.makeFunc 18 [] [(e 11), (e 10), (e 13), (e 8)]) fun t54 =>
  .op (.mv t54) fun t14 =>
  .done (e.upd 14 t14)) h Q := Iff.rfl
def c6_r13 : Env → Reg := fun e =>
  .op (.mv (e 14)) fun t55 =>
  .op (.callv t55 [(.int .i64 0)]) fun t56 =>
  .op (.nilCheck t56) fun t57 =>
  .op (.load none t57) fun t58 =>
  .op (.mv t58) fun t15 =>
  .done (e.upd 15 t15)
theorem c6_r13_run {CP : CProg} (e : Env) (h : Heap) (Q : Post) : RunR CP (c6_r13 e) h Q ↔ RunR CP (
  .op (.mv (e 14)) fun t55 =>
  .op (.callv t55 [(.int .i64 0)]) fun t56 =>
  .op (.nilCheck t56) fun t57 =>
  .op (.load none t57) fun t58 =>
  .op (.mv t58) fun t15 =>
  .done (e.upd 15 t15)) h Q := Iff.rfl
def c6_r14 : Env → Reg := fun e =>
  .op (.mv (e 7)) fun t59 =>
  .op (.mv (.int .i64 0)) fun t60 =>
  .done ((e.upd 59 t59).upd 60 t60)
theorem c6_r14_run {CP : CProg} (e : Env) (h : Heap) (Q : Post) : RunR CP (c6_r14 e) h Q ↔ RunR CP (
  .op (.mv (e 7)) fun t59 =>
  .op (.mv (.int .i64 0)) fun t60 =>
  .done ((e.upd 59 t59).upd 60 t60)) h Q := Iff.rfl
def c6_r15 : Env → Reg := fun e =>
  .op (.bin .lss (e 60) (e 59)) fun t61 =>
  .done (e.upd 61 t61)
theorem c6_r15_run {CP : CProg} (e : Env) (h : Heap) (Q : Post) : RunR CP (c6_r15 e) h Q ↔ RunR CP (
  .op (.bin .lss (e 60) (e 59)) fun t61 =>
  .done (e.upd 61 t61)) h Q := Iff.rfl
def c6_r16 : Env → Reg := fun e =>
  .op (.mv (e 60)) fun t62 =>
  .op (.mv t62) fun t16 =>
  .done (e.upd 16 t16)
theorem c6_r16_run {CP : CProg} (e : Env) (h : Heap) (Q : Post) : RunR CP (c6_r16 e) h Q ↔ RunR CP (
  .op (.mv (e 60)) fun t62 =>
  .op (.mv t62) fun t16 =>
  .done (e.upd 16 t16)) h Q := Iff.rfl
def c6_r17 : Env → Reg := fun e =>
  .op (.mv (e 15)) fun t63 =>
  .op (.mv (e 14)) fun t64 =>
  .op (.mv (e 16)) fun t65 =>
  .op (.callv t64 [t65]) fun t66 =>
  .op (.nilCheck t66) fun t67 =>
  .op (.load none t67) fun t68 =>
  .op (.minmax false [t63, t68]) fun t69 =>
  .op (.mv t69) fun t15 =>
  .done (e.upd 15 t15)
theorem c6_r17_run {CP : CProg} (e : Env) (h : Heap) (Q : Post) : RunR CP (c6_r17 e) h Q ↔ RunR CP (
  .op (.mv (e 15)) fun t63 =>
  .op (.mv (e 14)) fun t64 =>
  .op (.mv (e 16)) fun t65 =>
  .op (.callv t64 [t65]) fun t66 =>
  .op (.nilCheck t66) fun t67 =>
  .op (.load none t67) fun t68 =>
  .op (.minmax false [t63, t68]) fun t69 =>
  .op (.mv t69) fun t15 =>
  .done (e.upd 15 t15)) h Q := Iff.rfl
def c6_r18 : Env → Reg := fun e =>
  .op (.bin .add (e 60) (.int .i64 1)) fun t70 =>
  .op (.mv t70) fun t60 =>
  .done (e.upd 60 t60)
theorem c6_r18_run {CP : CProg} (e : Env) (h : Heap) (Q : Post) : RunR CP (c6_r18 e) h Q ↔ RunR CP (
  .op (.bin .add (e 60) (.int .i64 1)) fun t70 =>
  .op (.mv t70) fun t60 =>
  .done (e.upd 60 t60)) h Q := Iff.rfl
def c6_l0 : CC := (.seq (.region c6_r15) (.seq (.cond (fun e => e 61) .skip (.exit 2)) (.seq (.block 3 (.seq (.region c6_r16) (.region c6_r17))) (.region c6_r18))))
def c6_r19 : Env → Reg := fun e =>
  .op (.fieldAddr 1 (e 13)) fun t71 =>
  .op (.load none t71) fun t72 =>
  .op (.bin .lss t72 (.int .i64 (-1099511627776))) fun t73 =>
  .done (e.upd 73 t73)
theorem c6_r19_run {CP : CProg} (e : Env) (h : Heap) (Q : Post) : RunR CP (c6_r19 e) h Q ↔ RunR CP (
  .op (.fieldAddr 1 (e 13)) fun t71 =>
  .op (.load none t71) fun t72 =>
  .op (.bin .lss t72 (.int .i64 (-1099511627776))) fun t73 =>
  .done (e.upd 73 t73)) h Q := Iff.rfl
def c6_r20 : Env → Reg := fun e =>
  .op (.mv (e 9)) fun t74 =>
  .op (.call 20 [t74]) fun t75 =>
  .done e
theorem c6_r20_run {CP : CProg} (e : Env) (h : Heap) (Q : Post) : RunR CP (c6_r20 e) h Q ↔ RunR CP (
  .op (.mv (e 9)) fun t74 =>
  .op (.call 20 [t74]) fun t75 =>
  .done e) h Q := Iff.rfl
def c6_r21 : Env → Reg := fun e =>
  .op (.mv (e 7)) fun t76 =>
  .op (.makeSlice 49 8 64 [(.int .i64 0), (.int .i64 0), (.int .i64 0), (.int .i64 0), (.int .i64 0), (.int .i64 0), (.int .i64 0), (.int .i64 0)] t76 t76) fun t77 =>
  .op (.store 1 (e 11) t77) fun _ =>
  .done e
theorem c6_r21_run {CP : CProg} (e : Env) (h : Heap) (Q : Post) : RunR CP (c6_r21 e) h Q ↔ RunR CP (
  .op (.mv (e 7)) fun t76 =>
  .op (.makeSlice 49 8 64 [(.int .i64 0), (.int .i64 0), (.int .i64 0), (.int .i64 0), (.int .i64 0), (.int .i64 0), (.int .i64 0), (.int .i64 0)] t76 t76) fun t77 =>
  .op (.store 1 (e 11) t77) fun _ =>
  .done e) h Q := Iff.rfl
def c6_r22 : Env → Reg := fun e =>
  .op (.mv (e 9)) fun t78 =>
  .op (.fieldAddr 0 (e 13)) fun t79 =>
  .op (.load none t79) fun t80 =>
  .op (.fieldAddr 1 (e 13)) fun t81 =>
  .op (.load none t81) fun t82 =>
  .op (.call 13 [t78, t80, t82]) fun t83 =>
  .done e
theorem c6_r22_run {CP : CProg} (e : Env) (h : Heap) (Q : Post) : RunR CP (c6_r22 e) h Q ↔ RunR CP (
  .op (.mv (e 9)) fun t78 =>
  .op (.fieldAddr 0 (e 13)) fun t79 =>
  .op (.load none t79) fun t80 =>
  .op (.fieldAddr 1 (e 13)) fun t81 =>
  .op (.load none t81) fun t82 =>
  .op (.call 13 [t78, t80, t82]) fun t83 =>
  .done e) h Q := Iff.rfl
def c6_r23 : Env → Reg := fun e =>
  .op (.mv (e 15)) fun t84 =>
  .op (.fieldAddr 1 (e 13)) fun t85 =>
  .op (.load none t85) fun t86 =>
  .op (.bin .add t84 t86) fun t87 =>
  .op (.mv t87) fun t17 =>
  .done (e.upd 17 t17)
theorem c6_r23_run {CP : CProg} (e : Env) (h : Heap) (Q : Post) : RunR CP (c6_r23 e) h Q ↔ RunR CP (
  .op (.mv (e 15)) fun t84 =>
  .op (.fieldAddr 1 (e 13)) fun t85 =>
  .op (.load none t85) fun t86 =>
  .op (.bin .add t84 t86) fun t87 =>
  .op (.mv t87) fun t17 =>
  .done (e.upd 17 t17)) h Q := Iff.rfl
def c6_r24 : Env → Reg := fun e =>
  .op (.fieldAddr 1 (e 13)) fun t88 =>
  .op (.load none t88) fun t89 =>
  .op (.bin .gtr t89 (.int .i64 0)) fun t90 =>
  .op (.mv t90) fun t91 =>
  .opg t91 true (.mv (e 17)) fun t92 =>
  .opg t91 true (.mv (e 15)) fun t93 =>
  .opg t91 true (.bin .lss t92 t93) fun t94 =>
  .op (.pick t91 t94 (.bool false)) fun t95 =>
  .done (e.upd 95 t95)
theorem c6_r24_run {CP : CProg} (e : Env) (h : Heap) (Q : Post) : RunR CP (c6_r24 e) h Q ↔ RunR CP (
  .op (.fieldAddr 1 (e 13)) fun t88 =>
  .op (.load none t88) fun t89 =>
  .op (.bin .gtr t89 (.int .i64 0)) fun t90 =>
  .op (.mv t90) fun t91 =>
  .opg t91 true (.mv (e 17)) fun t92 =>
  .opg t91 true (.mv (e 15)) fun t93 =>
  .opg t91 true (.bin .lss t92 t93) fun t94 =>
  .op (.pick t91 t94 (.bool false)) fun t95 =>
  .done (e.upd 95 t95)) h Q := Iff.rfl
def c6_r25 : Env → Reg := fun e =>
  .op (.mv (.int .i64 9223372036854775807)) fun t17 =>
  .done (e.upd 17 t17)
theorem c6_r25_run {CP : CProg} (e : Env) (h : Heap) (Q : Post) : RunR CP (c6_r25 e) h Q ↔ RunR CP (
  .op (.mv (.int .i64 9223372036854775807)) fun t17 =>
  .done (e.upd 17 t17)) h Q := Iff.rfl
def c6_r26 : Env → Reg := fun e =>
  .op (.mv (.int .i64 0)) fun t18 =>
  .done (e.upd 18 t18)
theorem c6_r26_run {CP : CProg} (e : Env) (h : Heap) (Q : Post) : RunR CP (c6_r26 e) h Q ↔ RunR CP (
  .op (.mv (.int .i64 0)) fun t18 =>
  .done (e.upd 18 t18)) h Q := Iff.rfl
def c6_r27 : Env → Reg := fun e =>
  .op (.mv (e 18)) fun t96 =>
  .op (.mv (e 7)) fun t97 =>
  .op (.bin .lss t96 t97) fun t98 =>
  .op (.mv t98) fun t99 =>
  .opg t99 true (.fieldAddr 1 (e 13)) fun t100 =>
  .opg t99 true (.load none t100) fun t101 =>
  .opg t99 true (.bin .gtr t101 (.int .i64 0)) fun t102 =>
  .op (.pick t99 t102 (.bool false)) fun t103 =>
  .done (e.upd 103 t103)
theorem c6_r27_run {CP : CProg} (e : Env) (h : Heap) (Q : Post) : RunR CP (c6_r27 e) h Q ↔ RunR CP (
  .op (.mv (e 18)) fun t96 =>
  .op (.mv (e 7)) fun t97 =>
  .op (.bin .lss t96 t97) fun t98 =>
  .op (.mv t98) fun t99 =>
  .opg t99 true (.fieldAddr 1 (e 13)) fun t100 =>
  .opg t99 true (.load none t100) fun t101 =>
  .opg t99 true (.bin .gtr t101 (.int .i64 0)) fun t102 =>
  .op (.pick t99 t102 (.bool false)) fun t103 =>
  .done (e.upd 103 t103)) h Q := Iff.rfl
def c6_r29_c1 (e : Env) (t108 : Value) (t113 : Value) : Reg :=
  .op (.mv (e 17)) fun t114 =>
  .op (.minmax true [t113, t114]) fun t115 =>
  .op (.nilCheck t108) fun t116 =>
  .op (.store 1 t116 t115) fun _ =>
  .done e
theorem c6_r29_c1_run {CP : CProg} (e : Env) (t108 : Value) (t113 : Value) (h : Heap) (Q : Post) : RunR CP (c6_r29_c1 e t108 t113) h Q ↔ RunR CP (
  .op (.mv (e 17)) fun t114 =>
  .op (.minmax true [t113, t114]) fun t115 =>
  .op (.nilCheck t108) fun t116 =>
  .op (.store 1 t116 t115) fun _ =>
  .done e) h Q := Iff.rfl
def c6_r29 : Env → Reg := fun e =>
  .op (.mv (e 14)) fun t106 =>
  .op (.mv (e 18)) fun t107 =>
  .op (.callv t106 [t107]) fun t108 =>
  .op (.mv (e 14)) fun t109 =>
  .op (.mv (e 18)) fun t110 =>
  .op (.callv t109 [t110]) fun t111 =>
  .op (.nilCheck t111) fun t112 =>
  .op (.load none t112) fun t113 =>
  c6_r29_c1 e t108 t113
theorem c6_r29_run {CP : CProg} (e : Env) (h : Heap) (Q : Post) : RunR CP (c6_r29 e) h Q ↔ RunR CP (
  .op (.mv (e 14)) fun t106 =>
  .op (.mv (e 18)) fun t107 =>
  .op (.callv t106 [t107]) fun t108 =>
  .op (.mv (e 14)) fun t109 =>
  .op (.mv (e 18)) fun t110 =>
  .op (.callv t109 [t110]) fun t111 =>
  .op (.nilCheck t111) fun t112 =>
  .op (.load none t112) fun t113 =>
  c6_r29_c1 e t108 t113) h Q := Iff.rfl
def c6_r28 : Env → Reg := fun e =>
  .op (.mv (e 18)) fun t104 =>
  .op (.bin .add t104 (.int .i64 1)) fun t105 =>
  .op (.mv t105) fun t18 =>
  .done (e.upd 18 t18)
theorem c6_r28_run {CP : CProg} (e : Env) (h : Heap) (Q : Post) : RunR CP (c6_r28 e) h Q ↔ RunR CP (
  .op (.mv (e 18)) fun t104 =>
  .op (.bin .add t104 (.int .i64 1)) fun t105 =>
  .op (.mv t105) fun t18 =>
  .done (e.upd 18 t18)) h Q := Iff.rfl
def c6_l1 : CC := (.seq (.seq (.region c6_r27) (.cond (fun e => e 103) .skip (.exit 4))) (.seq (.block 5 (.region c6_r29)) (.region c6_r28)))
def c6_r30 : Env → Reg := fun e =>
  .op (.mv (e 7)) fun t117 =>
  .op (.mv (.int .i64 0)) fun t118 =>
  .done ((e.upd 117 t117).upd 118 t118)
theorem c6_r30_run {CP : CProg} (e : Env) (h : Heap) (Q : Post) : RunR CP (c6_r30 e) h Q ↔ RunR CP (
  .op (.mv (e 7)) fun t117 =>
  .op (.mv (.int .i64 0)) fun t118 =>
  .done ((e.upd 117 t117).upd 118 t118)) h Q := Iff.rfl
def c6_r31 : Env → Reg := fun e =>
  .op (.bin .lss (e 118) (e 117)) fun t119 =>
  .done (e.upd 119 t119)
theorem c6_r31_run {CP : CProg} (e : Env) (h : Heap) (Q : Post) : RunR CP (c6_r31 e) h Q ↔ RunR CP (
  .op (.bin .lss (e 118) (e 117)) fun t119 =>
  .done (e.upd 119 t119)) h Q := Iff.rfl
def c6_r32 : Env → Reg := fun e =>
  .op (.mv (e 118)) fun t120 =>
  .op (.mv t120) fun t19 =>
  .done (e.upd 19 t19)
theorem c6_r32_run {CP : CProg} (e : Env) (h : Heap) (Q : Post) : RunR CP (c6_r32 e) h Q ↔ RunR CP (
  .op (.mv (e 118)) fun t120 =>
  .op (.mv t120) fun t19 =>
  .done (e.upd 19 t19)) h Q := Iff.rfl
def c6_r33_c1 (e : Env) (t125 : Value) (t128 : Value) : Reg :=
  .op (.nilCheck t128) fun t129 =>
  .op (.load none t129) fun t130 =>
  .op (.bin .neq t125 t130) fun t131 =>
  .done (e.upd 131 t131)
theorem c6_r33_c1_run {CP : CProg} (e : Env) (t125 : Value) (t128 : Value) (h : Heap) (Q : Post) : RunR CP (c6_r33_c1 e t125 t128) h Q ↔ RunR CP (
  .op (.nilCheck t128) fun t129 =>
  .op (.load none t129) fun t130 =>
  .op (.bin .neq t125 t130) fun t131 =>
  .done (e.upd 131 t131)) h Q := Iff.rfl
def c6_r33 : Env → Reg := fun e =>
  .op (.mv (e 9)) fun t121 =>
  .op (.mv (e 19)) fun t122 =>
  .op (.fieldAddr 0 (e 13)) fun t123 =>
  .op (.load none t123) fun t124 =>
  .op (.call 16 [t121, t122, t124]) fun t125 =>
  .op (.mv (e 14)) fun t126 =>
  .op (.mv (e 19)) fun t127 =>
  .op (.callv t126 [t127]) fun t128 =>
  c6_r33_c1 e t125 t128
theorem c6_r33_run {CP : CProg} (e : Env) (h : Heap) (Q : Post) : RunR CP (c6_r33 e) h Q ↔ RunR CP (
  .op (.mv (e 9)) fun t121 =>
  .op (.mv (e 19)) fun t122 =>
  .op (.fieldAddr 0 (e 13)) fun t123 =>
  .op (.load none t123) fun t124 =>
  .op (.call 16 [t121, t122, t124]) fun t125 =>
  .op (.mv (e 14)) fun t126 =>
  .op (.mv (e 19)) fun t127 =>
  .op (.callv t126 [t127]) fun t128 =>
  c6_r33_c1 e t125 t128) h Q := Iff.rfl
def c6_r34 : Env → Reg := fun e =>
  .op (.mv (.bool false)) fun t6 =>
  .done (e.upd 6 t6)
theorem c6_r34_run {CP : CProg} (e : Env) (h : Heap) (Q : Post) : RunR CP (c6_r34 e) h Q ↔ RunR CP (
  .op (.mv (.bool false)) fun t6 =>
  .done (e.upd 6 t6)) h Q := Iff.rfl
def c6_r35 : Env → Reg := fun e =>
  .op (.bin .add (e 118) (.int .i64 1)) fun t132 =>
  .op (.mv t132) fun t118 =>
  .done (e.upd 118 t118)
theorem c6_r35_run {CP : CProg} (e : Env) (h : Heap) (Q : Post) : RunR CP (c6_r35 e) h Q ↔ RunR CP (
  .op (.bin .add (e 118) (.int .i64 1)) fun t132 =>
  .op (.mv t132) fun t118 =>
  .done (e.upd 118 t118)) h Q := Iff.rfl
def c6_l2 : CC := (.seq (.region c6_r31) (.seq (.cond (fun e => e 119) .skip (.exit 6)) (.seq (.block 7 (.seq (.region c6_r32) (.seq (.region c6_r33) (.cond (fun e => e 131) (.seq (.region c6_r34) .ret) .skip)))) (.region c6_r35))))
def c6_r36_c1 (e : Env) (t136 : Value) (t140 : Value) : Reg :=
  .opg t136 true (.mv (e 17)) fun t141 =>
  .opg t136 true (.bin .neq t140 t141) fun t142 =>
  .op (.pick t136 t142 (.bool false)) fun t143 =>
  .done (e.upd 143 t143)
theorem c6_r36_c1_run {CP : CProg} (e : Env) (t136 : Value) (t140 : Value) (h : Heap) (Q : Post) : RunR CP (c6_r36_c1 e t136 t140) h Q ↔ RunR CP (
  .opg t136 true (.mv (e 17)) fun t141 =>
  .opg t136 true (.bin .neq t140 t141) fun t142 =>
  .op (.pick t136 t142 (.bool false)) fun t143 =>
  .done (e.upd 143 t143)) h Q := Iff.rfl
def c6_r36 : Env → Reg := fun e =>
  .op (.fieldAddr 1 (e 13)) fun t133 =>
  .op (.load none t133) fun t134 =>
  .op (.bin .gtr t134 (.int .i64 0)) fun t135 =>
  .op (.mv t135) fun t136 =>
  .opg t136 true (.mv (e 9)) fun t137 =>
  .opg t136 true (.fieldAddr 0 (e 13)) fun t138 =>
  .opg t136 true (.load none t138) fun t139 =>
  .opg t136 true (.call 15 [t137, t139]) fun t140 =>
  c6_r36_c1 e t136 t140
theorem c6_r36_run {CP : CProg} (e : Env) (h : Heap) (Q : Post) : RunR CP (c6_r36 e) h Q ↔ RunR CP (
  .op (.fieldAddr 1 (e 13)) fun t133 =>
  .op (.load none t133) fun t134 =>
  .op (.bin .gtr t134 (.int .i64 0)) fun t135 =>
  .op (.mv t135) fun t136 =>
  .opg t136 true (.mv (e 9)) fun t137 =>
  .opg t136 true (.fieldAddr 0 (e 13)) fun t138 =>
  .opg t136 true (.load none t138) fun t139 =>
  .opg t136 true (.call 15 [t137, t139]) fun t140 =>
  c6_r36_c1 e t136 t140) h Q := Iff.rfl
def c6_r37 : Env → Reg := fun e =>
  .op (.mv (.bool false)) fun t6 =>
  .done (e.upd 6 t6)
theorem c6_r37_run {CP : CProg} (e : Env) (h : Heap) (Q : Post) : RunR CP (c6_r37 e) h Q ↔ RunR CP (
  .op (.mv (.bool false)) fun t6 =>
  .done (e.upd 6 t6)) h Q := Iff.rfl
def c6_r38 : Env → Reg := fun e =>
  .op (.bin .add (e 50) (.int .i64 1)) fun t144 =>
  .op (.mv t144) fun t50 =>
  .done (e.upd 50 t50)
theorem c6_r38_run {CP : CProg} (e : Env) (h : Heap) (Q : Post) : RunR CP (c6_r38 e) h Q ↔ RunR CP (
  .op (.bin .add (e 50) (.int .i64 1)) fun t144 =>
  .op (.mv t144) fun t50 =>
  .done (e.upd 50 t50)) h Q := Iff.rfl
def c6_l3 : CC := (.seq (.region c6_r10) (.seq (.cond (fun e => e 51) .skip (.exit 0)) (.seq (.block 1 (.seq (.region c6_r11) (.seq (.region c6_r12) (.seq (.region c6_r13) (.seq (.seq (.region c6_r14) (.block 2 (.loop c6_l0))) (.seq (.seq (.region c6_r19) (.cond (fun e => e 73) (.seq (.region c6_r20) (.seq (.region c6_r21) (.exit 1))) .skip)) (.seq (.region c6_r22) (.seq (.region c6_r23) (.seq (.seq (.region c6_r24) (.cond (fun e => e 95) (.region c6_r25) .skip)) (.seq (.seq (.region c6_r26) (.block 4 (.loop c6_l1))) (.seq (.seq (.region c6_r30) (.block 6 (.loop c6_l2))) (.seq (.region c6_r36) (.cond (fun e => e 143) (.seq (.region c6_r37) .ret) .skip))))))))))))) (.region c6_r38))))
def c6_r39 : Env → Reg := fun e =>
  .op (.mv (e 9)) fun t145 =>
  .op (.call 16 [t145, (.int .i64 (-1)), (.string ⟨#[97]⟩)]) fun t146 =>
  .op (.bin .eql t146 (.int .i64 0)) fun t147 =>
  .op (.mv t147) fun t148 =>
  .opg t148 true (.mv (e 9)) fun t149 =>
  .opg t148 true (.mv (e 7)) fun t150 =>
  .opg t148 true (.call 16 [t149, t150, (.string ⟨#[97]⟩)]) fun t151 =>
  .opg t148 true (.bin .eql t151 (.int .i64 0)) fun t152 =>
  .op (.pick t148 t152 (.bool false)) fun t153 =>
  .op (.mv t153) fun t6 =>
  .done (e.upd 6 t6)
theorem c6_r39_run {CP : CProg} (e : Env) (h : Heap) (Q : Post) : RunR CP (c6_r39 e) h Q ↔ RunR CP (
  .op (.mv (e 9)) fun t145 =>
  .op (.call 16 [t145, (.int .i64 (-1)), (.string ⟨#[97]⟩)]) fun t146 =>
  .op (.bin .eql t146 (.int .i64 0)) fun t147 =>
  .op (.mv t147) fun t148 =>
  .opg t148 true (.mv (e 9)) fun t149 =>
  .opg t148 true (.mv (e 7)) fun t150 =>
  .opg t148 true (.call 16 [t149, t150, (.string ⟨#[97]⟩)]) fun t151 =>
  .opg t148 true (.bin .eql t151 (.int .i64 0)) fun t152 =>
  .op (.pick t148 t152 (.bool false)) fun t153 =>
  .op (.mv t153) fun t6 =>
  .done (e.upd 6 t6)) h Q := Iff.rfl
def c6 : CFn := ⟨(.seq (.region c6_r0) (.seq (.seq (.region c6_r1) (.cond (fun e => e 21) (.seq (.region c6_r2) .ret) .skip)) (.seq (.seq (.region c6_r3) (.cond (fun e => e 29) (.seq (.region c6_r4) .ret) .skip)) (.seq (.region c6_r5) (.seq (.region c6_r6) (.seq (.region c6_r7) (.seq (.region c6_r8) (.seq (.seq (.region c6_r9) (.block 0 (.loop c6_l3))) (.seq (.region c6_r39) .ret))))))))), [.t 6]⟩
def p6 : Pers := ⟨20, [21, 29, 48, 49, 50, 51, 59, 60, 61, 73, 95, 103, 117, 118, 119, 131, 143], 154⟩
-- 7: weighbridge/weighbridgelaw06.SlotOver
def c7_r0 : Env → Reg := fun e =>
  .op (.mv (.bool false)) fun t6 =>
  .done (e.upd 6 t6)
theorem c7_r0_run {CP : CProg} (e : Env) (h : Heap) (Q : Post) : RunR CP (c7_r0 e) h Q ↔ RunR CP (
  .op (.mv (.bool false)) fun t6 =>
  .done (e.upd 6 t6)) h Q := Iff.rfl
def c7_r1 : Env → Reg := fun e =>
  .op (.call 9 []) fun t17 =>
  .op (.un .not t17) fun t18 =>
  .done (e.upd 18 t18)
theorem c7_r1_run {CP : CProg} (e : Env) (h : Heap) (Q : Post) : RunR CP (c7_r1 e) h Q ↔ RunR CP (
  .op (.call 9 []) fun t17 =>
  .op (.un .not t17) fun t18 =>
  .done (e.upd 18 t18)) h Q := Iff.rfl
def c7_r2 : Env → Reg := fun e =>
  .op (.mv (.bool false)) fun t6 =>
  .done (e.upd 6 t6)
theorem c7_r2_run {CP : CProg} (e : Env) (h : Heap) (Q : Post) : RunR CP (c7_r2 e) h Q ↔ RunR CP (
  .op (.mv (.bool false)) fun t6 =>
  .done (e.upd 6 t6)) h Q := Iff.rfl
def c7_r3 : Env → Reg := fun e =>
  .op (.mv (e 0)) fun t19 =>
  .op (.lenSl t19) fun t20 =>
  .op (.bin .gtr t20 (.int .i64 60)) fun t21 =>
  .op (.mv t21) fun t22 =>
  .opg t22 false (.mv (e 2)) fun t23 =>
  .opg t22 false (.call 10 [t23]) fun t24 =>
  .opg t22 false (.un .not t24) fun t25 =>
  .op (.pick t22 (.bool true) t25) fun t26 =>
  .done (e.upd 26 t26)
theorem c7_r3_run {CP : CProg} (e : Env) (h : Heap) (Q : Post) : RunR CP (c7_r3 e) h Q ↔ RunR CP (
  .op (.mv (e 0)) fun t19 =>
  .op (.lenSl t19) fun t20 =>
  .op (.bin .gtr t20 (.int .i64 60)) fun t21 =>
  .op (.mv t21) fun t22 =>
  .opg t22 false (.mv (e 2)) fun t23 =>
  .opg t22 false (.call 10 [t23]) fun t24 =>
  .opg t22 false (.un .not t24) fun t25 =>
  .op (.pick t22 (.bool true) t25) fun t26 =>
  .done (e.upd 26 t26)) h Q := Iff.rfl
def c7_r4 : Env → Reg := fun e =>
  .op (.mv (.bool true)) fun t6 =>
  .done (e.upd 6 t6)
theorem c7_r4_run {CP : CProg} (e : Env) (h : Heap) (Q : Post) : RunR CP (c7_r4 e) h Q ↔ RunR CP (
  .op (.mv (.bool true)) fun t6 =>
  .done (e.upd 6 t6)) h Q := Iff.rfl
def c7_r5 : Env → Reg := fun e =>
  .op (.mv (e 1)) fun t27 =>
  .op (.bin .and t27 (.int .i64 15)) fun t28 =>
  .op (.bin .add t28 (.int .i64 1)) fun t29 =>
  .op (.mv t29) fun t1 =>
  .done (e.upd 1 t1)
theorem c7_r5_run {CP : CProg} (e : Env) (h : Heap) (Q : Post) : RunR CP (c7_r5 e) h Q ↔ RunR CP (
  .op (.mv (e 1)) fun t27 =>
  .op (.bin .and t27 (.int .i64 15)) fun t28 =>
  .op (.bin .add t28 (.int .i64 1)) fun t29 =>
  .op (.mv t29) fun t1 =>
  .done (e.upd 1 t1)) h Q := Iff.rfl
def c7_r6 : Env → Reg := fun e =>
  .op (.mv (e 0)) fun t30 =>
  .op (.call 11 [t30, (.int .i64 3)]) fun t31 =>
  .op (.mv (e 1)) fun t32 =>
  .op (.call 12 [t31, t32]) fun t33 =>
  .op (.mv (e 0)) fun t34 =>
  .op (.call 11 [t34, (.int .i64 1)]) fun t35 =>
  .op (.call 12 [t35, (.int .i64 1)]) fun t36 =>
  .op (.mv t33) fun t7 =>
  .op (.mv t36) fun t8 =>
  .done ((e.upd 7 t7).upd 8 t8)
theorem c7_r6_run {CP : CProg} (e : Env) (h : Heap) (Q : Post) : RunR CP (c7_r6 e) h Q ↔ RunR CP (
  .op (.mv (e 0)) fun t30 =>
  .op (.call 11 [t30, (.int .i64 3)]) fun t31 =>
  .op (.mv (e 1)) fun t32 =>
  .op (.call 12 [t31, t32]) fun t33 =>
  .op (.mv (e 0)) fun t34 =>
  .op (.call 11 [t34, (.int .i64 1)]) fun t35 =>
  .op (.call 12 [t35, (.int .i64 1)]) fun t36 =>
  .op (.mv t33) fun t7 =>
  .op (.mv t36) fun t8 =>
  .done ((e.upd 7 t7).upd 8 t8)) h Q := Iff.rfl
def c7_r7 : Env → Reg := fun e =>
  .op (.makeMap) fun t37 =>
  .op (.mv t37) fun t9 =>
  .done (e.upd 9 t9)
theorem c7_r7_run {CP : CProg} (e : Env) (h : Heap) (Q : Post) : RunR CP (c7_r7 e) h Q ↔ RunR CP (
  .op (.makeMap) fun t37 =>
  .op (.mv t37) fun t9 =>
  .done (e.upd 9 t9)) h Q := Iff.rfl
def c7_r8 : Env → Reg := fun e =>
  .op (.mv (.int .i64 0)) fun t10 =>
  .done (e.upd 10 t10)
theorem c7_r8_run {CP : CProg} (e : Env) (h : Heap) (Q : Post) : RunR CP (c7_r8 e) h Q ↔ RunR CP (
  .op (.mv (.int .i64 0)) fun t10 =>
  .done (e.upd 10 t10)) h Q := Iff.rfl
def c7_r9 : Env → Reg := fun e =>
  .op (.mv (e 2)) fun t38 =>
  .op (.lenSl t38) fun t39 =>
  .op (.mv (.int .i64 0)) fun t40 =>
  .done (((e.upd 38 t38).upd 39 t39).upd 40 t40)
theorem c7_r9_run {CP : CProg} (e : Env) (h : Heap) (Q : Post) : RunR CP (c7_r9 e) h Q ↔ RunR CP (
  .op (.mv (e 2)) fun t38 =>
  .op (.lenSl t38) fun t39 =>
  .op (.mv (.int .i64 0)) fun t40 =>
  .done (((e.upd 38 t38).upd 39 t39).upd 40 t40)) h Q := Iff.rfl
def c7_r10 : Env → Reg := fun e =>
  .op (.bin .lss (e 40) (e 39)) fun t41 =>
  .done (e.upd 41 t41)
theorem c7_r10_run {CP : CProg} (e : Env) (h : Heap) (Q : Post) : RunR CP (c7_r10 e) h Q ↔ RunR CP (
  .op (.bin .lss (e 40) (e 39)) fun t41 =>
  .done (e.upd 41 t41)) h Q := Iff.rfl
def c7_r11 : Env → Reg := fun e =>
  .op (.indexSl 2 (e 38) (e 40)) fun t42 =>
  .op (.load (some 2) t42) fun t43 =>
  .op (.alloc 32 [(.string ⟨#[]⟩), (.int .i64 0)]) fun t12 =>
  .op (.store 2 t12 t43) fun _ =>
  .done (e.upd 12 t12)
theorem c7_r11_run {CP : CProg} (e : Env) (h : Heap) (Q : Post) : RunR CP (c7_r11 e) h Q ↔ RunR CP (
  .op (.indexSl 2 (e 38) (e 40)) fun t42 =>
  .op (.load (some 2) t42) fun t43 =>
  .op (.alloc 32 [(.string ⟨#[]⟩), (.int .i64 0)]) fun t12 =>
  .op (.store 2 t12 t43) fun _ =>
  .done (e.upd 12 t12)) h Q := Iff.rfl
def c7_r12 : Env → Reg := fun e =>
  .op (.fieldAddr 1 (e 12)) fun t44 =>
  .op (.load none t44) fun t45 =>
  .op (.bin .and t45 (.int .i64 65535)) fun t46 =>
  .op (.mv t46) fun t13 =>
  .done (e.upd 13 t13)
theorem c7_r12_run {CP : CProg} (e : Env) (h : Heap) (Q : Post) : RunR CP (c7_r12 e) h Q ↔ RunR CP (
  .op (.fieldAddr 1 (e 12)) fun t44 =>
  .op (.load none t44) fun t45 =>
  .op (.bin .and t45 (.int .i64 65535)) fun t46 =>
  .op (.mv t46) fun t13 =>
  .done (e.upd 13 t13)) h Q := Iff.rfl
def c7_r13 : Env → Reg := fun e =>
  .op (.mv (e 7)) fun t47 =>
  .op (.fieldAddr 0 (e 12)) fun t48 =>
  .op (.load none t48) fun t49 =>
  .op (.mv (e 13)) fun t50 =>
  .op (.call 13 [t47, t49, t50]) fun t51 =>
  .done e
theorem c7_r13_run {CP : CProg} (e : Env) (h : Heap) (Q : Post) : RunR CP (c7_r13 e) h Q ↔ RunR CP (
  .op (.mv (e 7)) fun t47 =>
  .op (.fieldAddr 0 (e 12)) fun t48 =>
  .op (.load none t48) fun t49 =>
  .op (.mv (e 13)) fun t50 =>
  .op (.call 13 [t47, t49, t50]) fun t51 =>
  .done e) h Q := Iff.rfl
def c7_r14 : Env → Reg := fun e =>
  .op (.mv (e 8)) fun t52 =>
  .op (.fieldAddr 0 (e 12)) fun t53 =>
  .op (.load none t53) fun t54 =>
  .op (.mv (e 13)) fun t55 =>
  .op (.call 13 [t52, t54, t55]) fun t56 =>
  .done e
theorem c7_r14_run {CP : CProg} (e : Env) (h : Heap) (Q : Post) : RunR CP (c7_r14 e) h Q ↔ RunR CP (
  .op (.mv (e 8)) fun t52 =>
  .op (.fieldAddr 0 (e 12)) fun t53 =>
  .op (.load none t53) fun t54 =>
  .op (.mv (e 13)) fun t55 =>
  .op (.call 13 [t52, t54, t55]) fun t56 =>
  .done e) h Q := Iff.rfl
def c7_r15 : Env → Reg := fun e =>
  .op (.mv (e 9)) fun t57 =>
  .op (.fieldAddr 0 (e 12)) fun t58 =>
  .op (.load none t58) fun t59 =>
  .op (.lookup (.one .str) (.int .i64 0) false t57 t59) fun t60 =>
  .op (.mv (e 13)) fun t61 =>
  .op (.bin .add t60 t61) fun t62 =>
  .op (.mapUpdate (.one .str) t57 t59 t62) fun _ =>
  .done e
theorem c7_r15_run {CP : CProg} (e : Env) (h : Heap) (Q : Post) : RunR CP (c7_r15 e) h Q ↔ RunR CP (
  .op (.mv (e 9)) fun t57 =>
  .op (.fieldAddr 0 (e 12)) fun t58 =>
  .op (.load none t58) fun t59 =>
  .op (.lookup (.one .str) (.int .i64 0) false t57 t59) fun t60 =>
  .op (.mv (e 13)) fun t61 =>
  .op (.bin .add t60 t61) fun t62 =>
  .op (.mapUpdate (.one .str) t57 t59 t62) fun _ =>
  .done e) h Q := Iff.rfl
def c7_r16 : Env → Reg := fun e =>
  .op (.mv (e 10)) fun t63 =>
  .op (.mv (e 13)) fun t64 =>
  .op (.bin .add t63 t64) fun t65 =>
  .op (.mv t65) fun t10 =>
  .done (e.upd 10 t10)
theorem c7_r16_run {CP : CProg} (e : Env) (h : Heap) (Q : Post) : RunR CP (c7_r16 e) h Q ↔ RunR CP (
  .op (.mv (e 10)) fun t63 =>
  .op (.mv (e 13)) fun t64 =>
  .op (.bin .add t63 t64) fun t65 =>
  .op (.mv t65) fun t10 =>
  .done (e.upd 10 t10)) h Q := Iff.rfl
def c7_r17 : Env → Reg := fun e =>
  .op (.mv (e 9)) fun t66 =>
  .op (.rangeMap t66) fun t67 =>
  .done (e.upd 67 t67)
theorem c7_r17_run {CP : CProg} (e : Env) (h : Heap) (Q : Post) : RunR CP (c7_r17 e) h Q ↔ RunR CP (
  .op (.mv (e 9)) fun t66 =>
  .op (.rangeMap t66) fun t67 =>
  .done (e.upd 67 t67)) h Q := Iff.rfl
def c7_r18 : Env → Reg := fun e =>
  .op (.bad) fun t68 =>
  .op (.extract t68 0) fun t69 =>
  .done (e.upd 69 t69)
theorem c7_r18_run {CP : CProg} (e : Env) (h : Heap) (Q : Post) : RunR CP (c7_r18 e) h Q ↔ RunR CP (
  .op (.bad) fun t68 =>
  .op (.extract t68 0) fun t69 =>
  .done (e.upd 69 t69)) h Q := Iff.rfl
def c7_r19 : Env → Reg := fun e =>
  .op (.bad) fun t70 =>
  .op (.extract t70 0) fun t71 =>
  .op (.extract t70 1) fun t72 =>
  .op (.mv t71) fun t14 =>
  .op (.mv t72) fun t15 =>
  .done ((e.upd 14 t14).upd 15 t15)
theorem c7_r19_run {CP : CProg} (e : Env) (h : Heap) (Q : Post) : RunR CP (c7_r19 e) h Q ↔ RunR CP (
  .op (.bad) fun t70 =>
  .op (.extract t70 0) fun t71 =>
  .op (.extract t70 1) fun t72 =>
  .op (.mv t71) fun t14 =>
  .op (.mv t72) fun t15 =>
  .done ((e.upd 14 t14).upd 15 t15)) h Q := Iff.rfl
def c7_r20_c2 (e : Env) (t85 : Value) (t88 : Value) : Reg :=
  .opg t85 false (.mv (e 10)) fun t89 =>
  .opg t85 false (.bin .neq t88 t89) fun t90 =>
  .op (.pick t85 (.bool true) t90) fun t91 =>
  .done (e.upd 91 t91)
theorem c7_r20_c2_run {CP : CProg} (e : Env) (t85 : Value) (t88 : Value) (h : Heap) (Q : Post) : RunR CP (c7_r20_c2 e t85 t88) h Q ↔ RunR CP (
  .opg t85 false (.mv (e 10)) fun t89 =>
  .opg t85 false (.bin .neq t88 t89) fun t90 =>
  .op (.pick t85 (.bool true) t90) fun t91 =>
  .done (e.upd 91 t91)) h Q := Iff.rfl
def c7_r20_c1 (e : Env) (t78 : Value) (t79 : Value) (t80 : Value) : Reg :=
  .opg t78 false (.call 15 [t79, t80]) fun t81 =>
  .opg t78 false (.mv (e 10)) fun t82 =>
  .opg t78 false (.bin .gtr t81 t82) fun t83 =>
  .op (.pick t78 (.bool true) t83) fun t84 =>
  .op (.mv t84) fun t85 =>
  .opg t85 false (.mv (e 8)) fun t86 =>
  .opg t85 false (.mv (e 14)) fun t87 =>
  .opg t85 false (.call 15 [t86, t87]) fun t88 =>
  c7_r20_c2 e t85 t88
theorem c7_r20_c1_run {CP : CProg} (e : Env) (t78 : Value) (t79 : Value) (t80 : Value) (h : Heap) (Q : Post) : RunR CP (c7_r20_c1 e t78 t79 t80) h Q ↔ RunR CP (
  .opg t78 false (.call 15 [t79, t80]) fun t81 =>
  .opg t78 false (.mv (e 10)) fun t82 =>
  .opg t78 false (.bin .gtr t81 t82) fun t83 =>
  .op (.pick t78 (.bool true) t83) fun t84 =>
  .op (.mv t84) fun t85 =>
  .opg t85 false (.mv (e 8)) fun t86 =>
  .opg t85 false (.mv (e 14)) fun t87 =>
  .opg t85 false (.call 15 [t86, t87]) fun t88 =>
  c7_r20_c2 e t85 t88) h Q := Iff.rfl
def c7_r20 : Env → Reg := fun e =>
  .op (.mv (e 7)) fun t73 =>
  .op (.mv (e 14)) fun t74 =>
  .op (.call 15 [t73, t74]) fun t75 =>
  .op (.mv (e 15)) fun t76 =>
  .op (.bin .lss t75 t76) fun t77 =>
  .op (.mv t77) fun t78 =>
  .opg t78 false (.mv (e 7)) fun t79 =>
  .opg t78 false (.mv (e 14)) fun t80 =>
  c7_r20_c1 e t78 t79 t80
theorem c7_r20_run {CP : CProg} (e : Env) (h : Heap) (Q : Post) : RunR CP (c7_r20 e) h Q ↔ RunR CP (
  .op (.mv (e 7)) fun t73 =>
  .op (.mv (e 14)) fun t74 =>
  .op (.call 15 [t73, t74]) fun t75 =>
  .op (.mv (e 15)) fun t76 =>
  .op (.bin .lss t75 t76) fun t77 =>
  .op (.mv t77) fun t78 =>
  .opg t78 false (.mv (e 7)) fun t79 =>
  .opg t78 false (.mv (e 14)) fun t80 =>
  c7_r20_c1 e t78 t79 t80) h Q := Iff.rfl
def c7_r21 : Env → Reg := fun e =>
  .op (.mv (.bool false)) fun t6 =>
  .done (e.upd 6 t6)
theorem c7_r21_run {CP : CProg} (e : Env) (h : Heap) (Q : Post) : RunR CP (c7_r21 e) h Q ↔ RunR CP (
  .op (.mv (.bool false)) fun t6 =>
  .done (e.upd 6 t6)) h Q := Iff.rfl
def c7_l0 : CC := (.seq (.region c7_r18) (.seq (.cond (fun e => e 69) .skip (.exit 2)) (.block 3 (.seq (.region c7_r19) (.seq (.region c7_r20) (.cond (fun e => e 91) (.seq (.region c7_r21) .ret) .skip))))))
def c7_r22 : Env → Reg := fun e =>
  .op (.bin .add (e 40) (.int .i64 1)) fun t92 =>
  .op (.mv t92) fun t40 =>
  .done (e.upd 40 t40)
theorem c7_r22_run {CP : CProg} (e : Env) (h : Heap) (Q : Post) : RunR CP (c7_r22 e) h Q ↔ RunR CP (
  .op (.bin .add (e 40) (.int .i64 1)) fun t92 =>
  .op (.mv t92) fun t40 =>
  .done (e.upd 40 t40)) h Q := Iff.rfl
def c7_l1 : CC := (.seq (.region c7_r10) (.seq (.cond (fun e => e 41) .skip (.exit 0)) (.seq (.block 1 (.seq (.region c7_r11) (.seq (.region c7_r12) (.seq (.region c7_r13) (.seq (.region c7_r14) (.seq (.region c7_r15) (.seq (.region c7_r16) (.seq (.region c7_r17) (.block 2 (.loop c7_l0)))))))))) (.region c7_r22))))
def c7_r23 : Env → Reg := fun e =>
  .op (.mv (.pointer none)) fun t16 =>
  .done (e.upd 16 t16)
theorem c7_r23_run {CP : CProg} (e : Env) (h : Heap) (Q : Post) : RunR CP (c7_r23 e) h Q ↔ RunR CP (
  .op (.mv (.pointer none)) fun t16 =>
  .done (e.upd 16 t16)) h Q := Iff.rfl
def c7_r24 : Env → Reg := fun e =>
  .op (.mv (e 16)) fun t93 =>
  .op (.call 13 [t93, (.string ⟨#[97]⟩), (.int .i64 1)]) fun t94 =>
  .done e
theorem c7_r24_run {CP : CProg} (e : Env) (h : Heap) (Q : Post) : RunR CP (c7_r24 e) h Q ↔ RunR CP (
  .op (.mv (e 16)) fun t93 =>
  .op (.call 13 [t93, (.string ⟨#[97]⟩), (.int .i64 1)]) fun t94 =>
  .done e) h Q := Iff.rfl
def c7_r25 : Env → Reg := fun e =>
  .op (.mv (e 16)) fun t95 =>
  .op (.call 20 [t95]) fun t96 =>
  .done e
theorem c7_r25_run {CP : CProg} (e : Env) (h : Heap) (Q : Post) : RunR CP (c7_r25 e) h Q ↔ RunR CP (
  .op (.mv (e 16)) fun t95 =>
  .op (.call 20 [t95]) fun t96 =>
  .done e) h Q := Iff.rfl
def c7_r26_c2 (e : Env) (t109 : Value) (t112 : Value) : Reg :=
  .opg t109 true (.eqK .ptr false t112 (.pointer none)) fun t113 =>
  .op (.pick t109 t113 (.bool false)) fun t114 =>
  .op (.mv t114) fun t6 =>
  .done (e.upd 6 t6)
theorem c7_r26_c2_run {CP : CProg} (e : Env) (t109 : Value) (t112 : Value) (h : Heap) (Q : Post) : RunR CP (c7_r26_c2 e t109 t112) h Q ↔ RunR CP (
  .opg t109 true (.eqK .ptr false t112 (.pointer none)) fun t113 =>
  .op (.pick t109 t113 (.bool false)) fun t114 =>
  .op (.mv t114) fun t6 =>
  .done (e.upd 6 t6)) h Q := Iff.rfl
def c7_r26_c1 (e : Env) (t104 : Value) : Reg :=
  .op (.mv t104) fun t105 =>
  .opg t105 true (.call 12 [(.slice none 0 0), (.int .i64 3)]) fun t106 =>
  .opg t105 true (.eqK .ptr false t106 (.pointer none)) fun t107 =>
  .op (.pick t105 t107 (.bool false)) fun t108 =>
  .op (.mv t108) fun t109 =>
  .opg t109 true (.mv (e 0)) fun t110 =>
  .opg t109 true (.call 11 [t110, (.int .i64 1)]) fun t111 =>
  .opg t109 true (.call 12 [t111, (.int .i64 0)]) fun t112 =>
  c7_r26_c2 e t109 t112
theorem c7_r26_c1_run {CP : CProg} (e : Env) (t104 : Value) (h : Heap) (Q : Post) : RunR CP (c7_r26_c1 e t104) h Q ↔ RunR CP (
  .op (.mv t104) fun t105 =>
  .opg t105 true (.call 12 [(.slice none 0 0), (.int .i64 3)]) fun t106 =>
  .opg t105 true (.eqK .ptr false t106 (.pointer none)) fun t107 =>
  .op (.pick t105 t107 (.bool false)) fun t108 =>
  .op (.mv t108) fun t109 =>
  .opg t109 true (.mv (e 0)) fun t110 =>
  .opg t109 true (.call 11 [t110, (.int .i64 1)]) fun t111 =>
  .opg t109 true (.call 12 [t111, (.int .i64 0)]) fun t112 =>
  c7_r26_c2 e t109 t112) h Q := Iff.rfl
def c7_r26 : Env → Reg := fun e =>
  .op (.mv (e 16)) fun t97 =>
  .op (.call 15 [t97, (.string ⟨#[97]⟩)]) fun t98 =>
  .op (.bin .eql t98 (.int .i64 0)) fun t99 =>
  .op (.mv t99) fun t100 =>
  .opg t100 true (.mv (e 16)) fun t101 =>
  .opg t100 true (.call 16 [t101, (.int .i64 0), (.string ⟨#[97]⟩)]) fun t102 =>
  .opg t100 true (.bin .eql t102 (.int .i64 0)) fun t103 =>
  .op (.pick t100 t103 (.bool false)) fun t104 =>
  c7_r26_c1 e t104
theorem c7_r26_run {CP : CProg} (e : Env) (h : Heap) (Q : Post) : RunR CP (c7_r26 e) h Q ↔ RunR CP (
  .op (.mv (e 16)) fun t97 =>
  .op (.call 15 [t97, (.string ⟨#[97]⟩)]) fun t98 =>
  .op (.bin .eql t98 (.int .i64 0)) fun t99 =>
  .op (.mv t99) fun t100 =>
  .opg t100 true (.mv (e 16)) fun t101 =>
  .opg t100 true (.call 16 [t101, (.int .i64 0), (.string ⟨#[97]⟩)]) fun t102 =>
  .opg t100 true (.bin .eql t102 (.int .i64 0)) fun t103 =>
  .op (.pick t100 t103 (.bool false)) fun t104 =>
  c7_r26_c1 e t104) h Q := Iff.rfl
def c7 : CFn := ⟨(.seq (.region c7_r0) (.seq (.seq (.region c7_r1) (.cond (fun e => e 18) (.seq (.region c7_r2) .ret) .skip)) (.seq (.seq (.region c7_r3) (.cond (fun e => e 26) (.seq (.region c7_r4) .ret) .skip)) (.seq (.region c7_r5) (.seq (.region c7_r6) (.seq (.region c7_r7) (.seq (.region c7_r8) (.seq (.seq (.region c7_r9) (.block 0 (.loop c7_l1))) (.seq (.region c7_r23) (.seq (.region c7_r24) (.seq (.region c7_r25) (.seq (.region c7_r26) .ret)))))))))))), [.t 6]⟩
def p7 : Pers := ⟨17, [18, 26, 38, 39, 40, 41, 67, 69, 91], 115⟩
-- 8: weighbridge/weighbridgelaw06.SlotClear
def c8_r0 : Env → Reg := fun e =>
  .op (.mv (.bool false)) fun t6 =>
  .done (e.upd 6 t6)
theorem c8_r0_run {CP : CProg} (e : Env) (h : Heap) (Q : Post) : RunR CP (c8_r0 e) h Q ↔ RunR CP (
  .op (.mv (.bool false)) fun t6 =>
  .done (e.upd 6 t6)) h Q := Iff.rfl
def c8_r1 : Env → Reg := fun e =>
  .op (.call 9 []) fun t15 =>
  .op (.un .not t15) fun t16 =>
  .done (e.upd 16 t16)
theorem c8_r1_run {CP : CProg} (e : Env) (h : Heap) (Q : Post) : RunR CP (c8_r1 e) h Q ↔ RunR CP (
  .op (.call 9 []) fun t15 =>
  .op (.un .not t15) fun t16 =>
  .done (e.upd 16 t16)) h Q := Iff.rfl
def c8_r2 : Env → Reg := fun e =>
  .op (.mv (.bool false)) fun t6 =>
  .done (e.upd 6 t6)
theorem c8_r2_run {CP : CProg} (e : Env) (h : Heap) (Q : Post) : RunR CP (c8_r2 e) h Q ↔ RunR CP (
  .op (.mv (.bool false)) fun t6 =>
  .done (e.upd 6 t6)) h Q := Iff.rfl
def c8_r3_c1 (e : Env) (t24 : Value) : Reg :=
  .op (.mv t24) fun t25 =>
  .opg t25 false (.mv (e 2)) fun t26 =>
  .opg t25 false (.call 10 [t26]) fun t27 =>
  .opg t25 false (.un .not t27) fun t28 =>
  .op (.pick t25 (.bool true) t28) fun t29 =>
  .done (e.upd 29 t29)
theorem c8_r3_c1_run {CP : CProg} (e : Env) (t24 : Value) (h : Heap) (Q : Post) : RunR CP (c8_r3_c1 e t24) h Q ↔ RunR CP (
  .op (.mv t24) fun t25 =>
  .opg t25 false (.mv (e 2)) fun t26 =>
  .opg t25 false (.call 10 [t26]) fun t27 =>
  .opg t25 false (.un .not t27) fun t28 =>
  .op (.pick t25 (.bool true) t28) fun t29 =>
  .done (e.upd 29 t29)) h Q := Iff.rfl
def c8_r3 : Env → Reg := fun e =>
  .op (.mv (e 0)) fun t17 =>
  .op (.lenSl t17) fun t18 =>
  .op (.bin .gtr t18 (.int .i64 60)) fun t19 =>
  .op (.mv t19) fun t20 =>
  .opg t20 false (.mv (e 1)) fun t21 =>
  .opg t20 false (.call 10 [t21]) fun t22 =>
  .opg t20 false (.un .not t22) fun t23 =>
  .op (.pick t20 (.bool true) t23) fun t24 =>
  c8_r3_c1 e t24
theorem c8_r3_run {CP : CProg} (e : Env) (h : Heap) (Q : Post) : RunR CP (c8_r3 e) h Q ↔ RunR CP (
  .op (.mv (e 0)) fun t17 =>
  .op (.lenSl t17) fun t18 =>
  .op (.bin .gtr t18 (.int .i64 60)) fun t19 =>
  .op (.mv t19) fun t20 =>
  .opg t20 false (.mv (e 1)) fun t21 =>
  .opg t20 false (.call 10 [t21]) fun t22 =>
  .opg t20 false (.un .not t22) fun t23 =>
  .op (.pick t20 (.bool true) t23) fun t24 =>
  c8_r3_c1 e t24) h Q := Iff.rfl
def c8_r4 : Env → Reg := fun e =>
  .op (.mv (.bool true)) fun t6 =>
  .done (e.upd 6 t6)
theorem c8_r4_run {CP : CProg} (e : Env) (h : Heap) (Q : Post) : RunR CP (c8_r4 e) h Q ↔ RunR CP (
  .op (.mv (.bool true)) fun t6 =>
  .done (e.upd 6 t6)) h Q := Iff.rfl
def c8_r5 : Env → Reg := fun e =>
  .op (.mv (e 0)) fun t30 =>
  .op (.call 11 [t30, (.int .i64 3)]) fun t31 =>
  .op (.mv t31) fun t7 =>
  .done (e.upd 7 t7)
theorem c8_r5_run {CP : CProg} (e : Env) (h : Heap) (Q : Post) : RunR CP (c8_r5 e) h Q ↔ RunR CP (
  .op (.mv (e 0)) fun t30 =>
  .op (.call 11 [t30, (.int .i64 3)]) fun t31 =>
  .op (.mv t31) fun t7 =>
  .done (e.upd 7 t7)) h Q := Iff.rfl
def c8_r6 : Env → Reg := fun e =>
  .op (.mv (e 7)) fun t32 =>
  .op (.call 12 [t32, (.int .i64 7)]) fun t33 =>
  .op (.mv (e 7)) fun t34 =>
  .op (.call 12 [t34, (.int .i64 7)]) fun t35 =>
  .op (.mv t33) fun t8 =>
  .op (.mv t35) fun t9 =>
  .done ((e.upd 8 t8).upd 9 t9)
theorem c8_r6_run {CP : CProg} (e : Env) (h : Heap) (Q : Post) : RunR CP (c8_r6 e) h Q ↔ RunR CP (
  .op (.mv (e 7)) fun t32 =>
  .op (.call 12 [t32, (.int .i64 7)]) fun t33 =>
  .op (.mv (e 7)) fun t34 =>
  .op (.call 12 [t34, (.int .i64 7)]) fun t35 =>
  .op (.mv t33) fun t8 =>
  .op (.mv t35) fun t9 =>
  .done ((e.upd 8 t8).upd 9 t9)) h Q := Iff.rfl
def c8_r7 : Env → Reg := fun e =>
  .op (.mv (e 1)) fun t36 =>
  .op (.lenSl t36) fun t37 =>
  .op (.mv (.int .i64 0)) fun t38 =>
  .done (((e.upd 36 t36).upd 37 t37).upd 38 t38)
theorem c8_r7_run {CP : CProg} (e : Env) (h : Heap) (Q : Post) : RunR CP (c8_r7 e) h Q ↔ RunR CP (
  .op (.mv (e 1)) fun t36 =>
  .op (.lenSl t36) fun t37 =>
  .op (.mv (.int .i64 0)) fun t38 =>
  .done (((e.upd 36 t36).upd 37 t37).upd 38 t38)) h Q := Iff.rfl
def c8_r8 : Env → Reg := fun e =>
  .op (.bin .lss (e 38) (e 37)) fun t39 =>
  .done (e.upd 39 t39)
theorem c8_r8_run {CP : CProg} (e : Env) (h : Heap) (Q : Post) : RunR CP (c8_r8 e) h Q ↔ RunR CP (
  .op (.bin .lss (e 38) (e 37)) fun t39 =>
  .done (e.upd 39 t39)) h Q := Iff.rfl
def c8_r9 : Env → Reg := fun e =>
  .op (.indexSl 2 (e 36) (e 38)) fun t40 =>
  .op (.load (some 2) t40) fun t41 =>
  .op (.alloc 32 [(.string ⟨#[]⟩), (.int .i64 0)]) fun t11 =>
  .op (.store 2 t11 t41) fun _ =>
  .done (e.upd 11 t11)
theorem c8_r9_run {CP : CProg} (e : Env) (h : Heap) (Q : Post) : RunR CP (c8_r9 e) h Q ↔ RunR CP (
  .op (.indexSl 2 (e 36) (e 38)) fun t40 =>
  .op (.load (some 2) t40) fun t41 =>
  .op (.alloc 32 [(.string ⟨#[]⟩), (.int .i64 0)]) fun t11 =>
  .op (.store 2 t11 t41) fun _ =>
  .done (e.upd 11 t11)) h Q := Iff.rfl
def c8_r10 : Env → Reg := fun e =>
  .op (.mv (e 8)) fun t42 =>
  .op (.fieldAddr 0 (e 11)) fun t43 =>
  .op (.load none t43) fun t44 =>
  .op (.fieldAddr 1 (e 11)) fun t45 =>
  .op (.load none t45) fun t46 =>
  .op (.call 13 [t42, t44, t46]) fun t47 =>
  .done e
theorem c8_r10_run {CP : CProg} (e : Env) (h : Heap) (Q : Post) : RunR CP (c8_r10 e) h Q ↔ RunR CP (
  .op (.mv (e 8)) fun t42 =>
  .op (.fieldAddr 0 (e 11)) fun t43 =>
  .op (.load none t43) fun t44 =>
  .op (.fieldAddr 1 (e 11)) fun t45 =>
  .op (.load none t45) fun t46 =>
  .op (.call 13 [t42, t44, t46]) fun t47 =>
  .done e) h Q := Iff.rfl
def c8_r11 : Env → Reg := fun e =>
  .op (.bin .add (e 38) (.int .i64 1)) fun t48 =>
  .op (.mv t48) fun t38 =>
  .done (e.upd 38 t38)
theorem c8_r11_run {CP : CProg} (e : Env) (h : Heap) (Q : Post) : RunR CP (c8_r11 e) h Q ↔ RunR CP (
  .op (.bin .add (e 38) (.int .i64 1)) fun t48 =>
  .op (.mv t48) fun t38 =>
  .done (e.upd 38 t38)) h Q := Iff.rfl
def c8_l0 : CC := (.seq (.region c8_r8) (.seq (.cond (fun e => e 39) .skip (.exit 0)) (.seq (.block 1 (.seq (.region c8_r9) (.region c8_r10))) (.region c8_r11))))
def c8_r12 : Env → Reg := fun e =>
  .op (.mv (e 8)) fun t49 =>
  .op (.call 20 [t49]) fun t50 =>
  .done e
theorem c8_r12_run {CP : CProg} (e : Env) (h : Heap) (Q : Post) : RunR CP (c8_r12 e) h Q ↔ RunR CP (
  .op (.mv (e 8)) fun t49 =>
  .op (.call 20 [t49]) fun t50 =>
  .done e) h Q := Iff.rfl
def c8_r13 : Env → Reg := fun e =>
  .op (.mv (e 2)) fun t51 =>
  .op (.lenSl t51) fun t52 =>
  .op (.mv (.int .i64 0)) fun t53 =>
  .done (((e.upd 51 t51).upd 52 t52).upd 53 t53)
theorem c8_r13_run {CP : CProg} (e : Env) (h : Heap) (Q : Post) : RunR CP (c8_r13 e) h Q ↔ RunR CP (
  .op (.mv (e 2)) fun t51 =>
  .op (.lenSl t51) fun t52 =>
  .op (.mv (.int .i64 0)) fun t53 =>
  .done (((e.upd 51 t51).upd 52 t52).upd 53 t53)) h Q := Iff.rfl
def c8_r14 : Env → Reg := fun e =>
  .op (.bin .lss (e 53) (e 52)) fun t54 =>
  .done (e.upd 54 t54)
theorem c8_r14_run {CP : CProg} (e : Env) (h : Heap) (Q : Post) : RunR CP (c8_r14 e) h Q ↔ RunR CP (
  .op (.bin .lss (e 53) (e 52)) fun t54 =>
  .done (e.upd 54 t54)) h Q := Iff.rfl
def c8_r15 : Env → Reg := fun e =>
  .op (.indexSl 2 (e 51) (e 53)) fun t55 =>
  .op (.load (some 2) t55) fun t56 =>
  .op (.alloc 32 [(.string ⟨#[]⟩), (.int .i64 0)]) fun t13 =>
  .op (.store 2 t13 t56) fun _ =>
  .done (e.upd 13 t13)
theorem c8_r15_run {CP : CProg} (e : Env) (h : Heap) (Q : Post) : RunR CP (c8_r15 e) h Q ↔ RunR CP (
  .op (.indexSl 2 (e 51) (e 53)) fun t55 =>
  .op (.load (some 2) t55) fun t56 =>
  .op (.alloc 32 [(.string ⟨#[]⟩), (.int .i64 0)]) fun t13 =>
  .op (.store 2 t13 t56) fun _ =>
  .done (e.upd 13 t13)) h Q := Iff.rfl
def c8_r16 : Env → Reg := fun e =>
  .op (.mv (e 8)) fun t57 =>
  .op (.fieldAddr 0 (e 13)) fun t58 =>
  .op (.load none t58) fun t59 =>
  .op (.fieldAddr 1 (e 13)) fun t60 =>
  .op (.load none t60) fun t61 =>
  .op (.call 13 [t57, t59, t61]) fun t62 =>
  .done e
theorem c8_r16_run {CP : CProg} (e : Env) (h : Heap) (Q : Post) : RunR CP (c8_r16 e) h Q ↔ RunR CP (
  .op (.mv (e 8)) fun t57 =>
  .op (.fieldAddr 0 (e 13)) fun t58 =>
  .op (.load none t58) fun t59 =>
  .op (.fieldAddr 1 (e 13)) fun t60 =>
  .op (.load none t60) fun t61 =>
  .op (.call 13 [t57, t59, t61]) fun t62 =>
  .done e) h Q := Iff.rfl
def c8_r17 : Env → Reg := fun e =>
  .op (.mv (e 8)) fun t63 =>
  .op (.fieldAddr 0 (e 13)) fun t64 =>
  .op (.load none t64) fun t65 =>
  .op (.call 13 [t63, t65, (.int .i64 0)]) fun t66 =>
  .done e
theorem c8_r17_run {CP : CProg} (e : Env) (h : Heap) (Q : Post) : RunR CP (c8_r17 e) h Q ↔ RunR CP (
  .op (.mv (e 8)) fun t63 =>
  .op (.fieldAddr 0 (e 13)) fun t64 =>
  .op (.load none t64) fun t65 =>
  .op (.call 13 [t63, t65, (.int .i64 0)]) fun t66 =>
  .done e) h Q := Iff.rfl
def c8_r18 : Env → Reg := fun e =>
  .op (.mv (e 8)) fun t67 =>
  .op (.fieldAddr 0 (e 13)) fun t68 =>
  .op (.load none t68) fun t69 =>
  .op (.call 13 [t67, t69, (.int .i64 (-5))]) fun t70 =>
  .done e
theorem c8_r18_run {CP : CProg} (e : Env) (h : Heap) (Q : Post) : RunR CP (c8_r18 e) h Q ↔ RunR CP (
  .op (.mv (e 8)) fun t67 =>
  .op (.fieldAddr 0 (e 13)) fun t68 =>
  .op (.load none t68) fun t69 =>
  .op (.call 13 [t67, t69, (.int .i64 (-5))]) fun t70 =>
  .done e) h Q := Iff.rfl
def c8_r19 : Env → Reg := fun e =>
  .op (.mv (e 9)) fun t71 =>
  .op (.fieldAddr 0 (e 13)) fun t72 =>
  .op (.load none t72) fun t73 =>
  .op (.fieldAddr 1 (e 13)) fun t74 =>
  .op (.load none t74) fun t75 =>
  .op (.call 13 [t71, t73, t75]) fun t76 =>
  .done e
theorem c8_r19_run {CP : CProg} (e : Env) (h : Heap) (Q : Post) : RunR CP (c8_r19 e) h Q ↔ RunR CP (
  .op (.mv (e 9)) fun t71 =>
  .op (.fieldAddr 0 (e 13)) fun t72 =>
  .op (.load none t72) fun t73 =>
  .op (.fieldAddr 1 (e 13)) fun t74 =>
  .op (.load none t74) fun t75 =>
  .op (.call 13 [t71, t73, t75]) fun t76 =>
  .done e) h Q := Iff.rfl
def c8_r20 : Env → Reg := fun e =>
  .op (.mv (.int .i64 0)) fun t77 =>
  .done (e.upd 77 t77)
theorem c8_r20_run {CP : CProg} (e : Env) (h : Heap) (Q : Post) : RunR CP (c8_r20 e) h Q ↔ RunR CP (
  .op (.mv (.int .i64 0)) fun t77 =>
  .done (e.upd 77 t77)) h Q := Iff.rfl
def c8_r21 : Env → Reg := fun e =>
  .op (.bin .lss (e 77) (.int .i64 3)) fun t78 =>
  .done (e.upd 78 t78)
theorem c8_r21_run {CP : CProg} (e : Env) (h : Heap) (Q : Post) : RunR CP (c8_r21 e) h Q ↔ RunR CP (
  .op (.bin .lss (e 77) (.int .i64 3)) fun t78 =>
  .done (e.upd 78 t78)) h Q := Iff.rfl
def c8_r22 : Env → Reg := fun e =>
  .op (.mv (e 77)) fun t79 =>
  .op (.mv t79) fun t14 =>
  .done (e.upd 14 t14)
theorem c8_r22_run {CP : CProg} (e : Env) (h : Heap) (Q : Post) : RunR CP (c8_r22 e) h Q ↔ RunR CP (
  .op (.mv (e 77)) fun t79 =>
  .op (.mv t79) fun t14 =>
  .done (e.upd 14 t14)) h Q := Iff.rfl
def c8_r23_c1 (e : Env) (h4 : Heap) (t84 : Value) (t85 : Value) (t86 : Value) : Reg :=
  .op (.fieldAddr 0 (e 13)) fun t87 =>
  .op (.load none t87) fun t88 =>
  .chk none (some h4) (.load none t87) t88 <|
  .snap fun h9 =>
  .op (.call 16 [t85, t86, t88]) fun t89 =>
  .op (.bin .neq t84 t89) fun t90 =>
  .done (e.upd 90 t90)
theorem c8_r23_c1_run {CP : CProg} (e : Env) (h4 : Heap) (t84 : Value) (t85 : Value) (t86 : Value) (h : Heap) (Q : Post) : RunR CP (c8_r23_c1 e h4 t84 t85 t86) h Q ↔ RunR CP (
  .op (.fieldAddr 0 (e 13)) fun t87 =>
  .op (.load none t87) fun t88 =>
  .chk none (some h4) (.load none t87) t88 <|
  .snap fun h9 =>
  .op (.call 16 [t85, t86, t88]) fun t89 =>
  .op (.bin .neq t84 t89) fun t90 =>
  .done (e.upd 90 t90)) h Q := Iff.rfl
def c8_r23 : Env → Reg := fun e =>
  .op (.mv (e 8)) fun t80 =>
  .op (.mv (e 14)) fun t81 =>
  .op (.fieldAddr 0 (e 13)) fun t82 =>
  .op (.load none t82) fun t83 =>
  .snap fun h4 =>
  .op (.call 16 [t80, t81, t83]) fun t84 =>
  .op (.mv (e 9)) fun t85 =>
  .op (.mv (e 14)) fun t86 =>
  c8_r23_c1 e h4 t84 t85 t86
theorem c8_r23_run {CP : CProg} (e : Env) (h : Heap) (Q : Post) : RunR CP (c8_r23 e) h Q ↔ RunR CP (
  .op (.mv (e 8)) fun t80 =>
  .op (.mv (e 14)) fun t81 =>
  .op (.fieldAddr 0 (e 13)) fun t82 =>
  .op (.load none t82) fun t83 =>
  .snap fun h4 =>
  .op (.call 16 [t80, t81, t83]) fun t84 =>
  .op (.mv (e 9)) fun t85 =>
  .op (.mv (e 14)) fun t86 =>
  c8_r23_c1 e h4 t84 t85 t86) h Q := Iff.rfl
def c8_r24 : Env → Reg := fun e =>
  .op (.mv (.bool false)) fun t6 =>
  .done (e.upd 6 t6)
theorem c8_r24_run {CP : CProg} (e : Env) (h : Heap) (Q : Post) : RunR CP (c8_r24 e) h Q ↔ RunR CP (
  .op (.mv (.bool false)) fun t6 =>
  .done (e.upd 6 t6)) h Q := Iff.rfl
def c8_r25 : Env → Reg := fun e =>
  .op (.bin .add (e 77) (.int .i64 1)) fun t91 =>
  .op (.mv t91) fun t77 =>
  .done (e.upd 77 t77)
theorem c8_r25_run {CP : CProg} (e : Env) (h : Heap) (Q : Post) : RunR CP (c8_r25 e) h Q ↔ RunR CP (
  .op (.bin .add (e 77) (.int .i64 1)) fun t91 =>
  .op (.mv t91) fun t77 =>
  .done (e.upd 77 t77)) h Q := Iff.rfl
def c8_l1 : CC := (.seq (.region c8_r21) (.seq (.cond (fun e => e 78) .skip (.exit 4)) (.seq (.block 5 (.seq (.region c8_r22) (.seq (.region c8_r23) (.cond (fun e => e 90) (.seq (.region c8_r24) .ret) .skip)))) (.region c8_r25))))
def c8_r26 : Env → Reg := fun e =>
  .op (.bin .add (e 53) (.int .i64 1)) fun t92 =>
  .op (.mv t92) fun t53 =>
  .done (e.upd 53 t53)
theorem c8_r26_run {CP : CProg} (e : Env) (h : Heap) (Q : Post) : RunR CP (c8_r26 e) h Q ↔ RunR CP (
  .op (.bin .add (e 53) (.int .i64 1)) fun t92 =>
  .op (.mv t92) fun t53 =>
  .done (e.upd 53 t53)) h Q := Iff.rfl
def c8_l2 : CC := (.seq (.region c8_r14) (.seq (.cond (fun e => e 54) .skip (.exit 2)) (.seq (.block 3 (.seq (.region c8_r15) (.seq (.region c8_r16) (.seq (.region c8_r17) (.seq (.region c8_r18) (.seq (.region c8_r19) (.seq (.region c8_r20) (.block 4 (.loop c8_l1))))))))) (.region c8_r26))))
def c8_r27 : Env → Reg := fun e =>
  .op (.mv (.bool true)) fun t6 =>
  .done (e.upd 6 t6)
theorem c8_r27_run {CP : CProg} (e : Env) (h : Heap) (Q : Post) : RunR CP (c8_r27 e) h Q ↔ RunR CP (
  .op (.mv (.bool true)) fun t6 =>
  .done (e.upd 6 t6)) h Q := Iff.rfl
def c8 : CFn := ⟨(.seq (.region c8_r0) (.seq (.seq (.region c8_r1) (.cond (fun e => e 16) (.seq (.region c8_r2) .ret) .skip)) (.seq (.seq (.region c8_r3) (.cond (fun e => e 29) (.seq (.region c8_r4) .ret) .skip)) (.seq (.region c8_r5) (.seq (.region c8_r6) (.seq (.seq (.region c8_r7) (.block 0 (.loop c8_l0))) (.seq (.region c8_r12) (.seq (.seq (.region c8_r13) (.block 2 (.loop c8_l2))) (.seq (.region c8_r27) .ret))))))))), [.t 6]⟩
def p8 : Pers := ⟨15, [16, 29, 36, 37, 38, 39, 51, 52, 53, 54, 77, 78, 90], 93⟩
-- 9: weighbridge/weighbridgelaw06.fit
def c9_r0 : Env → Reg := fun e =>
  .op (.mv (.bool false)) fun t0 =>
  .done (e.upd 0 t0)
theorem c9_r0_run {CP : CProg} (e : Env) (h : Heap) (Q : Post) : RunR CP (c9_r0 e) h Q ↔ RunR CP (
  .op (.mv (.bool false)) fun t0 =>
  .done (e.upd 0 t0)) h Q := Iff.rfl
def c9_r1 : Env → Reg := fun e =>
  .op (.call 11 [(.slice none 0 0), (.int .i64 2)]) fun t2 =>
  .op (.call 12 [t2, (.int .i64 3)]) fun t3 =>
  .op (.mv t3) fun t1 =>
  .done (e.upd 1 t1)
theorem c9_r1_run {CP : CProg} (e : Env) (h : Heap) (Q : Post) : RunR CP (c9_r1 e) h Q ↔ RunR CP (
  .op (.call 11 [(.slice none 0 0), (.int .i64 2)]) fun t2 =>
  .op (.call 12 [t2, (.int .i64 3)]) fun t3 =>
  .op (.mv t3) fun t1 =>
  .done (e.upd 1 t1)) h Q := Iff.rfl
def c9_r2 : Env → Reg := fun e =>
  .op (.mv (e 1)) fun t4 =>
  .op (.eqK .ptr false t4 (.pointer none)) fun t5 =>
  .done (e.upd 5 t5)
theorem c9_r2_run {CP : CProg} (e : Env) (h : Heap) (Q : Post) : RunR CP (c9_r2 e) h Q ↔ RunR CP (
  .op (.mv (e 1)) fun t4 =>
  .op (.eqK .ptr false t4 (.pointer none)) fun t5 =>
  .done (e.upd 5 t5)) h Q := Iff.rfl
def c9_r3 : Env → Reg := fun e =>
  .op (.mv (.bool false)) fun t0 =>
  .done (e.upd 0 t0)
theorem c9_r3_run {CP : CProg} (e : Env) (h : Heap) (Q : Post) : RunR CP (c9_r3 e) h Q ↔ RunR CP (
  .op (.mv (.bool false)) fun t0 =>
  .done (e.upd 0 t0)) h Q := Iff.rfl
def c9_r4 : Env → Reg := fun e =>
  .op (.mv (e 1)) fun t6 =>
  .op (.call 13 [t6, (.string ⟨#[97]⟩), (.int .i64 5)]) fun t7 =>
  .done e
theorem c9_r4_run {CP : CProg} (e : Env) (h : Heap) (Q : Post) : RunR CP (c9_r4 e) h Q ↔ RunR CP (
  .op (.mv (e 1)) fun t6 =>
  .op (.call 13 [t6, (.string ⟨#[97]⟩), (.int .i64 5)]) fun t7 =>
  .done e) h Q := Iff.rfl
def c9_r5_c1 (e : Env) (t15 : Value) : Reg :=
  .op (.mv t15) fun t16 =>
  .opg t16 true (.call 21 [(.int .i64 2), (.int .i64 3)]) fun t17 =>
  .opg t16 true (.bin .eql t17 (.int .i64 48)) fun t18 =>
  .op (.pick t16 t18 (.bool false)) fun t19 =>
  .op (.mv t19) fun t20 =>
  .op (.pick t20 (.bool true) (.bool false)) fun t21 =>
  .op (.mv t21) fun t0 =>
  .done (e.upd 0 t0)
theorem c9_r5_c1_run {CP : CProg} (e : Env) (t15 : Value) (h : Heap) (Q : Post) : RunR CP (c9_r5_c1 e t15) h Q ↔ RunR CP (
  .op (.mv t15) fun t16 =>
  .opg t16 true (.call 21 [(.int .i64 2), (.int .i64 3)]) fun t17 =>
  .opg t16 true (.bin .eql t17 (.int .i64 48)) fun t18 =>
  .op (.pick t16 t18 (.bool false)) fun t19 =>
  .op (.mv t19) fun t20 =>
  .op (.pick t20 (.bool true) (.bool false)) fun t21 =>
  .op (.mv t21) fun t0 =>
  .done (e.upd 0 t0)) h Q := Iff.rfl
def c9_r5 : Env → Reg := fun e =>
  .op (.mv (e 1)) fun t8 =>
  .op (.call 15 [t8, (.string ⟨#[97]⟩)]) fun t9 =>
  .op (.bin .eql t9 (.int .i64 5)) fun t10 =>
  .op (.mv t10) fun t11 =>
  .opg t11 true (.mv (e 1)) fun t12 =>
  .opg t11 true (.call 16 [t12, (.int .i64 1), (.string ⟨#[97]⟩)]) fun t13 =>
  .opg t11 true (.bin .eql t13 (.int .i64 5)) fun t14 =>
  .op (.pick t11 t14 (.bool false)) fun t15 =>
  c9_r5_c1 e t15
theorem c9_r5_run {CP : CProg} (e : Env) (h : Heap) (Q : Post) : RunR CP (c9_r5 e) h Q ↔ RunR CP (
  .op (.mv (e 1)) fun t8 =>
  .op (.call 15 [t8, (.string ⟨#[97]⟩)]) fun t9 =>
  .op (.bin .eql t9 (.int .i64 5)) fun t10 =>
  .op (.mv t10) fun t11 =>
  .opg t11 true (.mv (e 1)) fun t12 =>
  .opg t11 true (.call 16 [t12, (.int .i64 1), (.string ⟨#[97]⟩)]) fun t13 =>
  .opg t11 true (.bin .eql t13 (.int .i64 5)) fun t14 =>
  .op (.pick t11 t14 (.bool false)) fun t15 =>
  c9_r5_c1 e t15) h Q := Iff.rfl
def c9 : CFn := ⟨(.seq (.region c9_r0) (.seq (.region c9_r1) (.seq (.seq (.region c9_r2) (.cond (fun e => e 5) (.seq (.region c9_r3) .ret) .skip)) (.seq (.region c9_r4) (.seq (.region c9_r5) .ret))))), [.t 0]⟩
def p9 : Pers := ⟨2, [5], 22⟩
-- 10: weighbridge/weighbridgelaw06.light
def c10_r0 : Env → Reg := fun e =>
  .op (.mv (.bool false)) fun t2 =>
  .done (e.upd 2 t2)
theorem c10_r0_run {CP : CProg} (e : Env) (h : Heap) (Q : Post) : RunR CP (c10_r0 e) h Q ↔ RunR CP (
  .op (.mv (.bool false)) fun t2 =>
  .done (e.upd 2 t2)) h Q := Iff.rfl
def c10_r1 : Env → Reg := fun e =>
  .op (.mv (e 0)) fun t5 =>
  .op (.lenSl t5) fun t6 =>
  .op (.bin .gtr t6 (.int .i64 100)) fun t7 =>
  .done (e.upd 7 t7)
theorem c10_r1_run {CP : CProg} (e : Env) (h : Heap) (Q : Post) : RunR CP (c10_r1 e) h Q ↔ RunR CP (
  .op (.mv (e 0)) fun t5 =>
  .op (.lenSl t5) fun t6 =>
  .op (.bin .gtr t6 (.int .i64 100)) fun t7 =>
  .done (e.upd 7 t7)) h Q := Iff.rfl
def c10_r2 : Env → Reg := fun e =>
  .op (.mv (.bool false)) fun t2 =>
  .done (e.upd 2 t2)
theorem c10_r2_run {CP : CProg} (e : Env) (h : Heap) (Q : Post) : RunR CP (c10_r2 e) h Q ↔ RunR CP (
  .op (.mv (.bool false)) fun t2 =>
  .done (e.upd 2 t2)) h Q := Iff.rfl
def c10_r3 : Env → Reg := fun e =>
  .op (.mv (e 0)) fun t8 =>
  .op (.lenSl t8) fun t9 =>
  .op (.mv (.int .i64 0)) fun t10 =>
  .done (((e.upd 8 t8).upd 9 t9).upd 10 t10)
theorem c10_r3_run {CP : CProg} (e : Env) (h : Heap) (Q : Post) : RunR CP (c10_r3 e) h Q ↔ RunR CP (
  .op (.mv (e 0)) fun t8 =>
  .op (.lenSl t8) fun t9 =>
  .op (.mv (.int .i64 0)) fun t10 =>
  .done (((e.upd 8 t8).upd 9 t9).upd 10 t10)) h Q := Iff.rfl
def c10_r4 : Env → Reg := fun e =>
  .op (.bin .lss (e 10) (e 9)) fun t11 =>
  .done (e.upd 11 t11)
theorem c10_r4_run {CP : CProg} (e : Env) (h : Heap) (Q : Post) : RunR CP (c10_r4 e) h Q ↔ RunR CP (
  .op (.bin .lss (e 10) (e 9)) fun t11 =>
  .done (e.upd 11 t11)) h Q := Iff.rfl
def c10_r5 : Env → Reg := fun e =>
  .op (.indexSl 2 (e 8) (e 10)) fun t12 =>
  .op (.load (some 2) t12) fun t13 =>
  .op (.alloc 32 [(.string ⟨#[]⟩), (.int .i64 0)]) fun t4 =>
  .op (.store 2 t4 t13) fun _ =>
  .done (e.upd 4 t4)
theorem c10_r5_run {CP : CProg} (e : Env) (h : Heap) (Q : Post) : RunR CP (c10_r5 e) h Q ↔ RunR CP (
  .op (.indexSl 2 (e 8) (e 10)) fun t12 =>
  .op (.load (some 2) t12) fun t13 =>
  .op (.alloc 32 [(.string ⟨#[]⟩), (.int .i64 0)]) fun t4 =>
  .op (.store 2 t4 t13) fun _ =>
  .done (e.upd 4 t4)) h Q := Iff.rfl
def c10_r6 : Env → Reg := fun e =>
  .op (.fieldAddr 0 (e 4)) fun t14 =>
  .op (.load none t14) fun t15 =>
  .op (.lenStr t15) fun t16 =>
  .op (.bin .gtr t16 (.int .i64 100)) fun t17 =>
  .done (e.upd 17 t17)
theorem c10_r6_run {CP : CProg} (e : Env) (h : Heap) (Q : Post) : RunR CP (c10_r6 e) h Q ↔ RunR CP (
  .op (.fieldAddr 0 (e 4)) fun t14 =>
  .op (.load none t14) fun t15 =>
  .op (.lenStr t15) fun t16 =>
  .op (.bin .gtr t16 (.int .i64 100)) fun t17 =>
  .done (e.upd 17 t17)) h Q := Iff.rfl
def c10_r7 : Env → Reg := fun e =>
  .op (.mv (.bool false)) fun t2 =>
  .done (e.upd 2 t2)
theorem c10_r7_run {CP : CProg} (e : Env) (h : Heap) (Q : Post) : RunR CP (c10_r7 e) h Q ↔ RunR CP (
  .op (.mv (.bool false)) fun t2 =>
  .done (e.upd 2 t2)) h Q := Iff.rfl
def c10_r8 : Env → Reg := fun e =>
  .op (.bin .add (e 10) (.int .i64 1)) fun t18 =>
  .op (.mv t18) fun t10 =>
  .done (e.upd 10 t10)
theorem c10_r8_run {CP : CProg} (e : Env) (h : Heap) (Q : Post) : RunR CP (c10_r8 e) h Q ↔ RunR CP (
  .op (.bin .add (e 10) (.int .i64 1)) fun t18 =>
  .op (.mv t18) fun t10 =>
  .done (e.upd 10 t10)) h Q := Iff.rfl
def c10_l0 : CC := (.seq (.region c10_r4) (.seq (.cond (fun e => e 11) .skip (.exit 0)) (.seq (.block 1 (.seq (.region c10_r5) (.seq (.region c10_r6) (.cond (fun e => e 17) (.seq (.region c10_r7) .ret) .skip)))) (.region c10_r8))))
def c10_r9 : Env → Reg := fun e =>
  .op (.mv (.bool true)) fun t2 =>
  .done (e.upd 2 t2)
theorem c10_r9_run {CP : CProg} (e : Env) (h : Heap) (Q : Post) : RunR CP (c10_r9 e) h Q ↔ RunR CP (
  .op (.mv (.bool true)) fun t2 =>
  .done (e.upd 2 t2)) h Q := Iff.rfl
def c10 : CFn := ⟨(.seq (.region c10_r0) (.seq (.seq (.region c10_r1) (.cond (fun e => e 7) (.seq (.region c10_r2) .ret) .skip)) (.seq (.seq (.region c10_r3) (.block 0 (.loop c10_l0))) (.seq (.region c10_r9) .ret)))), [.t 2]⟩
def p10 : Pers := ⟨5, [7, 8, 9, 10, 11, 17], 19⟩
-- 11: weighbridge/hash.Rows
def c11_r0 : Env → Reg := fun e =>
  .op (.mv (.slice none 0 0)) fun t4 =>
  .done (e.upd 4 t4)
theorem c11_r0_run {CP : CProg} (e : Env) (h : Heap) (Q : Post) : RunR CP (c11_r0 e) h Q ↔ RunR CP (
  .op (.mv (.slice none 0 0)) fun t4 =>
  .done (e.upd 4 t4)) h Q := Iff.rfl
def c11_r1 : Env → Reg := fun e =>
  .op (.mv (.slice none 0 0)) fun t5 =>
  .done (e.upd 5 t5)
theorem c11_r1_run {CP : CProg} (e : Env) (h : Heap) (Q : Post) : RunR CP (c11_r1 e) h Q ↔ RunR CP (
  .op (.mv (.slice none 0 0)) fun t5 =>
  .done (e.upd 5 t5)) h Q := Iff.rfl
def c11_r2 : Env → Reg := fun e =>
  .op (.mv (e 1)) fun t7 =>
  .op (.minmax true [t7, (.int .i64 0)]) fun t8 =>
  .op (.minmax false [t8, (.int .i64 9)]) fun t9 =>
  .op (.mv (.int .i64 0)) fun t10 =>
  .done ((e.upd 9 t9).upd 10 t10)
theorem c11_r2_run {CP : CProg} (e : Env) (h : Heap) (Q : Post) : RunR CP (c11_r2 e) h Q ↔ RunR CP (
  .op (.mv (e 1)) fun t7 =>
  .op (.minmax true [t7, (.int .i64 0)]) fun t8 =>
  .op (.minmax false [t8, (.int .i64 9)]) fun t9 =>
  .op (.mv (.int .i64 0)) fun t10 =>
  .done ((e.upd 9 t9).upd 10 t10)) h Q := Iff.rfl
def c11_r3 : Env → Reg := fun e =>
  .op (.bin .lss (e 10) (e 9)) fun t11 =>
  .done (e.upd 11 t11)
theorem c11_r3_run {CP : CProg} (e : Env) (h : Heap) (Q : Post) : RunR CP (c11_r3 e) h Q ↔ RunR CP (
  .op (.bin .lss (e 10) (e 9)) fun t11 =>
  .done (e.upd 11 t11)) h Q := Iff.rfl
def c11_r4 : Env → Reg := fun e =>
  .op (.mv (e 10)) fun t12 =>
  .op (.mv t12) fun t6 =>
  .done (e.upd 6 t6)
theorem c11_r4_run {CP : CProg} (e : Env) (h : Heap) (Q : Post) : RunR CP (c11_r4 e) h Q ↔ RunR CP (
  .op (.mv (e 10)) fun t12 =>
  .op (.mv t12) fun t6 =>
  .done (e.upd 6 t6)) h Q := Iff.rfl
def c11_r5_c2 (e : Env) (t13 : Value) (t17 : Value) (t22 : Value) (t28 : Value) : Reg :=
  .op (.build [(.int .u64 0), (.int .u64 0), (.int .u64 0)] [(0, 1, t17), (1, 1, t22), (2, 1, t28)]) fun t29 =>
  .op (.buildSlice 36 1 [(.int .u64 0), (.int .u64 0), (.int .u64 0)] [(0, 3, t29)]) fun t30 =>
  .op (.append 36 3 24 t13 t30) fun t31 =>
  .op (.mv t31) fun t5 =>
  .done (e.upd 5 t5)
theorem c11_r5_c2_run {CP : CProg} (e : Env) (t13 : Value) (t17 : Value) (t22 : Value) (t28 : Value) (h : Heap) (Q : Post) : RunR CP (c11_r5_c2 e t13 t17 t22 t28) h Q ↔ RunR CP (
  .op (.build [(.int .u64 0), (.int .u64 0), (.int .u64 0)] [(0, 1, t17), (1, 1, t22), (2, 1, t28)]) fun t29 =>
  .op (.buildSlice 36 1 [(.int .u64 0), (.int .u64 0), (.int .u64 0)] [(0, 3, t29)]) fun t30 =>
  .op (.append 36 3 24 t13 t30) fun t31 =>
  .op (.mv t31) fun t5 =>
  .done (e.upd 5 t5)) h Q := Iff.rfl
def c11_r5_c1 (e : Env) (t13 : Value) (t17 : Value) (t18 : Value) (t20 : Value) : Reg :=
  .op (.bin .add t20 (.int .i64 1)) fun t21 =>
  .op (.call 22 [t18, t21]) fun t22 =>
  .op (.mv (e 0)) fun t23 =>
  .op (.mv (e 6)) fun t24 =>
  .op (.bin .mul (.int .i64 3) t24) fun t25 =>
  .op (.bin .add t25 (.int .i64 2)) fun t26 =>
  .op (.call 24 [t23, t26]) fun t27 =>
  .op (.call 23 [t27]) fun t28 =>
  c11_r5_c2 e t13 t17 t22 t28
theorem c11_r5_c1_run {CP : CProg} (e : Env) (t13 : Value) (t17 : Value) (t18 : Value) (t20 : Value) (h : Heap) (Q : Post) : RunR CP (c11_r5_c1 e t13 t17 t18 t20) h Q ↔ RunR CP (
  .op (.bin .add t20 (.int .i64 1)) fun t21 =>
  .op (.call 22 [t18, t21]) fun t22 =>
  .op (.mv (e 0)) fun t23 =>
  .op (.mv (e 6)) fun t24 =>
  .op (.bin .mul (.int .i64 3) t24) fun t25 =>
  .op (.bin .add t25 (.int .i64 2)) fun t26 =>
  .op (.call 24 [t23, t26]) fun t27 =>
  .op (.call 23 [t27]) fun t28 =>
  c11_r5_c2 e t13 t17 t22 t28) h Q := Iff.rfl
def c11_r5 : Env → Reg := fun e =>
  .op (.mv (e 5)) fun t13 =>
  .op (.mv (e 0)) fun t14 =>
  .op (.mv (e 6)) fun t15 =>
  .op (.bin .mul (.int .i64 3) t15) fun t16 =>
  .op (.call 22 [t14, t16]) fun t17 =>
  .op (.mv (e 0)) fun t18 =>
  .op (.mv (e 6)) fun t19 =>
  .op (.bin .mul (.int .i64 3) t19) fun t20 =>
  c11_r5_c1 e t13 t17 t18 t20
theorem c11_r5_run {CP : CProg} (e : Env) (h : Heap) (Q : Post) : RunR CP (c11_r5 e) h Q ↔ RunR CP (
  .op (.mv (e 5)) fun t13 =>
  .op (.mv (e 0)) fun t14 =>
  .op (.mv (e 6)) fun t15 =>
  .op (.bin .mul (.int .i64 3) t15) fun t16 =>
  .op (.call 22 [t14, t16]) fun t17 =>
  .op (.mv (e 0)) fun t18 =>
  .op (.mv (e 6)) fun t19 =>
  .op (.bin .mul (.int .i64 3) t19) fun t20 =>
  c11_r5_c1 e t13 t17 t18 t20) h Q := Iff.rfl
def c11_r6 : Env → Reg := fun e =>
  .op (.bin .add (e 10) (.int .i64 1)) fun t32 =>
  .op (.mv t32) fun t10 =>
  .done (e.upd 10 t10)
theorem c11_r6_run {CP : CProg} (e : Env) (h : Heap) (Q : Post) : RunR CP (c11_r6 e) h Q ↔ RunR CP (
  .op (.bin .add (e 10) (.int .i64 1)) fun t32 =>
  .op (.mv t32) fun t10 =>
  .done (e.upd 10 t10)) h Q := Iff.rfl
def c11_l0 : CC := (.seq (.region c11_r3) (.seq (.cond (fun e => e 11) .skip (.exit 0)) (.seq (.block 1 (.seq (.region c11_r4) (.region c11_r5))) (.region c11_r6))))
def c11_r7 : Env → Reg := fun e =>
  .op (.mv (e 5)) fun t33 =>
  .op (.mv t33) fun t4 =>
  .done (e.upd 4 t4)
theorem c11_r7_run {CP : CProg} (e : Env) (h : Heap) (Q : Post) : RunR CP (c11_r7 e) h Q ↔ RunR CP (
  .op (.mv (e 5)) fun t33 =>
  .op (.mv t33) fun t4 =>
  .done (e.upd 4 t4)) h Q := Iff.rfl
def c11 : CFn := ⟨(.seq (.region c11_r0) (.seq (.region c11_r1) (.seq (.seq (.region c11_r2) (.block 0 (.loop c11_l0))) (.seq (.region c11_r7) .ret)))), [.t 4]⟩
def p11 : Pers := ⟨7, [9, 10, 11], 34⟩
-- 12: weighbridge/slot.New
def c12_r0 : Env → Reg := fun e =>
  .op (.mv (.pointer none)) fun t4 =>
  .done (e.upd 4 t4)
theorem c12_r0_run {CP : CProg} (e : Env) (h : Heap) (Q : Post) : RunR CP (c12_r0 e) h Q ↔ RunR CP (
  .op (.mv (.pointer none)) fun t4 =>
  .done (e.upd 4 t4)) h Q := Iff.rfl
def c12_r1 : Env → Reg := fun e =>
  .op (.mv (e 0)) fun t5 =>
  .op (.lenSl t5) fun t6 =>
  .op (.bin .eql t6 (.int .i64 0)) fun t7 =>
  .op (.mv t7) fun t8 =>
  .opg t8 false (.mv (e 1)) fun t9 =>
  .opg t8 false (.bin .lss t9 (.int .i64 1)) fun t10 =>
  .op (.pick t8 (.bool true) t10) fun t11 =>
  .done (e.upd 11 t11)
theorem c12_r1_run {CP : CProg} (e : Env) (h : Heap) (Q : Post) : RunR CP (c12_r1 e) h Q ↔ RunR CP (
  .op (.mv (e 0)) fun t5 =>
  .op (.lenSl t5) fun t6 =>
  .op (.bin .eql t6 (.int .i64 0)) fun t7 =>
  .op (.mv t7) fun t8 =>
  .opg t8 false (.mv (e 1)) fun t9 =>
  .opg t8 false (.bin .lss t9 (.int .i64 1)) fun t10 =>
  .op (.pick t8 (.bool true) t10) fun t11 =>
  .done (e.upd 11 t11)) h Q := Iff.rfl
def c12_r2 : Env → Reg := fun e =>
  .op (.mv (.pointer none)) fun t4 =>
  .done (e.upd 4 t4)
theorem c12_r2_run {CP : CProg} (e : Env) (h : Heap) (Q : Post) : RunR CP (c12_r2 e) h Q ↔ RunR CP (
  .op (.mv (.pointer none)) fun t4 =>
  .done (e.upd 4 t4)) h Q := Iff.rfl
def c12_r3 : Env → Reg := fun e =>
  .op (.mv (e 0)) fun t12 =>
  .op (.mv (e 1)) fun t13 =>
  .op (.mv (e 0)) fun t14 =>
  .op (.lenSl t14) fun t15 =>
  .op (.mv (e 1)) fun t16 =>
  .op (.bin .mul t15 t16) fun t17 =>
  .op (.makeSlice 2 1 8 [(.int .i64 0)] t17 t17) fun t18 =>
  .op (.build [(.slice none 0 0), (.int .i64 0), (.slice none 0 0)] [(0, 1, t12), (1, 1, t13), (2, 1, t18)]) fun t19 =>
  .op (.box 60 t19) fun t20 =>
  .op (.mv t20) fun t4 =>
  .done (e.upd 4 t4)
theorem c12_r3_run {CP : CProg} (e : Env) (h : Heap) (Q : Post) : RunR CP (c12_r3 e) h Q ↔ RunR CP (
  .op (.mv (e 0)) fun t12 =>
  .op (.mv (e 1)) fun t13 =>
  .op (.mv (e 0)) fun t14 =>
  .op (.lenSl t14) fun t15 =>
  .op (.mv (e 1)) fun t16 =>
  .op (.bin .mul t15 t16) fun t17 =>
  .op (.makeSlice 2 1 8 [(.int .i64 0)] t17 t17) fun t18 =>
  .op (.build [(.slice none 0 0), (.int .i64 0), (.slice none 0 0)] [(0, 1, t12), (1, 1, t13), (2, 1, t18)]) fun t19 =>
  .op (.box 60 t19) fun t20 =>
  .op (.mv t20) fun t4 =>
  .done (e.upd 4 t4)) h Q := Iff.rfl
def c12 : CFn := ⟨(.seq (.region c12_r0) (.seq (.seq (.region c12_r1) (.cond (fun e => e 11) (.seq (.region c12_r2) .ret) .skip)) (.seq (.region c12_r3) .ret))), [.t 4]⟩
def p12 : Pers := ⟨5, [11], 21⟩
-- 13: (*weighbridge/slot.Slot).Add
def c13_r0 : Env → Reg := fun e =>
  .op (.mv (e 0)) fun t9 =>
  .op (.eqK .ptr false t9 (.pointer none)) fun t10 =>
  .op (.mv t10) fun t11 =>
  .opg t11 false (.mv (e 2)) fun t12 =>
  .opg t11 false (.bin .lss t12 (.int .i64 1)) fun t13 =>
  .op (.pick t11 (.bool true) t13) fun t14 =>
  .done (e.upd 14 t14)
theorem c13_r0_run {CP : CProg} (e : Env) (h : Heap) (Q : Post) : RunR CP (c13_r0 e) h Q ↔ RunR CP (
  .op (.mv (e 0)) fun t9 =>
  .op (.eqK .ptr false t9 (.pointer none)) fun t10 =>
  .op (.mv t10) fun t11 =>
  .opg t11 false (.mv (e 2)) fun t12 =>
  .opg t11 false (.bin .lss t12 (.int .i64 1)) fun t13 =>
  .op (.pick t11 (.bool true) t13) fun t14 =>
  .done (e.upd 14 t14)) h Q := Iff.rfl
def c13_r1 : Env → Reg := fun e =>
  .op (.mv (e 0)) fun t15 =>
  .op (.mv (e 1)) fun t16 =>
  .op (.call 15 [t15, t16]) fun t17 =>
  .op (.mv (e 2)) fun t18 =>
  .op (.call 25 [t17, t18]) fun t19 =>
  .op (.mv t19) fun t6 =>
  .done (e.upd 6 t6)
theorem c13_r1_run {CP : CProg} (e : Env) (h : Heap) (Q : Post) : RunR CP (c13_r1 e) h Q ↔ RunR CP (
  .op (.mv (e 0)) fun t15 =>
  .op (.mv (e 1)) fun t16 =>
  .op (.call 15 [t15, t16]) fun t17 =>
  .op (.mv (e 2)) fun t18 =>
  .op (.call 25 [t17, t18]) fun t19 =>
  .op (.mv t19) fun t6 =>
  .done (e.upd 6 t6)) h Q := Iff.rfl
def c13_r2 : Env → Reg := fun e =>
  .op (.mv (e 0)) fun t20 =>
  .op (.nilCheck t20) fun t21 =>
  .op (.fieldAddr 0 t21) fun t22 =>
  .op (.load none t22) fun t23 =>
  .op (.lenSl t23) fun t24 =>
  .op (.mv (.int .i64 0)) fun t25 =>
  .done ((e.upd 24 t24).upd 25 t25)
theorem c13_r2_run {CP : CProg} (e : Env) (h : Heap) (Q : Post) : RunR CP (c13_r2 e) h Q ↔ RunR CP (
  .op (.mv (e 0)) fun t20 =>
  .op (.nilCheck t20) fun t21 =>
  .op (.fieldAddr 0 t21) fun t22 =>
  .op (.load none t22) fun t23 =>
  .op (.lenSl t23) fun t24 =>
  .op (.mv (.int .i64 0)) fun t25 =>
  .done ((e.upd 24 t24).upd 25 t25)) h Q := Iff.rfl
def c13_r3 : Env → Reg := fun e =>
  .op (.bin .lss (e 25) (e 24)) fun t26 =>
  .done (e.upd 26 t26)
theorem c13_r3_run {CP : CProg} (e : Env) (h : Heap) (Q : Post) : RunR CP (c13_r3 e) h Q ↔ RunR CP (
  .op (.bin .lss (e 25) (e 24)) fun t26 =>
  .done (e.upd 26 t26)) h Q := Iff.rfl
def c13_r4 : Env → Reg := fun e =>
  .op (.mv (e 25)) fun t27 =>
  .op (.mv t27) fun t7 =>
  .done (e.upd 7 t7)
theorem c13_r4_run {CP : CProg} (e : Env) (h : Heap) (Q : Post) : RunR CP (c13_r4 e) h Q ↔ RunR CP (
  .op (.mv (e 25)) fun t27 =>
  .op (.mv t27) fun t7 =>
  .done (e.upd 7 t7)) h Q := Iff.rfl
def c13_r5 : Env → Reg := fun e =>
  .op (.mv (e 0)) fun t28 =>
  .op (.mv (e 7)) fun t29 =>
  .op (.mv (e 1)) fun t30 =>
  .op (.call 26 [t28, t29, t30]) fun t31 =>
  .op (.mv t31) fun t8 =>
  .done (e.upd 8 t8)
theorem c13_r5_run {CP : CProg} (e : Env) (h : Heap) (Q : Post) : RunR CP (c13_r5 e) h Q ↔ RunR CP (
  .op (.mv (e 0)) fun t28 =>
  .op (.mv (e 7)) fun t29 =>
  .op (.mv (e 1)) fun t30 =>
  .op (.call 26 [t28, t29, t30]) fun t31 =>
  .op (.mv t31) fun t8 =>
  .done (e.upd 8 t8)) h Q := Iff.rfl
def c13_r6 : Env → Reg := fun e =>
  .op (.mv (e 8)) fun t32 =>
  .op (.mv (e 8)) fun t33 =>
  .op (.nilCheck t33) fun t34 =>
  .op (.load none t34) fun t35 =>
  .op (.mv (e 6)) fun t36 =>
  .op (.minmax true [t35, t36]) fun t37 =>
  .op (.nilCheck t32) fun t38 =>
  .op (.store 1 t38 t37) fun _ =>
  .done e
theorem c13_r6_run {CP : CProg} (e : Env) (h : Heap) (Q : Post) : RunR CP (c13_r6 e) h Q ↔ RunR CP (
  .op (.mv (e 8)) fun t32 =>
  .op (.mv (e 8)) fun t33 =>
  .op (.nilCheck t33) fun t34 =>
  .op (.load none t34) fun t35 =>
  .op (.mv (e 6)) fun t36 =>
  .op (.minmax true [t35, t36]) fun t37 =>
  .op (.nilCheck t32) fun t38 =>
  .op (.store 1 t38 t37) fun _ =>
  .done e) h Q := Iff.rfl
def c13_r7 : Env → Reg := fun e =>
  .op (.bin .add (e 25) (.int .i64 1)) fun t39 =>
  .op (.mv t39) fun t25 =>
  .done (e.upd 25 t25)
theorem c13_r7_run {CP : CProg} (e : Env) (h : Heap) (Q : Post) : RunR CP (c13_r7 e) h Q ↔ RunR CP (
  .op (.bin .add (e 25) (.int .i64 1)) fun t39 =>
  .op (.mv t39) fun t25 =>
  .done (e.upd 25 t25)) h Q := Iff.rfl
def c13_l0 : CC := (.seq (.region c13_r3) (.seq (.cond (fun e => e 26) .skip (.exit 0)) (.seq (.block 1 (.seq (.region c13_r4) (.seq (.region c13_r5) (.region c13_r6)))) (.region c13_r7))))
def c13 : CFn := ⟨(.seq (.seq (.region c13_r0) (.cond (fun e => e 14) .ret .skip)) (.seq (.region c13_r1) (.seq (.region c13_r2) (.block 0 (.loop c13_l0))))), []⟩
def p13 : Pers := ⟨9, [14, 24, 25, 26], 40⟩
-- 14: (weighbridge/hash.Row).Bucket
def c14_r0 : Env → Reg := fun e =>
  .op (.box 36 (e 0)) fun t3 =>
  .op (.mv (.int .i64 0)) fun t6 =>
  .done ((e.upd 3 t3).upd 6 t6)
theorem c14_r0_run {CP : CProg} (e : Env) (h : Heap) (Q : Post) : RunR CP (c14_r0 e) h Q ↔ RunR CP (
  .op (.box 36 (e 0)) fun t3 =>
  .op (.mv (.int .i64 0)) fun t6 =>
  .done ((e.upd 3 t3).upd 6 t6)) h Q := Iff.rfl
def c14_r1 : Env → Reg := fun e =>
  .op (.load (some 3) (e 3)) fun t7 =>
  .op (.mv (e 1)) fun t8 =>
  .op (.call 28 [t7, t8]) fun t9 =>
  .op (.mv (e 2)) fun t10 =>
  .op (.call 27 [t9, t10]) fun t11 =>
  .op (.mv t11) fun t6 =>
  .done (e.upd 6 t6)
theorem c14_r1_run {CP : CProg} (e : Env) (h : Heap) (Q : Post) : RunR CP (c14_r1 e) h Q ↔ RunR CP (
  .op (.load (some 3) (e 3)) fun t7 =>
  .op (.mv (e 1)) fun t8 =>
  .op (.call 28 [t7, t8]) fun t9 =>
  .op (.mv (e 2)) fun t10 =>
  .op (.call 27 [t9, t10]) fun t11 =>
  .op (.mv t11) fun t6 =>
  .done (e.upd 6 t6)) h Q := Iff.rfl
def c14 : CFn := ⟨(.seq (.region c14_r0) (.seq (.region c14_r1) .ret)), [.t 6]⟩
def p14 : Pers := ⟨7, [], 12⟩
-- 15: (*weighbridge/slot.Slot).Least
def c15_r0 : Env → Reg := fun e =>
  .op (.mv (.int .i64 0)) fun t4 =>
  .done (e.upd 4 t4)
theorem c15_r0_run {CP : CProg} (e : Env) (h : Heap) (Q : Post) : RunR CP (c15_r0 e) h Q ↔ RunR CP (
  .op (.mv (.int .i64 0)) fun t4 =>
  .done (e.upd 4 t4)) h Q := Iff.rfl
def c15_r1 : Env → Reg := fun e =>
  .op (.mv (e 0)) fun t7 =>
  .op (.eqK .ptr false t7 (.pointer none)) fun t8 =>
  .done (e.upd 8 t8)
theorem c15_r1_run {CP : CProg} (e : Env) (h : Heap) (Q : Post) : RunR CP (c15_r1 e) h Q ↔ RunR CP (
  .op (.mv (e 0)) fun t7 =>
  .op (.eqK .ptr false t7 (.pointer none)) fun t8 =>
  .done (e.upd 8 t8)) h Q := Iff.rfl
def c15_r2 : Env → Reg := fun e =>
  .op (.mv (.int .i64 0)) fun t4 =>
  .done (e.upd 4 t4)
theorem c15_r2_run {CP : CProg} (e : Env) (h : Heap) (Q : Post) : RunR CP (c15_r2 e) h Q ↔ RunR CP (
  .op (.mv (.int .i64 0)) fun t4 =>
  .done (e.upd 4 t4)) h Q := Iff.rfl
def c15_r3 : Env → Reg := fun e =>
  .op (.mv (e 0)) fun t9 =>
  .op (.mv (e 1)) fun t10 =>
  .op (.call 26 [t9, (.int .i64 0), t10]) fun t11 =>
  .op (.nilCheck t11) fun t12 =>
  .op (.load none t12) fun t13 =>
  .op (.mv t13) fun t5 =>
  .done (e.upd 5 t5)
theorem c15_r3_run {CP : CProg} (e : Env) (h : Heap) (Q : Post) : RunR CP (c15_r3 e) h Q ↔ RunR CP (
  .op (.mv (e 0)) fun t9 =>
  .op (.mv (e 1)) fun t10 =>
  .op (.call 26 [t9, (.int .i64 0), t10]) fun t11 =>
  .op (.nilCheck t11) fun t12 =>
  .op (.load none t12) fun t13 =>
  .op (.mv t13) fun t5 =>
  .done (e.upd 5 t5)) h Q := Iff.rfl
def c15_r4 : Env → Reg := fun e =>
  .op (.mv (.int .i64 1)) fun t6 =>
  .done (e.upd 6 t6)
theorem c15_r4_run {CP : CProg} (e : Env) (h : Heap) (Q : Post) : RunR CP (c15_r4 e) h Q ↔ RunR CP (
  .op (.mv (.int .i64 1)) fun t6 =>
  .done (e.upd 6 t6)) h Q := Iff.rfl
def c15_r5 : Env → Reg := fun e =>
  .op (.mv (e 6)) fun t14 =>
  .op (.mv (e 0)) fun t15 =>
  .op (.nilCheck t15) fun t16 =>
  .op (.fieldAddr 0 t16) fun t17 =>
  .op (.load none t17) fun t18 =>
  .op (.lenSl t18) fun t19 =>
  .op (.bin .lss t14 t19) fun t20 =>
  .done (e.upd 20 t20)
theorem c15_r5_run {CP : CProg} (e : Env) (h : Heap) (Q : Post) : RunR CP (c15_r5 e) h Q ↔ RunR CP (
  .op (.mv (e 6)) fun t14 =>
  .op (.mv (e 0)) fun t15 =>
  .op (.nilCheck t15) fun t16 =>
  .op (.fieldAddr 0 t16) fun t17 =>
  .op (.load none t17) fun t18 =>
  .op (.lenSl t18) fun t19 =>
  .op (.bin .lss t14 t19) fun t20 =>
  .done (e.upd 20 t20)) h Q := Iff.rfl
def c15_r7 : Env → Reg := fun e =>
  .op (.mv (e 5)) fun t23 =>
  .op (.mv (e 0)) fun t24 =>
  .op (.mv (e 6)) fun t25 =>
  .op (.mv (e 1)) fun t26 =>
  .op (.call 26 [t24, t25, t26]) fun t27 =>
  .op (.nilCheck t27) fun t28 =>
  .op (.load none t28) fun t29 =>
  .op (.minmax false [t23, t29]) fun t30 =>
  .op (.mv t30) fun t5 =>
  .done (e.upd 5 t5)
theorem c15_r7_run {CP : CProg} (e : Env) (h : Heap) (Q : Post) : RunR CP (c15_r7 e) h Q ↔ RunR CP (
  .op (.mv (e 5)) fun t23 =>
  .op (.mv (e 0)) fun t24 =>
  .op (.mv (e 6)) fun t25 =>
  .op (.mv (e 1)) fun t26 =>
  .op (.call 26 [t24, t25, t26]) fun t27 =>
  .op (.nilCheck t27) fun t28 =>
  .op (.load none t28) fun t29 =>
  .op (.minmax false [t23, t29]) fun t30 =>
  .op (.mv t30) fun t5 =>
  .done (e.upd 5 t5)) h Q := Iff.rfl
def c15_r6 : Env → Reg := fun e =>
  .op (.mv (e 6)) fun t21 =>
  .op (.bin .add t21 (.int .i64 1)) fun t22 =>
  .op (.mv t22) fun t6 =>
  .done (e.upd 6 t6)
theorem c15_r6_run {CP : CProg} (e : Env) (h : Heap) (Q : Post) : RunR CP (c15_r6 e) h Q ↔ RunR CP (
  .op (.mv (e 6)) fun t21 =>
  .op (.bin .add t21 (.int .i64 1)) fun t22 =>
  .op (.mv t22) fun t6 =>
  .done (e.upd 6 t6)) h Q := Iff.rfl
def c15_l0 : CC := (.seq (.seq (.region c15_r5) (.cond (fun e => e 20) .skip (.exit 0))) (.seq (.block 1 (.region c15_r7)) (.region c15_r6)))
def c15_r8 : Env → Reg := fun e =>
  .op (.mv (e 5)) fun t31 =>
  .op (.mv t31) fun t4 =>
  .done (e.upd 4 t4)
theorem c15_r8_run {CP : CProg} (e : Env) (h : Heap) (Q : Post) : RunR CP (c15_r8 e) h Q ↔ RunR CP (
  .op (.mv (e 5)) fun t31 =>
  .op (.mv t31) fun t4 =>
  .done (e.upd 4 t4)) h Q := Iff.rfl
def c15 : CFn := ⟨(.seq (.region c15_r0) (.seq (.seq (.region c15_r1) (.cond (fun e => e 8) (.seq (.region c15_r2) .ret) .skip)) (.seq (.region c15_r3) (.seq (.seq (.region c15_r4) (.block 0 (.loop c15_l0))) (.seq (.region c15_r8) .ret))))), [.t 4]⟩
def p15 : Pers := ⟨7, [8, 20], 32⟩
-- 16: (*weighbridge/slot.Slot).Count
def c16_r0 : Env → Reg := fun e =>
  .op (.mv (.int .i64 0)) fun t6 =>
  .done (e.upd 6 t6)
theorem c16_r0_run {CP : CProg} (e : Env) (h : Heap) (Q : Post) : RunR CP (c16_r0 e) h Q ↔ RunR CP (
  .op (.mv (.int .i64 0)) fun t6 =>
  .done (e.upd 6 t6)) h Q := Iff.rfl
def c16_r1_c1 (e : Env) (t13 : Value) (t14 : Value) : Reg :=
  .opg t13 false (.mv (e 0)) fun t15 =>
  .opg t13 false (.nilCheck t15) fun t16 =>
  .opg t13 false (.fieldAddr 0 t16) fun t17 =>
  .opg t13 false (.load none t17) fun t18 =>
  .opg t13 false (.lenSl t18) fun t19 =>
  .opg t13 false (.bin .geq t14 t19) fun t20 =>
  .op (.pick t13 (.bool true) t20) fun t21 =>
  .done (e.upd 21 t21)
theorem c16_r1_c1_run {CP : CProg} (e : Env) (t13 : Value) (t14 : Value) (h : Heap) (Q : Post) : RunR CP (c16_r1_c1 e t13 t14) h Q ↔ RunR CP (
  .opg t13 false (.mv (e 0)) fun t15 =>
  .opg t13 false (.nilCheck t15) fun t16 =>
  .opg t13 false (.fieldAddr 0 t16) fun t17 =>
  .opg t13 false (.load none t17) fun t18 =>
  .opg t13 false (.lenSl t18) fun t19 =>
  .opg t13 false (.bin .geq t14 t19) fun t20 =>
  .op (.pick t13 (.bool true) t20) fun t21 =>
  .done (e.upd 21 t21)) h Q := Iff.rfl
def c16_r1 : Env → Reg := fun e =>
  .op (.mv (e 0)) fun t7 =>
  .op (.eqK .ptr false t7 (.pointer none)) fun t8 =>
  .op (.mv t8) fun t9 =>
  .opg t9 false (.mv (e 1)) fun t10 =>
  .opg t9 false (.bin .lss t10 (.int .i64 0)) fun t11 =>
  .op (.pick t9 (.bool true) t11) fun t12 =>
  .op (.mv t12) fun t13 =>
  .opg t13 false (.mv (e 1)) fun t14 =>
  c16_r1_c1 e t13 t14
theorem c16_r1_run {CP : CProg} (e : Env) (h : Heap) (Q : Post) : RunR CP (c16_r1 e) h Q ↔ RunR CP (
  .op (.mv (e 0)) fun t7 =>
  .op (.eqK .ptr false t7 (.pointer none)) fun t8 =>
  .op (.mv t8) fun t9 =>
  .opg t9 false (.mv (e 1)) fun t10 =>
  .opg t9 false (.bin .lss t10 (.int .i64 0)) fun t11 =>
  .op (.pick t9 (.bool true) t11) fun t12 =>
  .op (.mv t12) fun t13 =>
  .opg t13 false (.mv (e 1)) fun t14 =>
  c16_r1_c1 e t13 t14) h Q := Iff.rfl
def c16_r2 : Env → Reg := fun e =>
  .op (.mv (.int .i64 0)) fun t6 =>
  .done (e.upd 6 t6)
theorem c16_r2_run {CP : CProg} (e : Env) (h : Heap) (Q : Post) : RunR CP (c16_r2 e) h Q ↔ RunR CP (
  .op (.mv (.int .i64 0)) fun t6 =>
  .done (e.upd 6 t6)) h Q := Iff.rfl
def c16_r3 : Env → Reg := fun e =>
  .op (.mv (e 0)) fun t22 =>
  .op (.mv (e 1)) fun t23 =>
  .op (.mv (e 2)) fun t24 =>
  .op (.call 26 [t22, t23, t24]) fun t25 =>
  .op (.nilCheck t25) fun t26 =>
  .op (.load none t26) fun t27 =>
  .op (.mv t27) fun t6 =>
  .done (e.upd 6 t6)
theorem c16_r3_run {CP : CProg} (e : Env) (h : Heap) (Q : Post) : RunR CP (c16_r3 e) h Q ↔ RunR CP (
  .op (.mv (e 0)) fun t22 =>
  .op (.mv (e 1)) fun t23 =>
  .op (.mv (e 2)) fun t24 =>
  .op (.call 26 [t22, t23, t24]) fun t25 =>
  .op (.nilCheck t25) fun t26 =>
  .op (.load none t26) fun t27 =>
  .op (.mv t27) fun t6 =>
  .done (e.upd 6 t6)) h Q := Iff.rfl
def c16 : CFn := ⟨(.seq (.region c16_r0) (.seq (.seq (.region c16_r1) (.cond (fun e => e 21) (.seq (.region c16_r2) .ret) .skip)) (.seq (.region c16_r3) .ret))), [.t 6]⟩
def p16 : Pers := ⟨7, [21], 28⟩
-- 17: weighbridge/weighbridgeref03.Rows
def c17_r0 : Env → Reg := fun e =>
  .op (.mv (.slice none 0 0)) fun t4 =>
  .done (e.upd 4 t4)
theorem c17_r0_run {CP : CProg} (e : Env) (h : Heap) (Q : Post) : RunR CP (c17_r0 e) h Q ↔ RunR CP (
  .op (.mv (.slice none 0 0)) fun t4 =>
  .done (e.upd 4 t4)) h Q := Iff.rfl
def c17_r1 : Env → Reg := fun e =>
  .op (.mv (.slice none 0 0)) fun t5 =>
  .done (e.upd 5 t5)
theorem c17_r1_run {CP : CProg} (e : Env) (h : Heap) (Q : Post) : RunR CP (c17_r1 e) h Q ↔ RunR CP (
  .op (.mv (.slice none 0 0)) fun t5 =>
  .done (e.upd 5 t5)) h Q := Iff.rfl
def c17_r2 : Env → Reg := fun e =>
  .op (.mv (.int .i64 0)) fun t6 =>
  .done (e.upd 6 t6)
theorem c17_r2_run {CP : CProg} (e : Env) (h : Heap) (Q : Post) : RunR CP (c17_r2 e) h Q ↔ RunR CP (
  .op (.mv (.int .i64 0)) fun t6 =>
  .done (e.upd 6 t6)) h Q := Iff.rfl
def c17_r3 : Env → Reg := fun e =>
  .op (.mv (e 6)) fun t7 =>
  .op (.mv (e 1)) fun t8 =>
  .op (.bin .lss t7 t8) fun t9 =>
  .op (.mv t9) fun t10 =>
  .opg t10 true (.mv (e 6)) fun t11 =>
  .opg t10 true (.bin .lss t11 (.int .i64 9)) fun t12 =>
  .op (.pick t10 t12 (.bool false)) fun t13 =>
  .done (e.upd 13 t13)
theorem c17_r3_run {CP : CProg} (e : Env) (h : Heap) (Q : Post) : RunR CP (c17_r3 e) h Q ↔ RunR CP (
  .op (.mv (e 6)) fun t7 =>
  .op (.mv (e 1)) fun t8 =>
  .op (.bin .lss t7 t8) fun t9 =>
  .op (.mv t9) fun t10 =>
  .opg t10 true (.mv (e 6)) fun t11 =>
  .opg t10 true (.bin .lss t11 (.int .i64 9)) fun t12 =>
  .op (.pick t10 t12 (.bool false)) fun t13 =>
  .done (e.upd 13 t13)) h Q := Iff.rfl
def c17_r5_c2 (e : Env) (t16 : Value) (t22 : Value) (t29 : Value) (t30 : Value) (t31 : Value) : Reg :=
  .op (.bin .mul (.int .i64 3) t31) fun t32 =>
  .op (.bin .add t32 (.int .i64 2)) fun t33 =>
  .op (.call 29 [t30, t33]) fun t34 =>
  .op (.bin .rem t34 (.int .u64 2305843009213693951)) fun t35 =>
  .op (.build [(.int .u64 0), (.int .u64 0), (.int .u64 0)] [(0, 1, t22), (1, 1, t29), (2, 1, t35)]) fun t36 =>
  .op (.buildSlice 51 1 [(.int .u64 0), (.int .u64 0), (.int .u64 0)] [(0, 3, t36)]) fun t37 =>
  .op (.append 51 3 24 t16 t37) fun t38 =>
  .op (.mv t38) fun t5 =>
  .done (e.upd 5 t5)
theorem c17_r5_c2_run {CP : CProg} (e : Env) (t16 : Value) (t22 : Value) (t29 : Value) (t30 : Value) (t31 : Value) (h : Heap) (Q : Post) : RunR CP (c17_r5_c2 e t16 t22 t29 t30 t31) h Q ↔ RunR CP (
  .op (.bin .mul (.int .i64 3) t31) fun t32 =>
  .op (.bin .add t32 (.int .i64 2)) fun t33 =>
  .op (.call 29 [t30, t33]) fun t34 =>
  .op (.bin .rem t34 (.int .u64 2305843009213693951)) fun t35 =>
  .op (.build [(.int .u64 0), (.int .u64 0), (.int .u64 0)] [(0, 1, t22), (1, 1, t29), (2, 1, t35)]) fun t36 =>
  .op (.buildSlice 51 1 [(.int .u64 0), (.int .u64 0), (.int .u64 0)] [(0, 3, t36)]) fun t37 =>
  .op (.append 51 3 24 t16 t37) fun t38 =>
  .op (.mv t38) fun t5 =>
  .done (e.upd 5 t5)) h Q := Iff.rfl
def c17_r5_c1 (e : Env) (t16 : Value) (t22 : Value) (t23 : Value) : Reg :=
  .op (.mv (e 6)) fun t24 =>
  .op (.bin .mul (.int .i64 3) t24) fun t25 =>
  .op (.bin .add t25 (.int .i64 1)) fun t26 =>
  .op (.call 29 [t23, t26]) fun t27 =>
  .op (.bin .rem t27 (.int .u64 2305843009213693950)) fun t28 =>
  .op (.bin .add t28 (.int .u64 1)) fun t29 =>
  .op (.mv (e 0)) fun t30 =>
  .op (.mv (e 6)) fun t31 =>
  c17_r5_c2 e t16 t22 t29 t30 t31
theorem c17_r5_c1_run {CP : CProg} (e : Env) (t16 : Value) (t22 : Value) (t23 : Value) (h : Heap) (Q : Post) : RunR CP (c17_r5_c1 e t16 t22 t23) h Q ↔ RunR CP (
  .op (.mv (e 6)) fun t24 =>
  .op (.bin .mul (.int .i64 3) t24) fun t25 =>
  .op (.bin .add t25 (.int .i64 1)) fun t26 =>
  .op (.call 29 [t23, t26]) fun t27 =>
  .op (.bin .rem t27 (.int .u64 2305843009213693950)) fun t28 =>
  .op (.bin .add t28 (.int .u64 1)) fun t29 =>
  .op (.mv (e 0)) fun t30 =>
  .op (.mv (e 6)) fun t31 =>
  c17_r5_c2 e t16 t22 t29 t30 t31) h Q := Iff.rfl
def c17_r5 : Env → Reg := fun e =>
  .op (.mv (e 5)) fun t16 =>
  .op (.mv (e 0)) fun t17 =>
  .op (.mv (e 6)) fun t18 =>
  .op (.bin .mul (.int .i64 3) t18) fun t19 =>
  .op (.call 29 [t17, t19]) fun t20 =>
  .op (.bin .rem t20 (.int .u64 2305843009213693950)) fun t21 =>
  .op (.bin .add t21 (.int .u64 1)) fun t22 =>
  .op (.mv (e 0)) fun t23 =>
  c17_r5_c1 e t16 t22 t23
theorem c17_r5_run {CP : CProg} (e : Env) (h : Heap) (Q : Post) : RunR CP (c17_r5 e) h Q ↔ RunR CP (
  .op (.mv (e 5)) fun t16 =>
  .op (.mv (e 0)) fun t17 =>
  .op (.mv (e 6)) fun t18 =>
  .op (.bin .mul (.int .i64 3) t18) fun t19 =>
  .op (.call 29 [t17, t19]) fun t20 =>
  .op (.bin .rem t20 (.int .u64 2305843009213693950)) fun t21 =>
  .op (.bin .add t21 (.int .u64 1)) fun t22 =>
  .op (.mv (e 0)) fun t23 =>
  c17_r5_c1 e t16 t22 t23) h Q := Iff.rfl
def c17_r4 : Env → Reg := fun e =>
  .op (.mv (e 6)) fun t14 =>
  .op (.bin .add t14 (.int .i64 1)) fun t15 =>
  .op (.mv t15) fun t6 =>
  .done (e.upd 6 t6)
theorem c17_r4_run {CP : CProg} (e : Env) (h : Heap) (Q : Post) : RunR CP (c17_r4 e) h Q ↔ RunR CP (
  .op (.mv (e 6)) fun t14 =>
  .op (.bin .add t14 (.int .i64 1)) fun t15 =>
  .op (.mv t15) fun t6 =>
  .done (e.upd 6 t6)) h Q := Iff.rfl
def c17_l0 : CC := (.seq (.seq (.region c17_r3) (.cond (fun e => e 13) .skip (.exit 0))) (.seq (.block 1 (.region c17_r5)) (.region c17_r4)))
def c17_r6 : Env → Reg := fun e =>
  .op (.mv (e 5)) fun t39 =>
  .op (.mv t39) fun t4 =>
  .done (e.upd 4 t4)
theorem c17_r6_run {CP : CProg} (e : Env) (h : Heap) (Q : Post) : RunR CP (c17_r6 e) h Q ↔ RunR CP (
  .op (.mv (e 5)) fun t39 =>
  .op (.mv t39) fun t4 =>
  .done (e.upd 4 t4)) h Q := Iff.rfl
def c17 : CFn := ⟨(.seq (.region c17_r0) (.seq (.region c17_r1) (.seq (.seq (.region c17_r2) (.block 0 (.loop c17_l0))) (.seq (.region c17_r6) .ret)))), [.t 4]⟩
def p17 : Pers := ⟨7, [13], 40⟩
-- 18: weighbridge/weighbridgelaw06.SlotRuns$1
def c18_r0 : Env → Reg := fun e =>
  .op (.mv (.pointer none)) fun t6 =>
  .done (e.upd 6 t6)
theorem c18_r0_run {CP : CProg} (e : Env) (h : Heap) (Q : Post) : RunR CP (c18_r0 e) h Q ↔ RunR CP (
  .op (.mv (.pointer none)) fun t6 =>
  .done (e.upd 6 t6)) h Q := Iff.rfl
def c18_r1_c1 (e : Env) (t7 : Value) (t8 : Value) (t12 : Value) (t14 : Value) : Reg :=
  .op (.load none (e 4)) fun t15 =>
  .snap fun h9 =>
  .op (.call 19 [t12, t14, t15]) fun t16 =>
  .chk none none (.load none (e 1)) t7 <|
  .op (.indexSl 8 t7 t8) fun t17 =>
  .op (.indexArr 8 1 t17 t16) fun t18 =>
  .op (.mv t18) fun t6 =>
  .done (e.upd 6 t6)
theorem c18_r1_c1_run {CP : CProg} (e : Env) (t7 : Value) (t8 : Value) (t12 : Value) (t14 : Value) (h : Heap) (Q : Post) : RunR CP (c18_r1_c1 e t7 t8 t12 t14) h Q ↔ RunR CP (
  .op (.load none (e 4)) fun t15 =>
  .snap fun h9 =>
  .op (.call 19 [t12, t14, t15]) fun t16 =>
  .chk none none (.load none (e 1)) t7 <|
  .op (.indexSl 8 t7 t8) fun t17 =>
  .op (.indexArr 8 1 t17 t16) fun t18 =>
  .op (.mv t18) fun t6 =>
  .done (e.upd 6 t6)) h Q := Iff.rfl
def c18_r1 : Env → Reg := fun e =>
  .op (.load none (e 1)) fun t7 =>
  .op (.mv (e 0)) fun t8 =>
  .op (.load none (e 2)) fun t9 =>
  .op (.mv (e 0)) fun t10 =>
  .op (.indexSl 3 t9 t10) fun t11 =>
  .op (.load (some 3) t11) fun t12 =>
  .op (.fieldAddr 0 (e 3)) fun t13 =>
  .op (.load none t13) fun t14 =>
  c18_r1_c1 e t7 t8 t12 t14
theorem c18_r1_run {CP : CProg} (e : Env) (h : Heap) (Q : Post) : RunR CP (c18_r1 e) h Q ↔ RunR CP (
  .op (.load none (e 1)) fun t7 =>
  .op (.mv (e 0)) fun t8 =>
  .op (.load none (e 2)) fun t9 =>
  .op (.mv (e 0)) fun t10 =>
  .op (.indexSl 3 t9 t10) fun t11 =>
  .op (.load (some 3) t11) fun t12 =>
  .op (.fieldAddr 0 (e 3)) fun t13 =>
  .op (.load none t13) fun t14 =>
  c18_r1_c1 e t7 t8 t12 t14) h Q := Iff.rfl
def c18 : CFn := ⟨(.seq (.region c18_r0) (.seq (.region c18_r1) .ret)), [.t 6]⟩
def p18 : Pers := ⟨7, [], 19⟩
-- 19: weighbridge/weighbridgeref03.Bucket
def c19_r0 : Env → Reg := fun e =>
  .op (.box 51 (e 0)) fun t3 =>
  .op (.mv (.int .i64 0)) fun t6 =>
  .done ((e.upd 3 t3).upd 6 t6)
theorem c19_r0_run {CP : CProg} (e : Env) (h : Heap) (Q : Post) : RunR CP (c19_r0 e) h Q ↔ RunR CP (
  .op (.box 51 (e 0)) fun t3 =>
  .op (.mv (.int .i64 0)) fun t6 =>
  .done ((e.upd 3 t3).upd 6 t6)) h Q := Iff.rfl
def c19_r1_c1 (e : Env) (t9 : Value) (t16 : Value) : Reg :=
  .op (.extract t9 1) fun t17 =>
  .op (.mv t16) fun t7 =>
  .op (.mv t17) fun t8 =>
  .done ((e.upd 7 t7).upd 8 t8)
theorem c19_r1_c1_run {CP : CProg} (e : Env) (t9 : Value) (t16 : Value) (h : Heap) (Q : Post) : RunR CP (c19_r1_c1 e t9 t16) h Q ↔ RunR CP (
  .op (.extract t9 1) fun t17 =>
  .op (.mv t16) fun t7 =>
  .op (.mv t17) fun t8 =>
  .done ((e.upd 7 t7).upd 8 t8)) h Q := Iff.rfl
def c19_r1 : Env → Reg := fun e =>
  .op (.load (some 3) (e 3)) fun t10 =>
  .op (.mv (e 1)) fun t11 =>
  .op (.call 31 [t10, t11]) fun t12 =>
  .op (.mv (e 2)) fun t13 =>
  .op (.conv .u64 t13) fun t14 =>
  .op (.call 30 [t12, t14, (.int .u64 2305843009213693951)]) fun t15 =>
  .op (.mv t15) fun t9 =>
  .op (.extract t9 0) fun t16 =>
  c19_r1_c1 e t9 t16
theorem c19_r1_run {CP : CProg} (e : Env) (h : Heap) (Q : Post) : RunR CP (c19_r1 e) h Q ↔ RunR CP (
  .op (.load (some 3) (e 3)) fun t10 =>
  .op (.mv (e 1)) fun t11 =>
  .op (.call 31 [t10, t11]) fun t12 =>
  .op (.mv (e 2)) fun t13 =>
  .op (.conv .u64 t13) fun t14 =>
  .op (.call 30 [t12, t14, (.int .u64 2305843009213693951)]) fun t15 =>
  .op (.mv t15) fun t9 =>
  .op (.extract t9 0) fun t16 =>
  c19_r1_c1 e t9 t16) h Q := Iff.rfl
def c19_r2 : Env → Reg := fun e =>
  .op (.mv (e 7)) fun t18 =>
  .op (.conv .i64 t18) fun t19 =>
  .op (.mv t19) fun t6 =>
  .done (e.upd 6 t6)
theorem c19_r2_run {CP : CProg} (e : Env) (h : Heap) (Q : Post) : RunR CP (c19_r2 e) h Q ↔ RunR CP (
  .op (.mv (e 7)) fun t18 =>
  .op (.conv .i64 t18) fun t19 =>
  .op (.mv t19) fun t6 =>
  .done (e.upd 6 t6)) h Q := Iff.rfl
def c19 : CFn := ⟨(.seq (.region c19_r0) (.seq (.region c19_r1) (.seq (.region c19_r2) .ret))), [.t 6]⟩
def p19 : Pers := ⟨9, [], 20⟩
-- 20: (*weighbridge/slot.Slot).Clear
def c20_r0 : Env → Reg := fun e =>
  .op (.mv (e 0)) fun t2 =>
  .op (.eqK .ptr true t2 (.pointer none)) fun t3 =>
  .done (e.upd 3 t3)
theorem c20_r0_run {CP : CProg} (e : Env) (h : Heap) (Q : Post) : RunR CP (c20_r0 e) h Q ↔ RunR CP (
  .op (.mv (e 0)) fun t2 =>
  .op (.eqK .ptr true t2 (.pointer none)) fun t3 =>
  .done (e.upd 3 t3)) h Q := Iff.rfl
def c20_r1 : Env → Reg := fun e =>
  .op (.mv (e 0)) fun t4 =>
  .op (.nilCheck t4) fun t5 =>
  .op (.fieldAddr 2 t5) fun t6 =>
  .op (.load none t6) fun t7 =>
  .op (.clearSl [(.int .i64 0)] t7) fun _ =>
  .done e
theorem c20_r1_run {CP : CProg} (e : Env) (h : Heap) (Q : Post) : RunR CP (c20_r1 e) h Q ↔ RunR CP (
  .op (.mv (e 0)) fun t4 =>
  .op (.nilCheck t4) fun t5 =>
  .op (.fieldAddr 2 t5) fun t6 =>
  .op (.load none t6) fun t7 =>
  .op (.clearSl [(.int .i64 0)] t7) fun _ =>
  .done e) h Q := Iff.rfl
def c20 : CFn := ⟨(.seq (.region c20_r0) (.cond (fun e => e 3) (.region c20_r1) .skip)), []⟩
def p20 : Pers := ⟨2, [3], 8⟩
-- 21: weighbridge/slot.Bytes
def c21_r0 : Env → Reg := fun e =>
  .op (.mv (.int .i64 0)) fun t4 =>
  .done (e.upd 4 t4)
theorem c21_r0_run {CP : CProg} (e : Env) (h : Heap) (Q : Post) : RunR CP (c21_r0 e) h Q ↔ RunR CP (
  .op (.mv (.int .i64 0)) fun t4 =>
  .done (e.upd 4 t4)) h Q := Iff.rfl
def c21_r1 : Env → Reg := fun e =>
  .op (.mv (e 0)) fun t5 =>
  .op (.bin .mul (.int .i64 8) t5) fun t6 =>
  .op (.mv (e 1)) fun t7 =>
  .op (.bin .mul t6 t7) fun t8 =>
  .op (.mv t8) fun t4 =>
  .done (e.upd 4 t4)
theorem c21_r1_run {CP : CProg} (e : Env) (h : Heap) (Q : Post) : RunR CP (c21_r1 e) h Q ↔ RunR CP (
  .op (.mv (e 0)) fun t5 =>
  .op (.bin .mul (.int .i64 8) t5) fun t6 =>
  .op (.mv (e 1)) fun t7 =>
  .op (.bin .mul t6 t7) fun t8 =>
  .op (.mv t8) fun t4 =>
  .done (e.upd 4 t4)) h Q := Iff.rfl
def c21 : CFn := ⟨(.seq (.region c21_r0) (.seq (.region c21_r1) .ret)), [.t 4]⟩
def p21 : Pers := ⟨5, [], 9⟩
-- 22: weighbridge/hash.whole
def c22_r0 : Env → Reg := fun e =>
  .op (.mv (.int .u64 0)) fun t4 =>
  .done (e.upd 4 t4)
theorem c22_r0_run {CP : CProg} (e : Env) (h : Heap) (Q : Post) : RunR CP (c22_r0 e) h Q ↔ RunR CP (
  .op (.mv (.int .u64 0)) fun t4 =>
  .done (e.upd 4 t4)) h Q := Iff.rfl
def c22_r1 : Env → Reg := fun e =>
  .op (.mv (e 0)) fun t5 =>
  .op (.mv (e 1)) fun t6 =>
  .op (.call 24 [t5, t6]) fun t7 =>
  .op (.bin .rem t7 (.int .u64 2305843009213693950)) fun t8 =>
  .op (.bin .add t8 (.int .u64 1)) fun t9 =>
  .op (.mv t9) fun t4 =>
  .done (e.upd 4 t4)
theorem c22_r1_run {CP : CProg} (e : Env) (h : Heap) (Q : Post) : RunR CP (c22_r1 e) h Q ↔ RunR CP (
  .op (.mv (e 0)) fun t5 =>
  .op (.mv (e 1)) fun t6 =>
  .op (.call 24 [t5, t6]) fun t7 =>
  .op (.bin .rem t7 (.int .u64 2305843009213693950)) fun t8 =>
  .op (.bin .add t8 (.int .u64 1)) fun t9 =>
  .op (.mv t9) fun t4 =>
  .done (e.upd 4 t4)) h Q := Iff.rfl
def c22 : CFn := ⟨(.seq (.region c22_r0) (.seq (.region c22_r1) .ret)), [.t 4]⟩
def p22 : Pers := ⟨5, [], 10⟩
-- 23: weighbridge/field.Of
def c23_r0 : Env → Reg := fun e =>
  .op (.mv (.int .u64 0)) fun t2 =>
  .done (e.upd 2 t2)
theorem c23_r0_run {CP : CProg} (e : Env) (h : Heap) (Q : Post) : RunR CP (c23_r0 e) h Q ↔ RunR CP (
  .op (.mv (.int .u64 0)) fun t2 =>
  .done (e.upd 2 t2)) h Q := Iff.rfl
def c23_r1 : Env → Reg := fun e =>
  .op (.mv (e 0)) fun t3 =>
  .op (.bin .shr t3 (.int .u64 61)) fun t4 =>
  .op (.mv (e 0)) fun t5 =>
  .op (.bin .and t5 (.int .u64 2305843009213693951)) fun t6 =>
  .op (.bin .add t4 t6) fun t7 =>
  .op (.mv t7) fun t0 =>
  .done (e.upd 0 t0)
theorem c23_r1_run {CP : CProg} (e : Env) (h : Heap) (Q : Post) : RunR CP (c23_r1 e) h Q ↔ RunR CP (
  .op (.mv (e 0)) fun t3 =>
  .op (.bin .shr t3 (.int .u64 61)) fun t4 =>
  .op (.mv (e 0)) fun t5 =>
  .op (.bin .and t5 (.int .u64 2305843009213693951)) fun t6 =>
  .op (.bin .add t4 t6) fun t7 =>
  .op (.mv t7) fun t0 =>
  .done (e.upd 0 t0)) h Q := Iff.rfl
def c23_r2 : Env → Reg := fun e =>
  .op (.mv (e 0)) fun t8 =>
  .op (.bin .geq t8 (.int .u64 2305843009213693951)) fun t9 =>
  .done (e.upd 9 t9)
theorem c23_r2_run {CP : CProg} (e : Env) (h : Heap) (Q : Post) : RunR CP (c23_r2 e) h Q ↔ RunR CP (
  .op (.mv (e 0)) fun t8 =>
  .op (.bin .geq t8 (.int .u64 2305843009213693951)) fun t9 =>
  .done (e.upd 9 t9)) h Q := Iff.rfl
def c23_r3 : Env → Reg := fun e =>
  .op (.mv (e 0)) fun t10 =>
  .op (.bin .sub t10 (.int .u64 2305843009213693951)) fun t11 =>
  .op (.mv t11) fun t0 =>
  .done (e.upd 0 t0)
theorem c23_r3_run {CP : CProg} (e : Env) (h : Heap) (Q : Post) : RunR CP (c23_r3 e) h Q ↔ RunR CP (
  .op (.mv (e 0)) fun t10 =>
  .op (.bin .sub t10 (.int .u64 2305843009213693951)) fun t11 =>
  .op (.mv t11) fun t0 =>
  .done (e.upd 0 t0)) h Q := Iff.rfl
def c23_r4 : Env → Reg := fun e =>
  .op (.mv (e 0)) fun t12 =>
  .op (.mv t12) fun t2 =>
  .done (e.upd 2 t2)
theorem c23_r4_run {CP : CProg} (e : Env) (h : Heap) (Q : Post) : RunR CP (c23_r4 e) h Q ↔ RunR CP (
  .op (.mv (e 0)) fun t12 =>
  .op (.mv t12) fun t2 =>
  .done (e.upd 2 t2)) h Q := Iff.rfl
def c23 : CFn := ⟨(.seq (.region c23_r0) (.seq (.region c23_r1) (.seq (.seq (.region c23_r2) (.cond (fun e => e 9) (.region c23_r3) .skip)) (.seq (.region c23_r4) .ret)))), [.t 2]⟩
def p23 : Pers := ⟨3, [9], 13⟩
-- 24: weighbridge/hash.draw
def c24_r0 : Env → Reg := fun e =>
  .op (.mv (.int .u64 0)) fun t4 =>
  .done (e.upd 4 t4)
theorem c24_r0_run {CP : CProg} (e : Env) (h : Heap) (Q : Post) : RunR CP (c24_r0 e) h Q ↔ RunR CP (
  .op (.mv (.int .u64 0)) fun t4 =>
  .done (e.upd 4 t4)) h Q := Iff.rfl
def c24_r1 : Env → Reg := fun e =>
  .op (.mv (e 1)) fun t5 =>
  .op (.mv (e 0)) fun t6 =>
  .op (.lenSl t6) fun t7 =>
  .op (.bin .geq t5 t7) fun t8 =>
  .done (e.upd 8 t8)
theorem c24_r1_run {CP : CProg} (e : Env) (h : Heap) (Q : Post) : RunR CP (c24_r1 e) h Q ↔ RunR CP (
  .op (.mv (e 1)) fun t5 =>
  .op (.mv (e 0)) fun t6 =>
  .op (.lenSl t6) fun t7 =>
  .op (.bin .geq t5 t7) fun t8 =>
  .done (e.upd 8 t8)) h Q := Iff.rfl
def c24_r2 : Env → Reg := fun e =>
  .op (.mv (.int .u64 0)) fun t4 =>
  .done (e.upd 4 t4)
theorem c24_r2_run {CP : CProg} (e : Env) (h : Heap) (Q : Post) : RunR CP (c24_r2 e) h Q ↔ RunR CP (
  .op (.mv (.int .u64 0)) fun t4 =>
  .done (e.upd 4 t4)) h Q := Iff.rfl
def c24_r3 : Env → Reg := fun e =>
  .op (.mv (e 0)) fun t9 =>
  .op (.mv (e 1)) fun t10 =>
  .op (.indexSl 1 t9 t10) fun t11 =>
  .op (.load none t11) fun t12 =>
  .op (.mv t12) fun t4 =>
  .done (e.upd 4 t4)
theorem c24_r3_run {CP : CProg} (e : Env) (h : Heap) (Q : Post) : RunR CP (c24_r3 e) h Q ↔ RunR CP (
  .op (.mv (e 0)) fun t9 =>
  .op (.mv (e 1)) fun t10 =>
  .op (.indexSl 1 t9 t10) fun t11 =>
  .op (.load none t11) fun t12 =>
  .op (.mv t12) fun t4 =>
  .done (e.upd 4 t4)) h Q := Iff.rfl
def c24 : CFn := ⟨(.seq (.region c24_r0) (.seq (.seq (.region c24_r1) (.cond (fun e => e 8) (.seq (.region c24_r2) .ret) .skip)) (.seq (.region c24_r3) .ret))), [.t 4]⟩
def p24 : Pers := ⟨5, [8], 13⟩
-- 25: weighbridge/arith.Sum
def c25_r0 : Env → Reg := fun e =>
  .op (.mv (.int .i64 0)) fun t4 =>
  .done (e.upd 4 t4)
theorem c25_r0_run {CP : CProg} (e : Env) (h : Heap) (Q : Post) : RunR CP (c25_r0 e) h Q ↔ RunR CP (
  .op (.mv (.int .i64 0)) fun t4 =>
  .done (e.upd 4 t4)) h Q := Iff.rfl
def c25_r1 : Env → Reg := fun e =>
  .op (.mv (e 0)) fun t8 =>
  .op (.mv (e 1)) fun t9 =>
  .op (.call 32 [t8, t9]) fun t10 =>
  .op (.mv t10) fun t7 =>
  .op (.extract t7 0) fun t11 =>
  .op (.extract t7 1) fun t12 =>
  .op (.mv t11) fun t5 =>
  .op (.mv t12) fun t6 =>
  .done ((e.upd 5 t5).upd 6 t6)
theorem c25_r1_run {CP : CProg} (e : Env) (h : Heap) (Q : Post) : RunR CP (c25_r1 e) h Q ↔ RunR CP (
  .op (.mv (e 0)) fun t8 =>
  .op (.mv (e 1)) fun t9 =>
  .op (.call 32 [t8, t9]) fun t10 =>
  .op (.mv t10) fun t7 =>
  .op (.extract t7 0) fun t11 =>
  .op (.extract t7 1) fun t12 =>
  .op (.mv t11) fun t5 =>
  .op (.mv t12) fun t6 =>
  .done ((e.upd 5 t5).upd 6 t6)) h Q := Iff.rfl
def c25_r2 : Env → Reg := fun e =>
  .op (.mv (e 6)) fun t13 =>
  .op (.un .not t13) fun t14 =>
  .done (e.upd 14 t14)
theorem c25_r2_run {CP : CProg} (e : Env) (h : Heap) (Q : Post) : RunR CP (c25_r2 e) h Q ↔ RunR CP (
  .op (.mv (e 6)) fun t13 =>
  .op (.un .not t13) fun t14 =>
  .done (e.upd 14 t14)) h Q := Iff.rfl
def c25_r3 : Env → Reg := fun e =>
  .op (.mv (e 0)) fun t15 =>
  .op (.bin .lss t15 (.int .i64 0)) fun t16 =>
  .op (.call 33 [t16]) fun t17 =>
  .op (.mv t17) fun t4 =>
  .done (e.upd 4 t4)
theorem c25_r3_run {CP : CProg} (e : Env) (h : Heap) (Q : Post) : RunR CP (c25_r3 e) h Q ↔ RunR CP (
  .op (.mv (e 0)) fun t15 =>
  .op (.bin .lss t15 (.int .i64 0)) fun t16 =>
  .op (.call 33 [t16]) fun t17 =>
  .op (.mv t17) fun t4 =>
  .done (e.upd 4 t4)) h Q := Iff.rfl
def c25_r4 : Env → Reg := fun e =>
  .op (.mv (e 5)) fun t18 =>
  .op (.mv t18) fun t4 =>
  .done (e.upd 4 t4)
theorem c25_r4_run {CP : CProg} (e : Env) (h : Heap) (Q : Post) : RunR CP (c25_r4 e) h Q ↔ RunR CP (
  .op (.mv (e 5)) fun t18 =>
  .op (.mv t18) fun t4 =>
  .done (e.upd 4 t4)) h Q := Iff.rfl
def c25 : CFn := ⟨(.seq (.region c25_r0) (.seq (.region c25_r1) (.seq (.seq (.region c25_r2) (.cond (fun e => e 14) (.seq (.region c25_r3) .ret) .skip)) (.seq (.region c25_r4) .ret)))), [.t 4]⟩
def p25 : Pers := ⟨7, [14], 19⟩
-- 26: (*weighbridge/slot.Slot).at
def c26_r0 : Env → Reg := fun e =>
  .op (.mv (.pointer none)) fun t6 =>
  .done (e.upd 6 t6)
theorem c26_r0_run {CP : CProg} (e : Env) (h : Heap) (Q : Post) : RunR CP (c26_r0 e) h Q ↔ RunR CP (
  .op (.mv (.pointer none)) fun t6 =>
  .done (e.upd 6 t6)) h Q := Iff.rfl
def c26_r1_c3 (e : Env) (t9 : Value) (t10 : Value) (t14 : Value) (t15 : Value) (t16 : Value) (t29 : Value) : Reg :=
  .chk none none (.load none t14) t15 <|
  .chk none none (.load none t9) t10 <|
  .op (.bin .add t16 t29) fun t30 =>
  .op (.indexSl 1 t10 t30) fun t31 =>
  .op (.mv t31) fun t6 =>
  .done (e.upd 6 t6)
theorem c26_r1_c3_run {CP : CProg} (e : Env) (t9 : Value) (t10 : Value) (t14 : Value) (t15 : Value) (t16 : Value) (t29 : Value) (h : Heap) (Q : Post) : RunR CP (c26_r1_c3 e t9 t10 t14 t15 t16 t29) h Q ↔ RunR CP (
  .chk none none (.load none t14) t15 <|
  .chk none none (.load none t9) t10 <|
  .op (.bin .add t16 t29) fun t30 =>
  .op (.indexSl 1 t10 t30) fun t31 =>
  .op (.mv t31) fun t6 =>
  .done (e.upd 6 t6)) h Q := Iff.rfl
def c26_r1_c2 (e : Env) (t9 : Value) (t10 : Value) (t14 : Value) (t15 : Value) (t16 : Value) (t22 : Value) : Reg :=
  .op (.load (some 3) t22) fun t23 =>
  .op (.mv (e 2)) fun t24 =>
  .op (.mv (e 0)) fun t25 =>
  .op (.nilCheck t25) fun t26 =>
  .op (.fieldAddr 1 t26) fun t27 =>
  .op (.load none t27) fun t28 =>
  .snap fun h22 =>
  .op (.call 14 [t23, t24, t28]) fun t29 =>
  c26_r1_c3 e t9 t10 t14 t15 t16 t29
theorem c26_r1_c2_run {CP : CProg} (e : Env) (t9 : Value) (t10 : Value) (t14 : Value) (t15 : Value) (t16 : Value) (t22 : Value) (h : Heap) (Q : Post) : RunR CP (c26_r1_c2 e t9 t10 t14 t15 t16 t22) h Q ↔ RunR CP (
  .op (.load (some 3) t22) fun t23 =>
  .op (.mv (e 2)) fun t24 =>
  .op (.mv (e 0)) fun t25 =>
  .op (.nilCheck t25) fun t26 =>
  .op (.fieldAddr 1 t26) fun t27 =>
  .op (.load none t27) fun t28 =>
  .snap fun h22 =>
  .op (.call 14 [t23, t24, t28]) fun t29 =>
  c26_r1_c3 e t9 t10 t14 t15 t16 t29) h Q := Iff.rfl
def c26_r1_c1 (e : Env) (t9 : Value) (t10 : Value) (t11 : Value) (t14 : Value) : Reg :=
  .op (.load none t14) fun t15 =>
  .op (.bin .mul t11 t15) fun t16 =>
  .op (.mv (e 0)) fun t17 =>
  .op (.nilCheck t17) fun t18 =>
  .op (.fieldAddr 0 t18) fun t19 =>
  .op (.load none t19) fun t20 =>
  .op (.mv (e 1)) fun t21 =>
  .op (.indexSl 3 t20 t21) fun t22 =>
  c26_r1_c2 e t9 t10 t14 t15 t16 t22
theorem c26_r1_c1_run {CP : CProg} (e : Env) (t9 : Value) (t10 : Value) (t11 : Value) (t14 : Value) (h : Heap) (Q : Post) : RunR CP (c26_r1_c1 e t9 t10 t11 t14) h Q ↔ RunR CP (
  .op (.load none t14) fun t15 =>
  .op (.bin .mul t11 t15) fun t16 =>
  .op (.mv (e 0)) fun t17 =>
  .op (.nilCheck t17) fun t18 =>
  .op (.fieldAddr 0 t18) fun t19 =>
  .op (.load none t19) fun t20 =>
  .op (.mv (e 1)) fun t21 =>
  .op (.indexSl 3 t20 t21) fun t22 =>
  c26_r1_c2 e t9 t10 t14 t15 t16 t22) h Q := Iff.rfl
def c26_r1 : Env → Reg := fun e =>
  .op (.mv (e 0)) fun t7 =>
  .op (.nilCheck t7) fun t8 =>
  .op (.fieldAddr 2 t8) fun t9 =>
  .op (.load none t9) fun t10 =>
  .op (.mv (e 1)) fun t11 =>
  .op (.mv (e 0)) fun t12 =>
  .op (.nilCheck t12) fun t13 =>
  .op (.fieldAddr 1 t13) fun t14 =>
  c26_r1_c1 e t9 t10 t11 t14
theorem c26_r1_run {CP : CProg} (e : Env) (h : Heap) (Q : Post) : RunR CP (c26_r1 e) h Q ↔ RunR CP (
  .op (.mv (e 0)) fun t7 =>
  .op (.nilCheck t7) fun t8 =>
  .op (.fieldAddr 2 t8) fun t9 =>
  .op (.load none t9) fun t10 =>
  .op (.mv (e 1)) fun t11 =>
  .op (.mv (e 0)) fun t12 =>
  .op (.nilCheck t12) fun t13 =>
  .op (.fieldAddr 1 t13) fun t14 =>
  c26_r1_c1 e t9 t10 t11 t14) h Q := Iff.rfl
def c26 : CFn := ⟨(.seq (.region c26_r0) (.seq (.region c26_r1) .ret)), [.t 6]⟩
def p26 : Pers := ⟨7, [], 32⟩
-- 27: weighbridge/hash.Place
def c27_r0 : Env → Reg := fun e =>
  .op (.mv (.int .i64 0)) fun t4 =>
  .done (e.upd 4 t4)
theorem c27_r0_run {CP : CProg} (e : Env) (h : Heap) (Q : Post) : RunR CP (c27_r0 e) h Q ↔ RunR CP (
  .op (.mv (.int .i64 0)) fun t4 =>
  .done (e.upd 4 t4)) h Q := Iff.rfl
def c27_r1 : Env → Reg := fun e =>
  .op (.mv (e 1)) fun t7 =>
  .op (.bin .lss t7 (.int .i64 1)) fun t8 =>
  .done (e.upd 8 t8)
theorem c27_r1_run {CP : CProg} (e : Env) (h : Heap) (Q : Post) : RunR CP (c27_r1 e) h Q ↔ RunR CP (
  .op (.mv (e 1)) fun t7 =>
  .op (.bin .lss t7 (.int .i64 1)) fun t8 =>
  .done (e.upd 8 t8)) h Q := Iff.rfl
def c27_r2 : Env → Reg := fun e =>
  .op (.mv (.int .i64 0)) fun t4 =>
  .done (e.upd 4 t4)
theorem c27_r2_run {CP : CProg} (e : Env) (h : Heap) (Q : Post) : RunR CP (c27_r2 e) h Q ↔ RunR CP (
  .op (.mv (.int .i64 0)) fun t4 =>
  .done (e.upd 4 t4)) h Q := Iff.rfl
def c27_r3 : Env → Reg := fun e =>
  .op (.mv (e 0)) fun t10 =>
  .op (.mv (e 1)) fun t11 =>
  .op (.conv .u64 t11) fun t12 =>
  .op (.call 34 [t10, t12, (.int .u64 2305843009213693951)]) fun t13 =>
  .op (.mv t13) fun t9 =>
  .op (.extract t9 0) fun t14 =>
  .op (.extract t9 1) fun t15 =>
  .op (.mv t14) fun t5 =>
  .op (.mv t15) fun t6 =>
  .done ((e.upd 5 t5).upd 6 t6)
theorem c27_r3_run {CP : CProg} (e : Env) (h : Heap) (Q : Post) : RunR CP (c27_r3 e) h Q ↔ RunR CP (
  .op (.mv (e 0)) fun t10 =>
  .op (.mv (e 1)) fun t11 =>
  .op (.conv .u64 t11) fun t12 =>
  .op (.call 34 [t10, t12, (.int .u64 2305843009213693951)]) fun t13 =>
  .op (.mv t13) fun t9 =>
  .op (.extract t9 0) fun t14 =>
  .op (.extract t9 1) fun t15 =>
  .op (.mv t14) fun t5 =>
  .op (.mv t15) fun t6 =>
  .done ((e.upd 5 t5).upd 6 t6)) h Q := Iff.rfl
def c27_r4 : Env → Reg := fun e =>
  .op (.mv (e 5)) fun t16 =>
  .op (.conv .i64 t16) fun t17 =>
  .op (.mv t17) fun t4 =>
  .done (e.upd 4 t4)
theorem c27_r4_run {CP : CProg} (e : Env) (h : Heap) (Q : Post) : RunR CP (c27_r4 e) h Q ↔ RunR CP (
  .op (.mv (e 5)) fun t16 =>
  .op (.conv .i64 t16) fun t17 =>
  .op (.mv t17) fun t4 =>
  .done (e.upd 4 t4)) h Q := Iff.rfl
def c27 : CFn := ⟨(.seq (.region c27_r0) (.seq (.seq (.region c27_r1) (.cond (fun e => e 8) (.seq (.region c27_r2) .ret) .skip)) (.seq (.region c27_r3) (.seq (.region c27_r4) .ret)))), [.t 4]⟩
def p27 : Pers := ⟨7, [8], 18⟩
-- 28: (weighbridge/hash.Row).Of
def c28_r0 : Env → Reg := fun e =>
  .op (.box 36 (e 0)) fun t2 =>
  .op (.mv (.int .u64 0)) fun t4 =>
  .done ((e.upd 2 t2).upd 4 t4)
theorem c28_r0_run {CP : CProg} (e : Env) (h : Heap) (Q : Post) : RunR CP (c28_r0 e) h Q ↔ RunR CP (
  .op (.box 36 (e 0)) fun t2 =>
  .op (.mv (.int .u64 0)) fun t4 =>
  .done ((e.upd 2 t2).upd 4 t4)) h Q := Iff.rfl
def c28_r1 : Env → Reg := fun e =>
  .op (.mv (e 1)) fun t7 =>
  .op (.lenStr t7) fun t8 =>
  .op (.conv .u64 t8) fun t9 =>
  .op (.bin .add t9 (.int .u64 1)) fun t10 =>
  .op (.mv t10) fun t5 =>
  .done (e.upd 5 t5)
theorem c28_r1_run {CP : CProg} (e : Env) (h : Heap) (Q : Post) : RunR CP (c28_r1 e) h Q ↔ RunR CP (
  .op (.mv (e 1)) fun t7 =>
  .op (.lenStr t7) fun t8 =>
  .op (.conv .u64 t8) fun t9 =>
  .op (.bin .add t9 (.int .u64 1)) fun t10 =>
  .op (.mv t10) fun t5 =>
  .done (e.upd 5 t5)) h Q := Iff.rfl
def c28_r2 : Env → Reg := fun e =>
  .op (.mv (.int .i64 0)) fun t6 =>
  .done (e.upd 6 t6)
theorem c28_r2_run {CP : CProg} (e : Env) (h : Heap) (Q : Post) : RunR CP (c28_r2 e) h Q ↔ RunR CP (
  .op (.mv (.int .i64 0)) fun t6 =>
  .done (e.upd 6 t6)) h Q := Iff.rfl
def c28_r3 : Env → Reg := fun e =>
  .op (.mv (e 6)) fun t11 =>
  .op (.mv (e 1)) fun t12 =>
  .op (.lenStr t12) fun t13 =>
  .op (.bin .lss t11 t13) fun t14 =>
  .done (e.upd 14 t14)
theorem c28_r3_run {CP : CProg} (e : Env) (h : Heap) (Q : Post) : RunR CP (c28_r3 e) h Q ↔ RunR CP (
  .op (.mv (e 6)) fun t11 =>
  .op (.mv (e 1)) fun t12 =>
  .op (.lenStr t12) fun t13 =>
  .op (.bin .lss t11 t13) fun t14 =>
  .done (e.upd 14 t14)) h Q := Iff.rfl
def c28_r5_c1 (e : Env) (t20 : Value) (t21 : Value) (t22 : Value) (t23 : Value) : Reg :=
  .op (.bin .add t23 (.int .i64 7)) fun t24 =>
  .op (.mv (e 1)) fun t25 =>
  .op (.lenStr t25) fun t26 =>
  .op (.minmax false [t24, t26]) fun t27 =>
  .op (.sliceStr t21 (some t22) (some t27)) fun t28 =>
  .snap fun h12 =>
  .op (.call 37 [t28]) fun t29 =>
  .snap fun h13 =>
  .op (.call 35 [t20, t29]) fun t30 =>
  .op (.mv t30) fun t5 =>
  .done (e.upd 5 t5)
theorem c28_r5_c1_run {CP : CProg} (e : Env) (t20 : Value) (t21 : Value) (t22 : Value) (t23 : Value) (h : Heap) (Q : Post) : RunR CP (c28_r5_c1 e t20 t21 t22 t23) h Q ↔ RunR CP (
  .op (.bin .add t23 (.int .i64 7)) fun t24 =>
  .op (.mv (e 1)) fun t25 =>
  .op (.lenStr t25) fun t26 =>
  .op (.minmax false [t24, t26]) fun t27 =>
  .op (.sliceStr t21 (some t22) (some t27)) fun t28 =>
  .snap fun h12 =>
  .op (.call 37 [t28]) fun t29 =>
  .snap fun h13 =>
  .op (.call 35 [t20, t29]) fun t30 =>
  .op (.mv t30) fun t5 =>
  .done (e.upd 5 t5)) h Q := Iff.rfl
def c28_r5 : Env → Reg := fun e =>
  .op (.mv (e 5)) fun t17 =>
  .op (.fieldAddr 0 (e 2)) fun t18 =>
  .op (.load none t18) fun t19 =>
  .snap fun h3 =>
  .op (.call 36 [t17, t19]) fun t20 =>
  .op (.mv (e 1)) fun t21 =>
  .op (.mv (e 6)) fun t22 =>
  .op (.mv (e 6)) fun t23 =>
  c28_r5_c1 e t20 t21 t22 t23
theorem c28_r5_run {CP : CProg} (e : Env) (h : Heap) (Q : Post) : RunR CP (c28_r5 e) h Q ↔ RunR CP (
  .op (.mv (e 5)) fun t17 =>
  .op (.fieldAddr 0 (e 2)) fun t18 =>
  .op (.load none t18) fun t19 =>
  .snap fun h3 =>
  .op (.call 36 [t17, t19]) fun t20 =>
  .op (.mv (e 1)) fun t21 =>
  .op (.mv (e 6)) fun t22 =>
  .op (.mv (e 6)) fun t23 =>
  c28_r5_c1 e t20 t21 t22 t23) h Q := Iff.rfl
def c28_r4 : Env → Reg := fun e =>
  .op (.mv (e 6)) fun t15 =>
  .op (.bin .add t15 (.int .i64 7)) fun t16 =>
  .op (.mv t16) fun t6 =>
  .done (e.upd 6 t6)
theorem c28_r4_run {CP : CProg} (e : Env) (h : Heap) (Q : Post) : RunR CP (c28_r4 e) h Q ↔ RunR CP (
  .op (.mv (e 6)) fun t15 =>
  .op (.bin .add t15 (.int .i64 7)) fun t16 =>
  .op (.mv t16) fun t6 =>
  .done (e.upd 6 t6)) h Q := Iff.rfl
def c28_l0 : CC := (.seq (.seq (.region c28_r3) (.cond (fun e => e 14) .skip (.exit 0))) (.seq (.block 1 (.region c28_r5)) (.region c28_r4)))
def c28_r6_c1 (e : Env) (t34 : Value) (t36 : Value) : Reg :=
  .snap fun h6 =>
  .op (.call 35 [t34, t36]) fun t37 =>
  .op (.mv t37) fun t4 =>
  .done (e.upd 4 t4)
theorem c28_r6_c1_run {CP : CProg} (e : Env) (t34 : Value) (t36 : Value) (h : Heap) (Q : Post) : RunR CP (c28_r6_c1 e t34 t36) h Q ↔ RunR CP (
  .snap fun h6 =>
  .op (.call 35 [t34, t36]) fun t37 =>
  .op (.mv t37) fun t4 =>
  .done (e.upd 4 t4)) h Q := Iff.rfl
def c28_r6 : Env → Reg := fun e =>
  .op (.mv (e 5)) fun t31 =>
  .op (.fieldAddr 1 (e 2)) fun t32 =>
  .op (.load none t32) fun t33 =>
  .snap fun h3 =>
  .op (.call 36 [t31, t33]) fun t34 =>
  .op (.fieldAddr 2 (e 2)) fun t35 =>
  .op (.load none t35) fun t36 =>
  .chk none (some h3) (.load none t35) t36 <|
  c28_r6_c1 e t34 t36
theorem c28_r6_run {CP : CProg} (e : Env) (h : Heap) (Q : Post) : RunR CP (c28_r6 e) h Q ↔ RunR CP (
  .op (.mv (e 5)) fun t31 =>
  .op (.fieldAddr 1 (e 2)) fun t32 =>
  .op (.load none t32) fun t33 =>
  .snap fun h3 =>
  .op (.call 36 [t31, t33]) fun t34 =>
  .op (.fieldAddr 2 (e 2)) fun t35 =>
  .op (.load none t35) fun t36 =>
  .chk none (some h3) (.load none t35) t36 <|
  c28_r6_c1 e t34 t36) h Q := Iff.rfl
def c28 : CFn := ⟨(.seq (.region c28_r0) (.seq (.region c28_r1) (.seq (.seq (.region c28_r2) (.block 0 (.loop c28_l0))) (.seq (.region c28_r6) .ret)))), [.t 4]⟩
def p28 : Pers := ⟨7, [14], 38⟩
-- 29: weighbridge/weighbridgeref03.draw
def c29_r0 : Env → Reg := fun e =>
  .op (.mv (.int .u64 0)) fun t4 =>
  .done (e.upd 4 t4)
theorem c29_r0_run {CP : CProg} (e : Env) (h : Heap) (Q : Post) : RunR CP (c29_r0 e) h Q ↔ RunR CP (
  .op (.mv (.int .u64 0)) fun t4 =>
  .done (e.upd 4 t4)) h Q := Iff.rfl
def c29_r1 : Env → Reg := fun e =>
  .op (.mv (e 1)) fun t5 =>
  .op (.mv (e 0)) fun t6 =>
  .op (.lenSl t6) fun t7 =>
  .op (.bin .lss t5 t7) fun t8 =>
  .done (e.upd 8 t8)
theorem c29_r1_run {CP : CProg} (e : Env) (h : Heap) (Q : Post) : RunR CP (c29_r1 e) h Q ↔ RunR CP (
  .op (.mv (e 1)) fun t5 =>
  .op (.mv (e 0)) fun t6 =>
  .op (.lenSl t6) fun t7 =>
  .op (.bin .lss t5 t7) fun t8 =>
  .done (e.upd 8 t8)) h Q := Iff.rfl
def c29_r2 : Env → Reg := fun e =>
  .op (.mv (e 0)) fun t9 =>
  .op (.mv (e 1)) fun t10 =>
  .op (.indexSl 1 t9 t10) fun t11 =>
  .op (.load none t11) fun t12 =>
  .op (.mv t12) fun t4 =>
  .done (e.upd 4 t4)
theorem c29_r2_run {CP : CProg} (e : Env) (h : Heap) (Q : Post) : RunR CP (c29_r2 e) h Q ↔ RunR CP (
  .op (.mv (e 0)) fun t9 =>
  .op (.mv (e 1)) fun t10 =>
  .op (.indexSl 1 t9 t10) fun t11 =>
  .op (.load none t11) fun t12 =>
  .op (.mv t12) fun t4 =>
  .done (e.upd 4 t4)) h Q := Iff.rfl
def c29_r3 : Env → Reg := fun e =>
  .op (.mv (.int .u64 0)) fun t4 =>
  .done (e.upd 4 t4)
theorem c29_r3_run {CP : CProg} (e : Env) (h : Heap) (Q : Post) : RunR CP (c29_r3 e) h Q ↔ RunR CP (
  .op (.mv (.int .u64 0)) fun t4 =>
  .done (e.upd 4 t4)) h Q := Iff.rfl
def c29 : CFn := ⟨(.seq (.region c29_r0) (.seq (.seq (.region c29_r1) (.cond (fun e => e 8) (.seq (.region c29_r2) .ret) .skip)) (.seq (.region c29_r3) .ret))), [.t 4]⟩
def p29 : Pers := ⟨5, [8], 13⟩
-- 30: weighbridge/weighbridgeref01.Down
def c30_r0 : Env → Reg := fun e =>
  .op (.mv (.int .u64 0)) fun t6 =>
  .op (.mv (.bool false)) fun t7 =>
  .done ((e.upd 6 t6).upd 7 t7)
theorem c30_r0_run {CP : CProg} (e : Env) (h : Heap) (Q : Post) : RunR CP (c30_r0 e) h Q ↔ RunR CP (
  .op (.mv (.int .u64 0)) fun t6 =>
  .op (.mv (.bool false)) fun t7 =>
  .done ((e.upd 6 t6).upd 7 t7)) h Q := Iff.rfl
def c30_r1_c1 (e : Env) (t16 : Value) (t17 : Value) (t18 : Value) : Reg :=
  .op (.mv t16) fun t8 =>
  .op (.mv t17) fun t9 =>
  .op (.mv t18) fun t10 =>
  .done (((e.upd 8 t8).upd 9 t9).upd 10 t10)
theorem c30_r1_c1_run {CP : CProg} (e : Env) (t16 : Value) (t17 : Value) (t18 : Value) (h : Heap) (Q : Post) : RunR CP (c30_r1_c1 e t16 t17 t18) h Q ↔ RunR CP (
  .op (.mv t16) fun t8 =>
  .op (.mv t17) fun t9 =>
  .op (.mv t18) fun t10 =>
  .done (((e.upd 8 t8).upd 9 t9).upd 10 t10)) h Q := Iff.rfl
def c30_r1 : Env → Reg := fun e =>
  .op (.mv (e 0)) fun t12 =>
  .op (.mv (e 1)) fun t13 =>
  .op (.mv (e 2)) fun t14 =>
  .op (.call 38 [t12, t13, t14]) fun t15 =>
  .op (.mv t15) fun t11 =>
  .op (.extract t11 0) fun t16 =>
  .op (.extract t11 1) fun t17 =>
  .op (.extract t11 2) fun t18 =>
  c30_r1_c1 e t16 t17 t18
theorem c30_r1_run {CP : CProg} (e : Env) (h : Heap) (Q : Post) : RunR CP (c30_r1 e) h Q ↔ RunR CP (
  .op (.mv (e 0)) fun t12 =>
  .op (.mv (e 1)) fun t13 =>
  .op (.mv (e 2)) fun t14 =>
  .op (.call 38 [t12, t13, t14]) fun t15 =>
  .op (.mv t15) fun t11 =>
  .op (.extract t11 0) fun t16 =>
  .op (.extract t11 1) fun t17 =>
  .op (.extract t11 2) fun t18 =>
  c30_r1_c1 e t16 t17 t18) h Q := Iff.rfl
def c30_r2 : Env → Reg := fun e =>
  .op (.mv (e 8)) fun t19 =>
  .op (.mv (e 10)) fun t20 =>
  .op (.mv t19) fun t6 =>
  .op (.mv t20) fun t7 =>
  .done ((e.upd 6 t6).upd 7 t7)
theorem c30_r2_run {CP : CProg} (e : Env) (h : Heap) (Q : Post) : RunR CP (c30_r2 e) h Q ↔ RunR CP (
  .op (.mv (e 8)) fun t19 =>
  .op (.mv (e 10)) fun t20 =>
  .op (.mv t19) fun t6 =>
  .op (.mv t20) fun t7 =>
  .done ((e.upd 6 t6).upd 7 t7)) h Q := Iff.rfl
def c30 : CFn := ⟨(.seq (.region c30_r0) (.seq (.region c30_r1) (.seq (.region c30_r2) .ret))), [.t 6, .t 7]⟩
def p30 : Pers := ⟨11, [], 21⟩
-- 31: weighbridge/weighbridgeref03.Of
def c31_r0 : Env → Reg := fun e =>
  .op (.box 51 (e 0)) fun t2 =>
  .op (.mv (.int .u64 0)) fun t4 =>
  .done ((e.upd 2 t2).upd 4 t4)
theorem c31_r0_run {CP : CProg} (e : Env) (h : Heap) (Q : Post) : RunR CP (c31_r0 e) h Q ↔ RunR CP (
  .op (.box 51 (e 0)) fun t2 =>
  .op (.mv (.int .u64 0)) fun t4 =>
  .done ((e.upd 2 t2).upd 4 t4)) h Q := Iff.rfl
def c31_r1 : Env → Reg := fun e =>
  .op (.mv (e 1)) fun t9 =>
  .op (.lenStr t9) fun t10 =>
  .op (.bin .add t10 (.int .i64 1)) fun t11 =>
  .op (.conv .u64 t11) fun t12 =>
  .op (.bin .rem t12 (.int .u64 2305843009213693951)) fun t13 =>
  .op (.mv t13) fun t5 =>
  .done (e.upd 5 t5)
theorem c31_r1_run {CP : CProg} (e : Env) (h : Heap) (Q : Post) : RunR CP (c31_r1 e) h Q ↔ RunR CP (
  .op (.mv (e 1)) fun t9 =>
  .op (.lenStr t9) fun t10 =>
  .op (.bin .add t10 (.int .i64 1)) fun t11 =>
  .op (.conv .u64 t11) fun t12 =>
  .op (.bin .rem t12 (.int .u64 2305843009213693951)) fun t13 =>
  .op (.mv t13) fun t5 =>
  .done (e.upd 5 t5)) h Q := Iff.rfl
def c31_r2 : Env → Reg := fun e =>
  .op (.mv (.int .i64 0)) fun t6 =>
  .done (e.upd 6 t6)
theorem c31_r2_run {CP : CProg} (e : Env) (h : Heap) (Q : Post) : RunR CP (c31_r2 e) h Q ↔ RunR CP (
  .op (.mv (.int .i64 0)) fun t6 =>
  .done (e.upd 6 t6)) h Q := Iff.rfl
def c31_r3 : Env → Reg := fun e =>
  .op (.mv (e 6)) fun t14 =>
  .op (.mv (e 1)) fun t15 =>
  .op (.lenStr t15) fun t16 =>
  .op (.bin .lss t14 t16) fun t17 =>
  .done (e.upd 17 t17)
theorem c31_r3_run {CP : CProg} (e : Env) (h : Heap) (Q : Post) : RunR CP (c31_r3 e) h Q ↔ RunR CP (
  .op (.mv (e 6)) fun t14 =>
  .op (.mv (e 1)) fun t15 =>
  .op (.lenStr t15) fun t16 =>
  .op (.bin .lss t14 t16) fun t17 =>
  .done (e.upd 17 t17)) h Q := Iff.rfl
def c31_r4 : Env → Reg := fun e =>
  .op (.mv (.int .u64 0)) fun t7 =>
  .done (e.upd 7 t7)
theorem c31_r4_run {CP : CProg} (e : Env) (h : Heap) (Q : Post) : RunR CP (c31_r4 e) h Q ↔ RunR CP (
  .op (.mv (.int .u64 0)) fun t7 =>
  .done (e.upd 7 t7)) h Q := Iff.rfl
def c31_r5 : Env → Reg := fun e =>
  .op (.mv (.int .i64 0)) fun t8 =>
  .done (e.upd 8 t8)
theorem c31_r5_run {CP : CProg} (e : Env) (h : Heap) (Q : Post) : RunR CP (c31_r5 e) h Q ↔ RunR CP (
  .op (.mv (.int .i64 0)) fun t8 =>
  .done (e.upd 8 t8)) h Q := Iff.rfl
def c31_r6 : Env → Reg := fun e =>
  .op (.mv (e 8)) fun t18 =>
  .op (.bin .lss t18 (.int .i64 7)) fun t19 =>
  .op (.mv t19) fun t20 =>
  .opg t20 true (.mv (e 6)) fun t21 =>
  .opg t20 true (.mv (e 1)) fun t22 =>
  .opg t20 true (.lenStr t22) fun t23 =>
  .opg t20 true (.bin .lss t21 t23) fun t24 =>
  .op (.pick t20 t24 (.bool false)) fun t25 =>
  .done (e.upd 25 t25)
theorem c31_r6_run {CP : CProg} (e : Env) (h : Heap) (Q : Post) : RunR CP (c31_r6 e) h Q ↔ RunR CP (
  .op (.mv (e 8)) fun t18 =>
  .op (.bin .lss t18 (.int .i64 7)) fun t19 =>
  .op (.mv t19) fun t20 =>
  .opg t20 true (.mv (e 6)) fun t21 =>
  .opg t20 true (.mv (e 1)) fun t22 =>
  .opg t20 true (.lenStr t22) fun t23 =>
  .opg t20 true (.bin .lss t21 t23) fun t24 =>
  .op (.pick t20 t24 (.bool false)) fun t25 =>
  .done (e.upd 25 t25)) h Q := Iff.rfl
def c31_r8 : Env → Reg := fun e =>
  .op (.mv (e 7)) fun t28 =>
  .op (.bin .mul t28 (.int .u64 256)) fun t29 =>
  .op (.mv (e 1)) fun t30 =>
  .op (.mv (e 6)) fun t31 =>
  .op (.indexStr t30 t31) fun t32 =>
  .op (.conv .u64 t32) fun t33 =>
  .op (.bin .add t29 t33) fun t34 =>
  .op (.mv t34) fun t7 =>
  .done (e.upd 7 t7)
theorem c31_r8_run {CP : CProg} (e : Env) (h : Heap) (Q : Post) : RunR CP (c31_r8 e) h Q ↔ RunR CP (
  .op (.mv (e 7)) fun t28 =>
  .op (.bin .mul t28 (.int .u64 256)) fun t29 =>
  .op (.mv (e 1)) fun t30 =>
  .op (.mv (e 6)) fun t31 =>
  .op (.indexStr t30 t31) fun t32 =>
  .op (.conv .u64 t32) fun t33 =>
  .op (.bin .add t29 t33) fun t34 =>
  .op (.mv t34) fun t7 =>
  .done (e.upd 7 t7)) h Q := Iff.rfl
def c31_r9 : Env → Reg := fun e =>
  .op (.mv (e 6)) fun t35 =>
  .op (.bin .add t35 (.int .i64 1)) fun t36 =>
  .op (.mv t36) fun t6 =>
  .done (e.upd 6 t6)
theorem c31_r9_run {CP : CProg} (e : Env) (h : Heap) (Q : Post) : RunR CP (c31_r9 e) h Q ↔ RunR CP (
  .op (.mv (e 6)) fun t35 =>
  .op (.bin .add t35 (.int .i64 1)) fun t36 =>
  .op (.mv t36) fun t6 =>
  .done (e.upd 6 t6)) h Q := Iff.rfl
def c31_r7 : Env → Reg := fun e =>
  .op (.mv (e 8)) fun t26 =>
  .op (.bin .add t26 (.int .i64 1)) fun t27 =>
  .op (.mv t27) fun t8 =>
  .done (e.upd 8 t8)
theorem c31_r7_run {CP : CProg} (e : Env) (h : Heap) (Q : Post) : RunR CP (c31_r7 e) h Q ↔ RunR CP (
  .op (.mv (e 8)) fun t26 =>
  .op (.bin .add t26 (.int .i64 1)) fun t27 =>
  .op (.mv t27) fun t8 =>
  .done (e.upd 8 t8)) h Q := Iff.rfl
def c31_l0 : CC := (.seq (.seq (.region c31_r6) (.cond (fun e => e 25) .skip (.exit 2))) (.seq (.block 3 (.seq (.region c31_r8) (.region c31_r9))) (.region c31_r7)))
def c31_r10 : Env → Reg := fun e =>
  .op (.mv (e 5)) fun t37 =>
  .op (.fieldAddr 0 (e 2)) fun t38 =>
  .op (.load none t38) fun t39 =>
  .op (.call 39 [t37, t39]) fun t40 =>
  .op (.mv (e 7)) fun t41 =>
  .op (.bin .add t40 t41) fun t42 =>
  .op (.bin .rem t42 (.int .u64 2305843009213693951)) fun t43 =>
  .op (.mv t43) fun t5 =>
  .done (e.upd 5 t5)
theorem c31_r10_run {CP : CProg} (e : Env) (h : Heap) (Q : Post) : RunR CP (c31_r10 e) h Q ↔ RunR CP (
  .op (.mv (e 5)) fun t37 =>
  .op (.fieldAddr 0 (e 2)) fun t38 =>
  .op (.load none t38) fun t39 =>
  .op (.call 39 [t37, t39]) fun t40 =>
  .op (.mv (e 7)) fun t41 =>
  .op (.bin .add t40 t41) fun t42 =>
  .op (.bin .rem t42 (.int .u64 2305843009213693951)) fun t43 =>
  .op (.mv t43) fun t5 =>
  .done (e.upd 5 t5)) h Q := Iff.rfl
def c31_l1 : CC := (.seq (.seq (.region c31_r3) (.cond (fun e => e 17) .skip (.exit 0))) (.block 1 (.seq (.region c31_r4) (.seq (.seq (.region c31_r5) (.block 2 (.loop c31_l0))) (.region c31_r10)))))
def c31_r11_c1 (e : Env) (t47 : Value) (t49 : Value) : Reg :=
  .op (.bin .add t47 t49) fun t50 =>
  .op (.bin .rem t50 (.int .u64 2305843009213693951)) fun t51 =>
  .op (.mv t51) fun t4 =>
  .done (e.upd 4 t4)
theorem c31_r11_c1_run {CP : CProg} (e : Env) (t47 : Value) (t49 : Value) (h : Heap) (Q : Post) : RunR CP (c31_r11_c1 e t47 t49) h Q ↔ RunR CP (
  .op (.bin .add t47 t49) fun t50 =>
  .op (.bin .rem t50 (.int .u64 2305843009213693951)) fun t51 =>
  .op (.mv t51) fun t4 =>
  .done (e.upd 4 t4)) h Q := Iff.rfl
def c31_r11 : Env → Reg := fun e =>
  .op (.mv (e 5)) fun t44 =>
  .op (.fieldAddr 1 (e 2)) fun t45 =>
  .op (.load none t45) fun t46 =>
  .snap fun h3 =>
  .op (.call 39 [t44, t46]) fun t47 =>
  .op (.fieldAddr 2 (e 2)) fun t48 =>
  .op (.load none t48) fun t49 =>
  .chk none (some h3) (.load none t48) t49 <|
  c31_r11_c1 e t47 t49
theorem c31_r11_run {CP : CProg} (e : Env) (h : Heap) (Q : Post) : RunR CP (c31_r11 e) h Q ↔ RunR CP (
  .op (.mv (e 5)) fun t44 =>
  .op (.fieldAddr 1 (e 2)) fun t45 =>
  .op (.load none t45) fun t46 =>
  .snap fun h3 =>
  .op (.call 39 [t44, t46]) fun t47 =>
  .op (.fieldAddr 2 (e 2)) fun t48 =>
  .op (.load none t48) fun t49 =>
  .chk none (some h3) (.load none t48) t49 <|
  c31_r11_c1 e t47 t49) h Q := Iff.rfl
def c31 : CFn := ⟨(.seq (.region c31_r0) (.seq (.region c31_r1) (.seq (.seq (.region c31_r2) (.block 0 (.loop c31_l1))) (.seq (.region c31_r11) .ret)))), [.t 4]⟩
def p31 : Pers := ⟨9, [17, 25], 52⟩
-- 32: weighbridge/arith.Add
def c32_r0 : Env → Reg := fun e =>
  .op (.mv (.int .i64 0)) fun t4 =>
  .op (.mv (.bool false)) fun t5 =>
  .done ((e.upd 4 t4).upd 5 t5)
theorem c32_r0_run {CP : CProg} (e : Env) (h : Heap) (Q : Post) : RunR CP (c32_r0 e) h Q ↔ RunR CP (
  .op (.mv (.int .i64 0)) fun t4 =>
  .op (.mv (.bool false)) fun t5 =>
  .done ((e.upd 4 t4).upd 5 t5)) h Q := Iff.rfl
def c32_r1 : Env → Reg := fun e =>
  .op (.mv (e 0)) fun t7 =>
  .op (.mv (e 1)) fun t8 =>
  .op (.bin .add t7 t8) fun t9 =>
  .op (.mv t9) fun t6 =>
  .done (e.upd 6 t6)
theorem c32_r1_run {CP : CProg} (e : Env) (h : Heap) (Q : Post) : RunR CP (c32_r1 e) h Q ↔ RunR CP (
  .op (.mv (e 0)) fun t7 =>
  .op (.mv (e 1)) fun t8 =>
  .op (.bin .add t7 t8) fun t9 =>
  .op (.mv t9) fun t6 =>
  .done (e.upd 6 t6)) h Q := Iff.rfl
def c32_r2 : Env → Reg := fun e =>
  .op (.mv (e 6)) fun t10 =>
  .op (.mv (e 6)) fun t11 =>
  .op (.mv (e 0)) fun t12 =>
  .op (.bin .gtr t11 t12) fun t13 =>
  .op (.mv (e 1)) fun t14 =>
  .op (.bin .gtr t14 (.int .i64 0)) fun t15 =>
  .op (.eqK .bool false t13 t15) fun t16 =>
  .op (.mv t10) fun t4 =>
  .op (.mv t16) fun t5 =>
  .done ((e.upd 4 t4).upd 5 t5)
theorem c32_r2_run {CP : CProg} (e : Env) (h : Heap) (Q : Post) : RunR CP (c32_r2 e) h Q ↔ RunR CP (
  .op (.mv (e 6)) fun t10 =>
  .op (.mv (e 6)) fun t11 =>
  .op (.mv (e 0)) fun t12 =>
  .op (.bin .gtr t11 t12) fun t13 =>
  .op (.mv (e 1)) fun t14 =>
  .op (.bin .gtr t14 (.int .i64 0)) fun t15 =>
  .op (.eqK .bool false t13 t15) fun t16 =>
  .op (.mv t10) fun t4 =>
  .op (.mv t16) fun t5 =>
  .done ((e.upd 4 t4).upd 5 t5)) h Q := Iff.rfl
def c32 : CFn := ⟨(.seq (.region c32_r0) (.seq (.region c32_r1) (.seq (.region c32_r2) .ret))), [.t 4, .t 5]⟩
def p32 : Pers := ⟨7, [], 17⟩
-- 33: weighbridge/arith.end
def c33_r0 : Env → Reg := fun e =>
  .op (.mv (.int .i64 0)) fun t2 =>
  .done (e.upd 2 t2)
theorem c33_r0_run {CP : CProg} (e : Env) (h : Heap) (Q : Post) : RunR CP (c33_r0 e) h Q ↔ RunR CP (
  .op (.mv (.int .i64 0)) fun t2 =>
  .done (e.upd 2 t2)) h Q := Iff.rfl
def c33_r1 : Env → Reg := fun e =>
  .op (.mv (e 0)) fun t3 =>
  .done (e.upd 3 t3)
theorem c33_r1_run {CP : CProg} (e : Env) (h : Heap) (Q : Post) : RunR CP (c33_r1 e) h Q ↔ RunR CP (
  .op (.mv (e 0)) fun t3 =>
  .done (e.upd 3 t3)) h Q := Iff.rfl
def c33_r2 : Env → Reg := fun e =>
  .op (.mv (.int .i64 (-9223372036854775808))) fun t2 =>
  .done (e.upd 2 t2)
theorem c33_r2_run {CP : CProg} (e : Env) (h : Heap) (Q : Post) : RunR CP (c33_r2 e) h Q ↔ RunR CP (
  .op (.mv (.int .i64 (-9223372036854775808))) fun t2 =>
  .done (e.upd 2 t2)) h Q := Iff.rfl
def c33_r3 : Env → Reg := fun e =>
  .op (.mv (.int .i64 9223372036854775807)) fun t2 =>
  .done (e.upd 2 t2)
theorem c33_r3_run {CP : CProg} (e : Env) (h : Heap) (Q : Post) : RunR CP (c33_r3 e) h Q ↔ RunR CP (
  .op (.mv (.int .i64 9223372036854775807)) fun t2 =>
  .done (e.upd 2 t2)) h Q := Iff.rfl
def c33 : CFn := ⟨(.seq (.region c33_r0) (.seq (.seq (.region c33_r1) (.cond (fun e => e 3) (.seq (.region c33_r2) .ret) .skip)) (.seq (.region c33_r3) .ret))), [.t 2]⟩
def p33 : Pers := ⟨3, [3], 4⟩
-- 34: weighbridge/arith.Down
def c34_r0 : Env → Reg := fun e =>
  .op (.mv (.int .u64 0)) fun t6 =>
  .op (.mv (.bool false)) fun t7 =>
  .done ((e.upd 6 t6).upd 7 t7)
theorem c34_r0_run {CP : CProg} (e : Env) (h : Heap) (Q : Post) : RunR CP (c34_r0 e) h Q ↔ RunR CP (
  .op (.mv (.int .u64 0)) fun t6 =>
  .op (.mv (.bool false)) fun t7 =>
  .done ((e.upd 6 t6).upd 7 t7)) h Q := Iff.rfl
def c34_r1_c1 (e : Env) (t16 : Value) (t17 : Value) (t18 : Value) : Reg :=
  .op (.mv t16) fun t8 =>
  .op (.mv t17) fun t9 =>
  .op (.mv t18) fun t10 =>
  .done (((e.upd 8 t8).upd 9 t9).upd 10 t10)
theorem c34_r1_c1_run {CP : CProg} (e : Env) (t16 : Value) (t17 : Value) (t18 : Value) (h : Heap) (Q : Post) : RunR CP (c34_r1_c1 e t16 t17 t18) h Q ↔ RunR CP (
  .op (.mv t16) fun t8 =>
  .op (.mv t17) fun t9 =>
  .op (.mv t18) fun t10 =>
  .done (((e.upd 8 t8).upd 9 t9).upd 10 t10)) h Q := Iff.rfl
def c34_r1 : Env → Reg := fun e =>
  .op (.mv (e 0)) fun t12 =>
  .op (.mv (e 1)) fun t13 =>
  .op (.mv (e 2)) fun t14 =>
  .op (.call 40 [t12, t13, t14]) fun t15 =>
  .op (.mv t15) fun t11 =>
  .op (.extract t11 0) fun t16 =>
  .op (.extract t11 1) fun t17 =>
  .op (.extract t11 2) fun t18 =>
  c34_r1_c1 e t16 t17 t18
theorem c34_r1_run {CP : CProg} (e : Env) (h : Heap) (Q : Post) : RunR CP (c34_r1 e) h Q ↔ RunR CP (
  .op (.mv (e 0)) fun t12 =>
  .op (.mv (e 1)) fun t13 =>
  .op (.mv (e 2)) fun t14 =>
  .op (.call 40 [t12, t13, t14]) fun t15 =>
  .op (.mv t15) fun t11 =>
  .op (.extract t11 0) fun t16 =>
  .op (.extract t11 1) fun t17 =>
  .op (.extract t11 2) fun t18 =>
  c34_r1_c1 e t16 t17 t18) h Q := Iff.rfl
def c34_r2 : Env → Reg := fun e =>
  .op (.mv (e 8)) fun t19 =>
  .op (.mv (e 10)) fun t20 =>
  .op (.mv t19) fun t6 =>
  .op (.mv t20) fun t7 =>
  .done ((e.upd 6 t6).upd 7 t7)
theorem c34_r2_run {CP : CProg} (e : Env) (h : Heap) (Q : Post) : RunR CP (c34_r2 e) h Q ↔ RunR CP (
  .op (.mv (e 8)) fun t19 =>
  .op (.mv (e 10)) fun t20 =>
  .op (.mv t19) fun t6 =>
  .op (.mv t20) fun t7 =>
  .done ((e.upd 6 t6).upd 7 t7)) h Q := Iff.rfl
def c34 : CFn := ⟨(.seq (.region c34_r0) (.seq (.region c34_r1) (.seq (.region c34_r2) .ret))), [.t 6, .t 7]⟩
def p34 : Pers := ⟨11, [], 21⟩
-- 35: weighbridge/field.Add
def c35_r0 : Env → Reg := fun e =>
  .op (.mv (.int .u64 0)) fun t4 =>
  .done (e.upd 4 t4)
theorem c35_r0_run {CP : CProg} (e : Env) (h : Heap) (Q : Post) : RunR CP (c35_r0 e) h Q ↔ RunR CP (
  .op (.mv (.int .u64 0)) fun t4 =>
  .done (e.upd 4 t4)) h Q := Iff.rfl
def c35_r1 : Env → Reg := fun e =>
  .op (.mv (e 0)) fun t5 =>
  .op (.mv (e 1)) fun t6 =>
  .op (.bin .add t5 t6) fun t7 =>
  .op (.call 23 [t7]) fun t8 =>
  .op (.mv t8) fun t4 =>
  .done (e.upd 4 t4)
theorem c35_r1_run {CP : CProg} (e : Env) (h : Heap) (Q : Post) : RunR CP (c35_r1 e) h Q ↔ RunR CP (
  .op (.mv (e 0)) fun t5 =>
  .op (.mv (e 1)) fun t6 =>
  .op (.bin .add t5 t6) fun t7 =>
  .op (.call 23 [t7]) fun t8 =>
  .op (.mv t8) fun t4 =>
  .done (e.upd 4 t4)) h Q := Iff.rfl
def c35 : CFn := ⟨(.seq (.region c35_r0) (.seq (.region c35_r1) .ret)), [.t 4]⟩
def p35 : Pers := ⟨5, [], 9⟩
-- 36: weighbridge/field.Mul
def c36_r0 : Env → Reg := fun e =>
  .op (.mv (.int .u64 0)) fun t4 =>
  .done (e.upd 4 t4)
theorem c36_r0_run {CP : CProg} (e : Env) (h : Heap) (Q : Post) : RunR CP (c36_r0 e) h Q ↔ RunR CP (
  .op (.mv (.int .u64 0)) fun t4 =>
  .done (e.upd 4 t4)) h Q := Iff.rfl
def c36_r1 : Env → Reg := fun e =>
  .op (.mv (e 0)) fun t8 =>
  .op (.mv (e 1)) fun t9 =>
  .op (.call 41 [t8, t9]) fun t10 =>
  .op (.mv t10) fun t7 =>
  .op (.extract t7 0) fun t11 =>
  .op (.extract t7 1) fun t12 =>
  .op (.mv t11) fun t5 =>
  .op (.mv t12) fun t6 =>
  .done ((e.upd 5 t5).upd 6 t6)
theorem c36_r1_run {CP : CProg} (e : Env) (h : Heap) (Q : Post) : RunR CP (c36_r1 e) h Q ↔ RunR CP (
  .op (.mv (e 0)) fun t8 =>
  .op (.mv (e 1)) fun t9 =>
  .op (.call 41 [t8, t9]) fun t10 =>
  .op (.mv t10) fun t7 =>
  .op (.extract t7 0) fun t11 =>
  .op (.extract t7 1) fun t12 =>
  .op (.mv t11) fun t5 =>
  .op (.mv t12) fun t6 =>
  .done ((e.upd 5 t5).upd 6 t6)) h Q := Iff.rfl
def c36_r2_c1 (e : Env) (t18 : Value) (t20 : Value) : Reg :=
  .op (.bin .rem t20 (.int .u64 2305843009213693951)) fun t21 =>
  .op (.call 35 [t18, t21]) fun t22 =>
  .op (.mv t22) fun t4 =>
  .done (e.upd 4 t4)
theorem c36_r2_c1_run {CP : CProg} (e : Env) (t18 : Value) (t20 : Value) (h : Heap) (Q : Post) : RunR CP (c36_r2_c1 e t18 t20) h Q ↔ RunR CP (
  .op (.bin .rem t20 (.int .u64 2305843009213693951)) fun t21 =>
  .op (.call 35 [t18, t21]) fun t22 =>
  .op (.mv t22) fun t4 =>
  .done (e.upd 4 t4)) h Q := Iff.rfl
def c36_r2 : Env → Reg := fun e =>
  .op (.mv (e 5)) fun t13 =>
  .op (.bin .shl t13 (.int .u64 3)) fun t14 =>
  .op (.mv (e 6)) fun t15 =>
  .op (.bin .shr t15 (.int .u64 61)) fun t16 =>
  .op (.bin .or t14 t16) fun t17 =>
  .op (.call 23 [t17]) fun t18 =>
  .op (.mv (e 6)) fun t19 =>
  .op (.bin .and t19 (.int .u64 2305843009213693951)) fun t20 =>
  c36_r2_c1 e t18 t20
theorem c36_r2_run {CP : CProg} (e : Env) (h : Heap) (Q : Post) : RunR CP (c36_r2 e) h Q ↔ RunR CP (
  .op (.mv (e 5)) fun t13 =>
  .op (.bin .shl t13 (.int .u64 3)) fun t14 =>
  .op (.mv (e 6)) fun t15 =>
  .op (.bin .shr t15 (.int .u64 61)) fun t16 =>
  .op (.bin .or t14 t16) fun t17 =>
  .op (.call 23 [t17]) fun t18 =>
  .op (.mv (e 6)) fun t19 =>
  .op (.bin .and t19 (.int .u64 2305843009213693951)) fun t20 =>
  c36_r2_c1 e t18 t20) h Q := Iff.rfl
def c36 : CFn := ⟨(.seq (.region c36_r0) (.seq (.region c36_r1) (.seq (.region c36_r2) .ret))), [.t 4]⟩
def p36 : Pers := ⟨7, [], 23⟩
-- 37: weighbridge/hash.word
def c37_r0 : Env → Reg := fun e =>
  .op (.mv (.int .u64 0)) fun t2 =>
  .done (e.upd 2 t2)
theorem c37_r0_run {CP : CProg} (e : Env) (h : Heap) (Q : Post) : RunR CP (c37_r0 e) h Q ↔ RunR CP (
  .op (.mv (.int .u64 0)) fun t2 =>
  .done (e.upd 2 t2)) h Q := Iff.rfl
def c37_r1 : Env → Reg := fun e =>
  .op (.mv (.int .u64 0)) fun t3 =>
  .done (e.upd 3 t3)
theorem c37_r1_run {CP : CProg} (e : Env) (h : Heap) (Q : Post) : RunR CP (c37_r1 e) h Q ↔ RunR CP (
  .op (.mv (.int .u64 0)) fun t3 =>
  .done (e.upd 3 t3)) h Q := Iff.rfl
def c37_r2 : Env → Reg := fun e =>
  .op (.mv (e 0)) fun t5 =>
  .op (.lenStr t5) fun t6 =>
  .op (.mv (.int .i64 0)) fun t7 =>
  .done ((e.upd 6 t6).upd 7 t7)
theorem c37_r2_run {CP : CProg} (e : Env) (h : Heap) (Q : Post) : RunR CP (c37_r2 e) h Q ↔ RunR CP (
  .op (.mv (e 0)) fun t5 =>
  .op (.lenStr t5) fun t6 =>
  .op (.mv (.int .i64 0)) fun t7 =>
  .done ((e.upd 6 t6).upd 7 t7)) h Q := Iff.rfl
def c37_r3 : Env → Reg := fun e =>
  .op (.bin .lss (e 7) (e 6)) fun t8 =>
  .done (e.upd 8 t8)
theorem c37_r3_run {CP : CProg} (e : Env) (h : Heap) (Q : Post) : RunR CP (c37_r3 e) h Q ↔ RunR CP (
  .op (.bin .lss (e 7) (e 6)) fun t8 =>
  .done (e.upd 8 t8)) h Q := Iff.rfl
def c37_r4 : Env → Reg := fun e =>
  .op (.mv (e 7)) fun t9 =>
  .op (.mv t9) fun t4 =>
  .done (e.upd 4 t4)
theorem c37_r4_run {CP : CProg} (e : Env) (h : Heap) (Q : Post) : RunR CP (c37_r4 e) h Q ↔ RunR CP (
  .op (.mv (e 7)) fun t9 =>
  .op (.mv t9) fun t4 =>
  .done (e.upd 4 t4)) h Q := Iff.rfl
def c37_r5 : Env → Reg := fun e =>
  .op (.mv (e 3)) fun t10 =>
  .op (.bin .shl t10 (.int .u64 8)) fun t11 =>
  .op (.mv (e 0)) fun t12 =>
  .op (.mv (e 4)) fun t13 =>
  .op (.indexStr t12 t13) fun t14 =>
  .op (.conv .u64 t14) fun t15 =>
  .op (.bin .or t11 t15) fun t16 =>
  .op (.mv t16) fun t3 =>
  .done (e.upd 3 t3)
theorem c37_r5_run {CP : CProg} (e : Env) (h : Heap) (Q : Post) : RunR CP (c37_r5 e) h Q ↔ RunR CP (
  .op (.mv (e 3)) fun t10 =>
  .op (.bin .shl t10 (.int .u64 8)) fun t11 =>
  .op (.mv (e 0)) fun t12 =>
  .op (.mv (e 4)) fun t13 =>
  .op (.indexStr t12 t13) fun t14 =>
  .op (.conv .u64 t14) fun t15 =>
  .op (.bin .or t11 t15) fun t16 =>
  .op (.mv t16) fun t3 =>
  .done (e.upd 3 t3)) h Q := Iff.rfl
def c37_r6 : Env → Reg := fun e =>
  .op (.bin .add (e 7) (.int .i64 1)) fun t17 =>
  .op (.mv t17) fun t7 =>
  .done (e.upd 7 t7)
theorem c37_r6_run {CP : CProg} (e : Env) (h : Heap) (Q : Post) : RunR CP (c37_r6 e) h Q ↔ RunR CP (
  .op (.bin .add (e 7) (.int .i64 1)) fun t17 =>
  .op (.mv t17) fun t7 =>
  .done (e.upd 7 t7)) h Q := Iff.rfl
def c37_l0 : CC := (.seq (.region c37_r3) (.seq (.cond (fun e => e 8) .skip (.exit 0)) (.seq (.block 1 (.seq (.region c37_r4) (.region c37_r5))) (.region c37_r6))))
def c37_r7 : Env → Reg := fun e =>
  .op (.mv (e 3)) fun t18 =>
  .op (.mv t18) fun t2 =>
  .done (e.upd 2 t2)
theorem c37_r7_run {CP : CProg} (e : Env) (h : Heap) (Q : Post) : RunR CP (c37_r7 e) h Q ↔ RunR CP (
  .op (.mv (e 3)) fun t18 =>
  .op (.mv t18) fun t2 =>
  .done (e.upd 2 t2)) h Q := Iff.rfl
def c37 : CFn := ⟨(.seq (.region c37_r0) (.seq (.region c37_r1) (.seq (.seq (.region c37_r2) (.block 0 (.loop c37_l0))) (.seq (.region c37_r7) .ret)))), [.t 2]⟩
def p37 : Pers := ⟨5, [6, 7, 8], 19⟩
-- 38: weighbridge/weighbridgeref01.Divide
def c38_r0 : Env → Reg := fun e =>
  .op (.mv (.int .u64 0)) fun t6 =>
  .op (.mv (.int .u64 0)) fun t7 =>
  .op (.mv (.bool false)) fun t8 =>
  .done (((e.upd 6 t6).upd 7 t7).upd 8 t8)
theorem c38_r0_run {CP : CProg} (e : Env) (h : Heap) (Q : Post) : RunR CP (c38_r0 e) h Q ↔ RunR CP (
  .op (.mv (.int .u64 0)) fun t6 =>
  .op (.mv (.int .u64 0)) fun t7 =>
  .op (.mv (.bool false)) fun t8 =>
  .done (((e.upd 6 t6).upd 7 t7).upd 8 t8)) h Q := Iff.rfl
def c38_r1 : Env → Reg := fun e =>
  .op (.mv (e 0)) fun t16 =>
  .op (.mv (e 1)) fun t17 =>
  .op (.call 42 [t16, t17]) fun t18 =>
  .op (.mv t18) fun t15 =>
  .op (.extract t15 0) fun t19 =>
  .op (.extract t15 1) fun t20 =>
  .op (.mv t19) fun t9 =>
  .op (.mv t20) fun t10 =>
  .done ((e.upd 9 t9).upd 10 t10)
theorem c38_r1_run {CP : CProg} (e : Env) (h : Heap) (Q : Post) : RunR CP (c38_r1 e) h Q ↔ RunR CP (
  .op (.mv (e 0)) fun t16 =>
  .op (.mv (e 1)) fun t17 =>
  .op (.call 42 [t16, t17]) fun t18 =>
  .op (.mv t18) fun t15 =>
  .op (.extract t15 0) fun t19 =>
  .op (.extract t15 1) fun t20 =>
  .op (.mv t19) fun t9 =>
  .op (.mv t20) fun t10 =>
  .done ((e.upd 9 t9).upd 10 t10)) h Q := Iff.rfl
def c38_r2 : Env → Reg := fun e =>
  .op (.mv (e 9)) fun t21 =>
  .op (.mv (e 2)) fun t22 =>
  .op (.bin .geq t21 t22) fun t23 =>
  .done (e.upd 23 t23)
theorem c38_r2_run {CP : CProg} (e : Env) (h : Heap) (Q : Post) : RunR CP (c38_r2 e) h Q ↔ RunR CP (
  .op (.mv (e 9)) fun t21 =>
  .op (.mv (e 2)) fun t22 =>
  .op (.bin .geq t21 t22) fun t23 =>
  .done (e.upd 23 t23)) h Q := Iff.rfl
def c38_r3 : Env → Reg := fun e =>
  .op (.mv (.int .u64 0)) fun t6 =>
  .op (.mv (.int .u64 0)) fun t7 =>
  .op (.mv (.bool false)) fun t8 =>
  .done (((e.upd 6 t6).upd 7 t7).upd 8 t8)
theorem c38_r3_run {CP : CProg} (e : Env) (h : Heap) (Q : Post) : RunR CP (c38_r3 e) h Q ↔ RunR CP (
  .op (.mv (.int .u64 0)) fun t6 =>
  .op (.mv (.int .u64 0)) fun t7 =>
  .op (.mv (.bool false)) fun t8 =>
  .done (((e.upd 6 t6).upd 7 t7).upd 8 t8)) h Q := Iff.rfl
def c38_r4 : Env → Reg := fun e =>
  .op (.mv (e 9)) fun t24 =>
  .op (.mv (.int .u64 0)) fun t11 =>
  .op (.mv t24) fun t12 =>
  .done ((e.upd 11 t11).upd 12 t12)
theorem c38_r4_run {CP : CProg} (e : Env) (h : Heap) (Q : Post) : RunR CP (c38_r4 e) h Q ↔ RunR CP (
  .op (.mv (e 9)) fun t24 =>
  .op (.mv (.int .u64 0)) fun t11 =>
  .op (.mv t24) fun t12 =>
  .done ((e.upd 11 t11).upd 12 t12)) h Q := Iff.rfl
def c38_r5 : Env → Reg := fun e =>
  .op (.mv (.int .i64 63)) fun t13 =>
  .done (e.upd 13 t13)
theorem c38_r5_run {CP : CProg} (e : Env) (h : Heap) (Q : Post) : RunR CP (c38_r5 e) h Q ↔ RunR CP (
  .op (.mv (.int .i64 63)) fun t13 =>
  .done (e.upd 13 t13)) h Q := Iff.rfl
def c38_r6 : Env → Reg := fun e =>
  .op (.mv (e 13)) fun t25 =>
  .op (.bin .geq t25 (.int .i64 0)) fun t26 =>
  .done (e.upd 26 t26)
theorem c38_r6_run {CP : CProg} (e : Env) (h : Heap) (Q : Post) : RunR CP (c38_r6 e) h Q ↔ RunR CP (
  .op (.mv (e 13)) fun t25 =>
  .op (.bin .geq t25 (.int .i64 0)) fun t26 =>
  .done (e.upd 26 t26)) h Q := Iff.rfl
def c38_r8 : Env → Reg := fun e =>
  .op (.mv (e 12)) fun t29 =>
  .op (.bin .shr t29 (.int .u64 63)) fun t30 =>
  .op (.mv t30) fun t14 =>
  .done (e.upd 14 t14)
theorem c38_r8_run {CP : CProg} (e : Env) (h : Heap) (Q : Post) : RunR CP (c38_r8 e) h Q ↔ RunR CP (
  .op (.mv (e 12)) fun t29 =>
  .op (.bin .shr t29 (.int .u64 63)) fun t30 =>
  .op (.mv t30) fun t14 =>
  .done (e.upd 14 t14)) h Q := Iff.rfl
def c38_r9 : Env → Reg := fun e =>
  .op (.mv (e 12)) fun t31 =>
  .op (.bin .shl t31 (.int .u64 1)) fun t32 =>
  .op (.mv (e 10)) fun t33 =>
  .op (.mv (e 13)) fun t34 =>
  .op (.conv .u64 t34) fun t35 =>
  .op (.bin .shr t33 t35) fun t36 =>
  .op (.bin .and t36 (.int .u64 1)) fun t37 =>
  .op (.bin .or t32 t37) fun t38 =>
  .op (.mv t38) fun t12 =>
  .done (e.upd 12 t12)
theorem c38_r9_run {CP : CProg} (e : Env) (h : Heap) (Q : Post) : RunR CP (c38_r9 e) h Q ↔ RunR CP (
  .op (.mv (e 12)) fun t31 =>
  .op (.bin .shl t31 (.int .u64 1)) fun t32 =>
  .op (.mv (e 10)) fun t33 =>
  .op (.mv (e 13)) fun t34 =>
  .op (.conv .u64 t34) fun t35 =>
  .op (.bin .shr t33 t35) fun t36 =>
  .op (.bin .and t36 (.int .u64 1)) fun t37 =>
  .op (.bin .or t32 t37) fun t38 =>
  .op (.mv t38) fun t12 =>
  .done (e.upd 12 t12)) h Q := Iff.rfl
def c38_r10 : Env → Reg := fun e =>
  .op (.mv (e 11)) fun t39 =>
  .op (.bin .shl t39 (.int .u64 1)) fun t40 =>
  .op (.mv t40) fun t11 =>
  .done (e.upd 11 t11)
theorem c38_r10_run {CP : CProg} (e : Env) (h : Heap) (Q : Post) : RunR CP (c38_r10 e) h Q ↔ RunR CP (
  .op (.mv (e 11)) fun t39 =>
  .op (.bin .shl t39 (.int .u64 1)) fun t40 =>
  .op (.mv t40) fun t11 =>
  .done (e.upd 11 t11)) h Q := Iff.rfl
def c38_r11 : Env → Reg := fun e =>
  .op (.mv (e 14)) fun t41 =>
  .op (.bin .eql t41 (.int .u64 1)) fun t42 =>
  .op (.mv t42) fun t43 =>
  .opg t43 false (.mv (e 12)) fun t44 =>
  .opg t43 false (.mv (e 2)) fun t45 =>
  .opg t43 false (.bin .geq t44 t45) fun t46 =>
  .op (.pick t43 (.bool true) t46) fun t47 =>
  .done (e.upd 47 t47)
theorem c38_r11_run {CP : CProg} (e : Env) (h : Heap) (Q : Post) : RunR CP (c38_r11 e) h Q ↔ RunR CP (
  .op (.mv (e 14)) fun t41 =>
  .op (.bin .eql t41 (.int .u64 1)) fun t42 =>
  .op (.mv t42) fun t43 =>
  .opg t43 false (.mv (e 12)) fun t44 =>
  .opg t43 false (.mv (e 2)) fun t45 =>
  .opg t43 false (.bin .geq t44 t45) fun t46 =>
  .op (.pick t43 (.bool true) t46) fun t47 =>
  .done (e.upd 47 t47)) h Q := Iff.rfl
def c38_r12 : Env → Reg := fun e =>
  .op (.mv (e 12)) fun t48 =>
  .op (.mv (e 2)) fun t49 =>
  .op (.bin .sub t48 t49) fun t50 =>
  .op (.mv t50) fun t12 =>
  .done (e.upd 12 t12)
theorem c38_r12_run {CP : CProg} (e : Env) (h : Heap) (Q : Post) : RunR CP (c38_r12 e) h Q ↔ RunR CP (
  .op (.mv (e 12)) fun t48 =>
  .op (.mv (e 2)) fun t49 =>
  .op (.bin .sub t48 t49) fun t50 =>
  .op (.mv t50) fun t12 =>
  .done (e.upd 12 t12)) h Q := Iff.rfl
def c38_r13 : Env → Reg := fun e =>
  .op (.mv (e 11)) fun t51 =>
  .op (.bin .or t51 (.int .u64 1)) fun t52 =>
  .op (.mv t52) fun t11 =>
  .done (e.upd 11 t11)
theorem c38_r13_run {CP : CProg} (e : Env) (h : Heap) (Q : Post) : RunR CP (c38_r13 e) h Q ↔ RunR CP (
  .op (.mv (e 11)) fun t51 =>
  .op (.bin .or t51 (.int .u64 1)) fun t52 =>
  .op (.mv t52) fun t11 =>
  .done (e.upd 11 t11)) h Q := Iff.rfl
def c38_r7 : Env → Reg := fun e =>
  .op (.mv (e 13)) fun t27 =>
  .op (.bin .sub t27 (.int .i64 1)) fun t28 =>
  .op (.mv t28) fun t13 =>
  .done (e.upd 13 t13)
theorem c38_r7_run {CP : CProg} (e : Env) (h : Heap) (Q : Post) : RunR CP (c38_r7 e) h Q ↔ RunR CP (
  .op (.mv (e 13)) fun t27 =>
  .op (.bin .sub t27 (.int .i64 1)) fun t28 =>
  .op (.mv t28) fun t13 =>
  .done (e.upd 13 t13)) h Q := Iff.rfl
def c38_l0 : CC := (.seq (.seq (.region c38_r6) (.cond (fun e => e 26) .skip (.exit 0))) (.seq (.block 1 (.seq (.region c38_r8) (.seq (.region c38_r9) (.seq (.region c38_r10) (.seq (.region c38_r11) (.cond (fun e => e 47) (.seq (.region c38_r12) (.region c38_r13)) .skip)))))) (.region c38_r7)))
def c38_r14 : Env → Reg := fun e =>
  .op (.mv (e 11)) fun t53 =>
  .op (.mv (e 12)) fun t54 =>
  .op (.mv t53) fun t6 =>
  .op (.mv t54) fun t7 =>
  .op (.mv (.bool true)) fun t8 =>
  .done (((e.upd 6 t6).upd 7 t7).upd 8 t8)
theorem c38_r14_run {CP : CProg} (e : Env) (h : Heap) (Q : Post) : RunR CP (c38_r14 e) h Q ↔ RunR CP (
  .op (.mv (e 11)) fun t53 =>
  .op (.mv (e 12)) fun t54 =>
  .op (.mv t53) fun t6 =>
  .op (.mv t54) fun t7 =>
  .op (.mv (.bool true)) fun t8 =>
  .done (((e.upd 6 t6).upd 7 t7).upd 8 t8)) h Q := Iff.rfl
def c38 : CFn := ⟨(.seq (.region c38_r0) (.seq (.region c38_r1) (.seq (.seq (.region c38_r2) (.cond (fun e => e 23) (.seq (.region c38_r3) .ret) .skip)) (.seq (.region c38_r4) (.seq (.seq (.region c38_r5) (.block 0 (.loop c38_l0))) (.seq (.region c38_r14) .ret)))))), [.t 6, .t 7, .t 8]⟩
def p38 : Pers := ⟨15, [23, 26, 47], 55⟩
-- 39: weighbridge/weighbridgeref02.Mul
def c39_r0 : Env → Reg := fun e =>
  .op (.mv (.int .u64 0)) fun t4 =>
  .done (e.upd 4 t4)
theorem c39_r0_run {CP : CProg} (e : Env) (h : Heap) (Q : Post) : RunR CP (c39_r0 e) h Q ↔ RunR CP (
  .op (.mv (.int .u64 0)) fun t4 =>
  .done (e.upd 4 t4)) h Q := Iff.rfl
def c39_r1 : Env → Reg := fun e =>
  .op (.mv (.int .u64 0)) fun t5 =>
  .done (e.upd 5 t5)
theorem c39_r1_run {CP : CProg} (e : Env) (h : Heap) (Q : Post) : RunR CP (c39_r1 e) h Q ↔ RunR CP (
  .op (.mv (.int .u64 0)) fun t5 =>
  .done (e.upd 5 t5)) h Q := Iff.rfl
def c39_r2 : Env → Reg := fun e =>
  .op (.mv (.int .i64 60)) fun t6 =>
  .done (e.upd 6 t6)
theorem c39_r2_run {CP : CProg} (e : Env) (h : Heap) (Q : Post) : RunR CP (c39_r2 e) h Q ↔ RunR CP (
  .op (.mv (.int .i64 60)) fun t6 =>
  .done (e.upd 6 t6)) h Q := Iff.rfl
def c39_r3 : Env → Reg := fun e =>
  .op (.mv (e 6)) fun t7 =>
  .op (.bin .geq t7 (.int .i64 0)) fun t8 =>
  .done (e.upd 8 t8)
theorem c39_r3_run {CP : CProg} (e : Env) (h : Heap) (Q : Post) : RunR CP (c39_r3 e) h Q ↔ RunR CP (
  .op (.mv (e 6)) fun t7 =>
  .op (.bin .geq t7 (.int .i64 0)) fun t8 =>
  .done (e.upd 8 t8)) h Q := Iff.rfl
def c39_r5 : Env → Reg := fun e =>
  .op (.mv (e 5)) fun t11 =>
  .op (.bin .mul t11 (.int .u64 2)) fun t12 =>
  .op (.bin .rem t12 (.int .u64 2305843009213693951)) fun t13 =>
  .op (.mv t13) fun t5 =>
  .done (e.upd 5 t5)
theorem c39_r5_run {CP : CProg} (e : Env) (h : Heap) (Q : Post) : RunR CP (c39_r5 e) h Q ↔ RunR CP (
  .op (.mv (e 5)) fun t11 =>
  .op (.bin .mul t11 (.int .u64 2)) fun t12 =>
  .op (.bin .rem t12 (.int .u64 2305843009213693951)) fun t13 =>
  .op (.mv t13) fun t5 =>
  .done (e.upd 5 t5)) h Q := Iff.rfl
def c39_r6 : Env → Reg := fun e =>
  .op (.mv (e 1)) fun t14 =>
  .op (.mv (e 6)) fun t15 =>
  .op (.conv .u64 t15) fun t16 =>
  .op (.bin .shr t14 t16) fun t17 =>
  .op (.bin .and t17 (.int .u64 1)) fun t18 =>
  .op (.bin .eql t18 (.int .u64 1)) fun t19 =>
  .done (e.upd 19 t19)
theorem c39_r6_run {CP : CProg} (e : Env) (h : Heap) (Q : Post) : RunR CP (c39_r6 e) h Q ↔ RunR CP (
  .op (.mv (e 1)) fun t14 =>
  .op (.mv (e 6)) fun t15 =>
  .op (.conv .u64 t15) fun t16 =>
  .op (.bin .shr t14 t16) fun t17 =>
  .op (.bin .and t17 (.int .u64 1)) fun t18 =>
  .op (.bin .eql t18 (.int .u64 1)) fun t19 =>
  .done (e.upd 19 t19)) h Q := Iff.rfl
def c39_r7 : Env → Reg := fun e =>
  .op (.mv (e 5)) fun t20 =>
  .op (.mv (e 0)) fun t21 =>
  .op (.bin .add t20 t21) fun t22 =>
  .op (.bin .rem t22 (.int .u64 2305843009213693951)) fun t23 =>
  .op (.mv t23) fun t5 =>
  .done (e.upd 5 t5)
theorem c39_r7_run {CP : CProg} (e : Env) (h : Heap) (Q : Post) : RunR CP (c39_r7 e) h Q ↔ RunR CP (
  .op (.mv (e 5)) fun t20 =>
  .op (.mv (e 0)) fun t21 =>
  .op (.bin .add t20 t21) fun t22 =>
  .op (.bin .rem t22 (.int .u64 2305843009213693951)) fun t23 =>
  .op (.mv t23) fun t5 =>
  .done (e.upd 5 t5)) h Q := Iff.rfl
def c39_r4 : Env → Reg := fun e =>
  .op (.mv (e 6)) fun t9 =>
  .op (.bin .sub t9 (.int .i64 1)) fun t10 =>
  .op (.mv t10) fun t6 =>
  .done (e.upd 6 t6)
theorem c39_r4_run {CP : CProg} (e : Env) (h : Heap) (Q : Post) : RunR CP (c39_r4 e) h Q ↔ RunR CP (
  .op (.mv (e 6)) fun t9 =>
  .op (.bin .sub t9 (.int .i64 1)) fun t10 =>
  .op (.mv t10) fun t6 =>
  .done (e.upd 6 t6)) h Q := Iff.rfl
def c39_l0 : CC := (.seq (.seq (.region c39_r3) (.cond (fun e => e 8) .skip (.exit 0))) (.seq (.block 1 (.seq (.region c39_r5) (.seq (.region c39_r6) (.cond (fun e => e 19) (.region c39_r7) .skip)))) (.region c39_r4)))
def c39_r8 : Env → Reg := fun e =>
  .op (.mv (e 5)) fun t24 =>
  .op (.mv t24) fun t4 =>
  .done (e.upd 4 t4)
theorem c39_r8_run {CP : CProg} (e : Env) (h : Heap) (Q : Post) : RunR CP (c39_r8 e) h Q ↔ RunR CP (
  .op (.mv (e 5)) fun t24 =>
  .op (.mv t24) fun t4 =>
  .done (e.upd 4 t4)) h Q := Iff.rfl
def c39 : CFn := ⟨(.seq (.region c39_r0) (.seq (.region c39_r1) (.seq (.seq (.region c39_r2) (.block 0 (.loop c39_l0))) (.seq (.region c39_r8) .ret)))), [.t 4]⟩
def p39 : Pers := ⟨7, [8, 19], 25⟩
-- 40: weighbridge/arith.divide
def c40_r0 : Env → Reg := fun e =>
  .op (.mv (.int .u64 0)) fun t6 =>
  .op (.mv (.int .u64 0)) fun t7 =>
  .op (.mv (.bool false)) fun t8 =>
  .done (((e.upd 6 t6).upd 7 t7).upd 8 t8)
theorem c40_r0_run {CP : CProg} (e : Env) (h : Heap) (Q : Post) : RunR CP (c40_r0 e) h Q ↔ RunR CP (
  .op (.mv (.int .u64 0)) fun t6 =>
  .op (.mv (.int .u64 0)) fun t7 =>
  .op (.mv (.bool false)) fun t8 =>
  .done (((e.upd 6 t6).upd 7 t7).upd 8 t8)) h Q := Iff.rfl
def c40_r1 : Env → Reg := fun e =>
  .op (.mv (e 0)) fun t14 =>
  .op (.mv (e 1)) fun t15 =>
  .op (.call 41 [t14, t15]) fun t16 =>
  .op (.mv t16) fun t13 =>
  .op (.extract t13 0) fun t17 =>
  .op (.extract t13 1) fun t18 =>
  .op (.mv t17) fun t9 =>
  .op (.mv t18) fun t10 =>
  .done ((e.upd 9 t9).upd 10 t10)
theorem c40_r1_run {CP : CProg} (e : Env) (h : Heap) (Q : Post) : RunR CP (c40_r1 e) h Q ↔ RunR CP (
  .op (.mv (e 0)) fun t14 =>
  .op (.mv (e 1)) fun t15 =>
  .op (.call 41 [t14, t15]) fun t16 =>
  .op (.mv t16) fun t13 =>
  .op (.extract t13 0) fun t17 =>
  .op (.extract t13 1) fun t18 =>
  .op (.mv t17) fun t9 =>
  .op (.mv t18) fun t10 =>
  .done ((e.upd 9 t9).upd 10 t10)) h Q := Iff.rfl
def c40_r2 : Env → Reg := fun e =>
  .op (.mv (e 2)) fun t19 =>
  .op (.bin .eql t19 (.int .u64 0)) fun t20 =>
  .op (.mv t20) fun t21 =>
  .opg t21 false (.mv (e 9)) fun t22 =>
  .opg t21 false (.mv (e 2)) fun t23 =>
  .opg t21 false (.bin .geq t22 t23) fun t24 =>
  .op (.pick t21 (.bool true) t24) fun t25 =>
  .done (e.upd 25 t25)
theorem c40_r2_run {CP : CProg} (e : Env) (h : Heap) (Q : Post) : RunR CP (c40_r2 e) h Q ↔ RunR CP (
  .op (.mv (e 2)) fun t19 =>
  .op (.bin .eql t19 (.int .u64 0)) fun t20 =>
  .op (.mv t20) fun t21 =>
  .opg t21 false (.mv (e 9)) fun t22 =>
  .opg t21 false (.mv (e 2)) fun t23 =>
  .opg t21 false (.bin .geq t22 t23) fun t24 =>
  .op (.pick t21 (.bool true) t24) fun t25 =>
  .done (e.upd 25 t25)) h Q := Iff.rfl
def c40_r3 : Env → Reg := fun e =>
  .op (.mv (.int .u64 0)) fun t6 =>
  .op (.mv (.int .u64 0)) fun t7 =>
  .op (.mv (.bool false)) fun t8 =>
  .done (((e.upd 6 t6).upd 7 t7).upd 8 t8)
theorem c40_r3_run {CP : CProg} (e : Env) (h : Heap) (Q : Post) : RunR CP (c40_r3 e) h Q ↔ RunR CP (
  .op (.mv (.int .u64 0)) fun t6 =>
  .op (.mv (.int .u64 0)) fun t7 =>
  .op (.mv (.bool false)) fun t8 =>
  .done (((e.upd 6 t6).upd 7 t7).upd 8 t8)) h Q := Iff.rfl
def c40_r4 : Env → Reg := fun e =>
  .op (.mv (e 9)) fun t27 =>
  .op (.mv (e 10)) fun t28 =>
  .op (.mv (e 2)) fun t29 =>
  .op (.call 43 [t27, t28, t29]) fun t30 =>
  .op (.mv t30) fun t26 =>
  .op (.extract t26 0) fun t31 =>
  .op (.extract t26 1) fun t32 =>
  .op (.mv t31) fun t11 =>
  .op (.mv t32) fun t12 =>
  .done ((e.upd 11 t11).upd 12 t12)
theorem c40_r4_run {CP : CProg} (e : Env) (h : Heap) (Q : Post) : RunR CP (c40_r4 e) h Q ↔ RunR CP (
  .op (.mv (e 9)) fun t27 =>
  .op (.mv (e 10)) fun t28 =>
  .op (.mv (e 2)) fun t29 =>
  .op (.call 43 [t27, t28, t29]) fun t30 =>
  .op (.mv t30) fun t26 =>
  .op (.extract t26 0) fun t31 =>
  .op (.extract t26 1) fun t32 =>
  .op (.mv t31) fun t11 =>
  .op (.mv t32) fun t12 =>
  .done ((e.upd 11 t11).upd 12 t12)) h Q := Iff.rfl
def c40_r5 : Env → Reg := fun e =>
  .op (.mv (e 11)) fun t33 =>
  .op (.mv (e 12)) fun t34 =>
  .op (.mv t33) fun t6 =>
  .op (.mv t34) fun t7 =>
  .op (.mv (.bool true)) fun t8 =>
  .done (((e.upd 6 t6).upd 7 t7).upd 8 t8)
theorem c40_r5_run {CP : CProg} (e : Env) (h : Heap) (Q : Post) : RunR CP (c40_r5 e) h Q ↔ RunR CP (
  .op (.mv (e 11)) fun t33 =>
  .op (.mv (e 12)) fun t34 =>
  .op (.mv t33) fun t6 =>
  .op (.mv t34) fun t7 =>
  .op (.mv (.bool true)) fun t8 =>
  .done (((e.upd 6 t6).upd 7 t7).upd 8 t8)) h Q := Iff.rfl
def c40 : CFn := ⟨(.seq (.region c40_r0) (.seq (.region c40_r1) (.seq (.seq (.region c40_r2) (.cond (fun e => e 25) (.seq (.region c40_r3) .ret) .skip)) (.seq (.region c40_r4) (.seq (.region c40_r5) .ret))))), [.t 6, .t 7, .t 8]⟩
def p40 : Pers := ⟨13, [25], 35⟩
-- 41: math/bits.Mul64
def c41_r0 : Env → Reg := fun e =>
  .op (.mv (.int .u64 0)) fun t4 =>
  .op (.mv (.int .u64 0)) fun t5 =>
  .done ((e.upd 4 t4).upd 5 t5)
theorem c41_r0_run {CP : CProg} (e : Env) (h : Heap) (Q : Post) : RunR CP (c41_r0 e) h Q ↔ RunR CP (
  .op (.mv (.int .u64 0)) fun t4 =>
  .op (.mv (.int .u64 0)) fun t5 =>
  .done ((e.upd 4 t4).upd 5 t5)) h Q := Iff.rfl
def c41_r1 : Env → Reg := fun e =>
  .op (.mv (e 0)) fun t14 =>
  .op (.bin .and t14 (.int .u64 4294967295)) fun t15 =>
  .op (.mv t15) fun t6 =>
  .done (e.upd 6 t6)
theorem c41_r1_run {CP : CProg} (e : Env) (h : Heap) (Q : Post) : RunR CP (c41_r1 e) h Q ↔ RunR CP (
  .op (.mv (e 0)) fun t14 =>
  .op (.bin .and t14 (.int .u64 4294967295)) fun t15 =>
  .op (.mv t15) fun t6 =>
  .done (e.upd 6 t6)) h Q := Iff.rfl
def c41_r2 : Env → Reg := fun e =>
  .op (.mv (e 0)) fun t16 =>
  .op (.bin .shr t16 (.int .u64 32)) fun t17 =>
  .op (.mv t17) fun t7 =>
  .done (e.upd 7 t7)
theorem c41_r2_run {CP : CProg} (e : Env) (h : Heap) (Q : Post) : RunR CP (c41_r2 e) h Q ↔ RunR CP (
  .op (.mv (e 0)) fun t16 =>
  .op (.bin .shr t16 (.int .u64 32)) fun t17 =>
  .op (.mv t17) fun t7 =>
  .done (e.upd 7 t7)) h Q := Iff.rfl
def c41_r3 : Env → Reg := fun e =>
  .op (.mv (e 1)) fun t18 =>
  .op (.bin .and t18 (.int .u64 4294967295)) fun t19 =>
  .op (.mv t19) fun t8 =>
  .done (e.upd 8 t8)
theorem c41_r3_run {CP : CProg} (e : Env) (h : Heap) (Q : Post) : RunR CP (c41_r3 e) h Q ↔ RunR CP (
  .op (.mv (e 1)) fun t18 =>
  .op (.bin .and t18 (.int .u64 4294967295)) fun t19 =>
  .op (.mv t19) fun t8 =>
  .done (e.upd 8 t8)) h Q := Iff.rfl
def c41_r4 : Env → Reg := fun e =>
  .op (.mv (e 1)) fun t20 =>
  .op (.bin .shr t20 (.int .u64 32)) fun t21 =>
  .op (.mv t21) fun t9 =>
  .done (e.upd 9 t9)
theorem c41_r4_run {CP : CProg} (e : Env) (h : Heap) (Q : Post) : RunR CP (c41_r4 e) h Q ↔ RunR CP (
  .op (.mv (e 1)) fun t20 =>
  .op (.bin .shr t20 (.int .u64 32)) fun t21 =>
  .op (.mv t21) fun t9 =>
  .done (e.upd 9 t9)) h Q := Iff.rfl
def c41_r5 : Env → Reg := fun e =>
  .op (.mv (e 6)) fun t22 =>
  .op (.mv (e 8)) fun t23 =>
  .op (.bin .mul t22 t23) fun t24 =>
  .op (.mv t24) fun t10 =>
  .done (e.upd 10 t10)
theorem c41_r5_run {CP : CProg} (e : Env) (h : Heap) (Q : Post) : RunR CP (c41_r5 e) h Q ↔ RunR CP (
  .op (.mv (e 6)) fun t22 =>
  .op (.mv (e 8)) fun t23 =>
  .op (.bin .mul t22 t23) fun t24 =>
  .op (.mv t24) fun t10 =>
  .done (e.upd 10 t10)) h Q := Iff.rfl
def c41_r6 : Env → Reg := fun e =>
  .op (.mv (e 7)) fun t25 =>
  .op (.mv (e 8)) fun t26 =>
  .op (.bin .mul t25 t26) fun t27 =>
  .op (.mv (e 10)) fun t28 =>
  .op (.bin .shr t28 (.int .u64 32)) fun t29 =>
  .op (.bin .add t27 t29) fun t30 =>
  .op (.mv t30) fun t11 =>
  .done (e.upd 11 t11)
theorem c41_r6_run {CP : CProg} (e : Env) (h : Heap) (Q : Post) : RunR CP (c41_r6 e) h Q ↔ RunR CP (
  .op (.mv (e 7)) fun t25 =>
  .op (.mv (e 8)) fun t26 =>
  .op (.bin .mul t25 t26) fun t27 =>
  .op (.mv (e 10)) fun t28 =>
  .op (.bin .shr t28 (.int .u64 32)) fun t29 =>
  .op (.bin .add t27 t29) fun t30 =>
  .op (.mv t30) fun t11 =>
  .done (e.upd 11 t11)) h Q := Iff.rfl
def c41_r7 : Env → Reg := fun e =>
  .op (.mv (e 11)) fun t31 =>
  .op (.bin .and t31 (.int .u64 4294967295)) fun t32 =>
  .op (.mv t32) fun t12 =>
  .done (e.upd 12 t12)
theorem c41_r7_run {CP : CProg} (e : Env) (h : Heap) (Q : Post) : RunR CP (c41_r7 e) h Q ↔ RunR CP (
  .op (.mv (e 11)) fun t31 =>
  .op (.bin .and t31 (.int .u64 4294967295)) fun t32 =>
  .op (.mv t32) fun t12 =>
  .done (e.upd 12 t12)) h Q := Iff.rfl
def c41_r8 : Env → Reg := fun e =>
  .op (.mv (e 11)) fun t33 =>
  .op (.bin .shr t33 (.int .u64 32)) fun t34 =>
  .op (.mv t34) fun t13 =>
  .done (e.upd 13 t13)
theorem c41_r8_run {CP : CProg} (e : Env) (h : Heap) (Q : Post) : RunR CP (c41_r8 e) h Q ↔ RunR CP (
  .op (.mv (e 11)) fun t33 =>
  .op (.bin .shr t33 (.int .u64 32)) fun t34 =>
  .op (.mv t34) fun t13 =>
  .done (e.upd 13 t13)) h Q := Iff.rfl
def c41_r9 : Env → Reg := fun e =>
  .op (.mv (e 12)) fun t35 =>
  .op (.mv (e 6)) fun t36 =>
  .op (.mv (e 9)) fun t37 =>
  .op (.bin .mul t36 t37) fun t38 =>
  .op (.bin .add t35 t38) fun t39 =>
  .op (.mv t39) fun t12 =>
  .done (e.upd 12 t12)
theorem c41_r9_run {CP : CProg} (e : Env) (h : Heap) (Q : Post) : RunR CP (c41_r9 e) h Q ↔ RunR CP (
  .op (.mv (e 12)) fun t35 =>
  .op (.mv (e 6)) fun t36 =>
  .op (.mv (e 9)) fun t37 =>
  .op (.bin .mul t36 t37) fun t38 =>
  .op (.bin .add t35 t38) fun t39 =>
  .op (.mv t39) fun t12 =>
  .done (e.upd 12 t12)) h Q := Iff.rfl
def c41_r10 : Env → Reg := fun e =>
  .op (.mv (e 7)) fun t40 =>
  .op (.mv (e 9)) fun t41 =>
  .op (.bin .mul t40 t41) fun t42 =>
  .op (.mv (e 13)) fun t43 =>
  .op (.bin .add t42 t43) fun t44 =>
  .op (.mv (e 12)) fun t45 =>
  .op (.bin .shr t45 (.int .u64 32)) fun t46 =>
  .op (.bin .add t44 t46) fun t47 =>
  .op (.mv t47) fun t4 =>
  .done (e.upd 4 t4)
theorem c41_r10_run {CP : CProg} (e : Env) (h : Heap) (Q : Post) : RunR CP (c41_r10 e) h Q ↔ RunR CP (
  .op (.mv (e 7)) fun t40 =>
  .op (.mv (e 9)) fun t41 =>
  .op (.bin .mul t40 t41) fun t42 =>
  .op (.mv (e 13)) fun t43 =>
  .op (.bin .add t42 t43) fun t44 =>
  .op (.mv (e 12)) fun t45 =>
  .op (.bin .shr t45 (.int .u64 32)) fun t46 =>
  .op (.bin .add t44 t46) fun t47 =>
  .op (.mv t47) fun t4 =>
  .done (e.upd 4 t4)) h Q := Iff.rfl
def c41_r11 : Env → Reg := fun e =>
  .op (.mv (e 0)) fun t48 =>
  .op (.mv (e 1)) fun t49 =>
  .op (.bin .mul t48 t49) fun t50 =>
  .op (.mv t50) fun t5 =>
  .done (e.upd 5 t5)
theorem c41_r11_run {CP : CProg} (e : Env) (h : Heap) (Q : Post) : RunR CP (c41_r11 e) h Q ↔ RunR CP (
  .op (.mv (e 0)) fun t48 =>
  .op (.mv (e 1)) fun t49 =>
  .op (.bin .mul t48 t49) fun t50 =>
  .op (.mv t50) fun t5 =>
  .done (e.upd 5 t5)) h Q := Iff.rfl
def c41 : CFn := ⟨(.seq (.region c41_r0) (.seq (.region c41_r1) (.seq (.region c41_r2) (.seq (.region c41_r3) (.seq (.region c41_r4) (.seq (.region c41_r5) (.seq (.region c41_r6) (.seq (.region c41_r7) (.seq (.region c41_r8) (.seq (.region c41_r9) (.seq (.region c41_r10) (.seq (.region c41_r11) .ret)))))))))))), [.t 4, .t 5]⟩
def p41 : Pers := ⟨14, [], 51⟩
-- 42: weighbridge/weighbridgeref01.wide
def c42_r0 : Env → Reg := fun e =>
  .op (.mv (.int .u64 0)) fun t4 =>
  .op (.mv (.int .u64 0)) fun t5 =>
  .done ((e.upd 4 t4).upd 5 t5)
theorem c42_r0_run {CP : CProg} (e : Env) (h : Heap) (Q : Post) : RunR CP (c42_r0 e) h Q ↔ RunR CP (
  .op (.mv (.int .u64 0)) fun t4 =>
  .op (.mv (.int .u64 0)) fun t5 =>
  .done ((e.upd 4 t4).upd 5 t5)) h Q := Iff.rfl
def c42_r1 : Env → Reg := fun e =>
  .op (.mv (e 0)) fun t9 =>
  .op (.bin .and t9 (.int .u64 4294967295)) fun t10 =>
  .op (.mv (e 1)) fun t11 =>
  .op (.bin .and t11 (.int .u64 4294967295)) fun t12 =>
  .op (.bin .mul t10 t12) fun t13 =>
  .op (.mv t13) fun t6 =>
  .done (e.upd 6 t6)
theorem c42_r1_run {CP : CProg} (e : Env) (h : Heap) (Q : Post) : RunR CP (c42_r1 e) h Q ↔ RunR CP (
  .op (.mv (e 0)) fun t9 =>
  .op (.bin .and t9 (.int .u64 4294967295)) fun t10 =>
  .op (.mv (e 1)) fun t11 =>
  .op (.bin .and t11 (.int .u64 4294967295)) fun t12 =>
  .op (.bin .mul t10 t12) fun t13 =>
  .op (.mv t13) fun t6 =>
  .done (e.upd 6 t6)) h Q := Iff.rfl
def c42_r2 : Env → Reg := fun e =>
  .op (.mv (e 0)) fun t14 =>
  .op (.bin .shr t14 (.int .u64 32)) fun t15 =>
  .op (.mv (e 1)) fun t16 =>
  .op (.bin .and t16 (.int .u64 4294967295)) fun t17 =>
  .op (.bin .mul t15 t17) fun t18 =>
  .op (.mv (e 6)) fun t19 =>
  .op (.bin .shr t19 (.int .u64 32)) fun t20 =>
  .op (.bin .add t18 t20) fun t21 =>
  .op (.mv t21) fun t7 =>
  .done (e.upd 7 t7)
theorem c42_r2_run {CP : CProg} (e : Env) (h : Heap) (Q : Post) : RunR CP (c42_r2 e) h Q ↔ RunR CP (
  .op (.mv (e 0)) fun t14 =>
  .op (.bin .shr t14 (.int .u64 32)) fun t15 =>
  .op (.mv (e 1)) fun t16 =>
  .op (.bin .and t16 (.int .u64 4294967295)) fun t17 =>
  .op (.bin .mul t15 t17) fun t18 =>
  .op (.mv (e 6)) fun t19 =>
  .op (.bin .shr t19 (.int .u64 32)) fun t20 =>
  .op (.bin .add t18 t20) fun t21 =>
  .op (.mv t21) fun t7 =>
  .done (e.upd 7 t7)) h Q := Iff.rfl
def c42_r3 : Env → Reg := fun e =>
  .op (.mv (e 0)) fun t22 =>
  .op (.bin .and t22 (.int .u64 4294967295)) fun t23 =>
  .op (.mv (e 1)) fun t24 =>
  .op (.bin .shr t24 (.int .u64 32)) fun t25 =>
  .op (.bin .mul t23 t25) fun t26 =>
  .op (.mv (e 7)) fun t27 =>
  .op (.bin .and t27 (.int .u64 4294967295)) fun t28 =>
  .op (.bin .add t26 t28) fun t29 =>
  .op (.mv t29) fun t8 =>
  .done (e.upd 8 t8)
theorem c42_r3_run {CP : CProg} (e : Env) (h : Heap) (Q : Post) : RunR CP (c42_r3 e) h Q ↔ RunR CP (
  .op (.mv (e 0)) fun t22 =>
  .op (.bin .and t22 (.int .u64 4294967295)) fun t23 =>
  .op (.mv (e 1)) fun t24 =>
  .op (.bin .shr t24 (.int .u64 32)) fun t25 =>
  .op (.bin .mul t23 t25) fun t26 =>
  .op (.mv (e 7)) fun t27 =>
  .op (.bin .and t27 (.int .u64 4294967295)) fun t28 =>
  .op (.bin .add t26 t28) fun t29 =>
  .op (.mv t29) fun t8 =>
  .done (e.upd 8 t8)) h Q := Iff.rfl
def c42_r4_c1 (e : Env) (t37 : Value) : Reg :=
  .op (.mv (e 8)) fun t38 =>
  .op (.bin .shr t38 (.int .u64 32)) fun t39 =>
  .op (.bin .add t37 t39) fun t40 =>
  .op (.mv (e 8)) fun t41 =>
  .op (.bin .shl t41 (.int .u64 32)) fun t42 =>
  .op (.mv (e 6)) fun t43 =>
  .op (.bin .and t43 (.int .u64 4294967295)) fun t44 =>
  .op (.bin .or t42 t44) fun t45 =>
  .op (.mv t40) fun t4 =>
  .op (.mv t45) fun t5 =>
  .done ((e.upd 4 t4).upd 5 t5)
theorem c42_r4_c1_run {CP : CProg} (e : Env) (t37 : Value) (h : Heap) (Q : Post) : RunR CP (c42_r4_c1 e t37) h Q ↔ RunR CP (
  .op (.mv (e 8)) fun t38 =>
  .op (.bin .shr t38 (.int .u64 32)) fun t39 =>
  .op (.bin .add t37 t39) fun t40 =>
  .op (.mv (e 8)) fun t41 =>
  .op (.bin .shl t41 (.int .u64 32)) fun t42 =>
  .op (.mv (e 6)) fun t43 =>
  .op (.bin .and t43 (.int .u64 4294967295)) fun t44 =>
  .op (.bin .or t42 t44) fun t45 =>
  .op (.mv t40) fun t4 =>
  .op (.mv t45) fun t5 =>
  .done ((e.upd 4 t4).upd 5 t5)) h Q := Iff.rfl
def c42_r4 : Env → Reg := fun e =>
  .op (.mv (e 0)) fun t30 =>
  .op (.bin .shr t30 (.int .u64 32)) fun t31 =>
  .op (.mv (e 1)) fun t32 =>
  .op (.bin .shr t32 (.int .u64 32)) fun t33 =>
  .op (.bin .mul t31 t33) fun t34 =>
  .op (.mv (e 7)) fun t35 =>
  .op (.bin .shr t35 (.int .u64 32)) fun t36 =>
  .op (.bin .add t34 t36) fun t37 =>
  c42_r4_c1 e t37
theorem c42_r4_run {CP : CProg} (e : Env) (h : Heap) (Q : Post) : RunR CP (c42_r4 e) h Q ↔ RunR CP (
  .op (.mv (e 0)) fun t30 =>
  .op (.bin .shr t30 (.int .u64 32)) fun t31 =>
  .op (.mv (e 1)) fun t32 =>
  .op (.bin .shr t32 (.int .u64 32)) fun t33 =>
  .op (.bin .mul t31 t33) fun t34 =>
  .op (.mv (e 7)) fun t35 =>
  .op (.bin .shr t35 (.int .u64 32)) fun t36 =>
  .op (.bin .add t34 t36) fun t37 =>
  c42_r4_c1 e t37) h Q := Iff.rfl
def c42 : CFn := ⟨(.seq (.region c42_r0) (.seq (.region c42_r1) (.seq (.region c42_r2) (.seq (.region c42_r3) (.seq (.region c42_r4) .ret))))), [.t 4, .t 5]⟩
def p42 : Pers := ⟨9, [], 46⟩
-- 43: math/bits.Div64
def c43_r0 : Env → Reg := fun e =>
  .op (.mv (.int .u64 0)) fun t6 =>
  .op (.mv (.int .u64 0)) fun t7 =>
  .done ((e.upd 6 t6).upd 7 t7)
theorem c43_r0_run {CP : CProg} (e : Env) (h : Heap) (Q : Post) : RunR CP (c43_r0 e) h Q ↔ RunR CP (
  .op (.mv (.int .u64 0)) fun t6 =>
  .op (.mv (.int .u64 0)) fun t7 =>
  .done ((e.upd 6 t6).upd 7 t7)) h Q := Iff.rfl
def c43_r1 : Env → Reg := fun e =>
  .op (.mv (e 2)) fun t19 =>
  .op (.bin .eql t19 (.int .u64 0)) fun t20 =>
  .done (e.upd 20 t20)
theorem c43_r1_run {CP : CProg} (e : Env) (h : Heap) (Q : Post) : RunR CP (c43_r1 e) h Q ↔ RunR CP (
  .op (.mv (e 2)) fun t19 =>
  .op (.bin .eql t19 (.int .u64 0)) fun t20 =>
  .done (e.upd 20 t20)) h Q := Iff.rfl
def c43_r2 : Env → Reg := fun e =>
  .op (.load none unk) fun t21 =>
  .op (.bad) fun _ =>
  .done e
theorem c43_r2_run {CP : CProg} (e : Env) (h : Heap) (Q : Post) : RunR CP (c43_r2 e) h Q ↔ RunR CP (
  .op (.load none unk) fun t21 =>
  .op (.bad) fun _ =>
  .done e) h Q := Iff.rfl
def c43_r3 : Env → Reg := fun e =>
  .op (.mv (e 2)) fun t22 =>
  .op (.mv (e 0)) fun t23 =>
  .op (.bin .leq t22 t23) fun t24 =>
  .done (e.upd 24 t24)
theorem c43_r3_run {CP : CProg} (e : Env) (h : Heap) (Q : Post) : RunR CP (c43_r3 e) h Q ↔ RunR CP (
  .op (.mv (e 2)) fun t22 =>
  .op (.mv (e 0)) fun t23 =>
  .op (.bin .leq t22 t23) fun t24 =>
  .done (e.upd 24 t24)) h Q := Iff.rfl
def c43_r4 : Env → Reg := fun e =>
  .op (.load none unk) fun t25 =>
  .op (.bad) fun _ =>
  .done e
theorem c43_r4_run {CP : CProg} (e : Env) (h : Heap) (Q : Post) : RunR CP (c43_r4 e) h Q ↔ RunR CP (
  .op (.load none unk) fun t25 =>
  .op (.bad) fun _ =>
  .done e) h Q := Iff.rfl
def c43_r5 : Env → Reg := fun e =>
  .op (.mv (e 0)) fun t26 =>
  .op (.bin .eql t26 (.int .u64 0)) fun t27 =>
  .done (e.upd 27 t27)
theorem c43_r5_run {CP : CProg} (e : Env) (h : Heap) (Q : Post) : RunR CP (c43_r5 e) h Q ↔ RunR CP (
  .op (.mv (e 0)) fun t26 =>
  .op (.bin .eql t26 (.int .u64 0)) fun t27 =>
  .done (e.upd 27 t27)) h Q := Iff.rfl
def c43_r6 : Env → Reg := fun e =>
  .op (.mv (e 1)) fun t28 =>
  .op (.mv (e 2)) fun t29 =>
  .op (.bin .quo t28 t29) fun t30 =>
  .op (.mv (e 1)) fun t31 =>
  .op (.mv (e 2)) fun t32 =>
  .op (.bin .rem t31 t32) fun t33 =>
  .op (.mv t30) fun t6 =>
  .op (.mv t33) fun t7 =>
  .done ((e.upd 6 t6).upd 7 t7)
theorem c43_r6_run {CP : CProg} (e : Env) (h : Heap) (Q : Post) : RunR CP (c43_r6 e) h Q ↔ RunR CP (
  .op (.mv (e 1)) fun t28 =>
  .op (.mv (e 2)) fun t29 =>
  .op (.bin .quo t28 t29) fun t30 =>
  .op (.mv (e 1)) fun t31 =>
  .op (.mv (e 2)) fun t32 =>
  .op (.bin .rem t31 t32) fun t33 =>
  .op (.mv t30) fun t6 =>
  .op (.mv t33) fun t7 =>
  .done ((e.upd 6 t6).upd 7 t7)) h Q := Iff.rfl
def c43_r7 : Env → Reg := fun e =>
  .op (.mv (e 2)) fun t34 =>
  .op (.call 44 [t34]) fun t35 =>
  .op (.conv .u64 t35) fun t36 =>
  .op (.mv t36) fun t8 =>
  .done (e.upd 8 t8)
theorem c43_r7_run {CP : CProg} (e : Env) (h : Heap) (Q : Post) : RunR CP (c43_r7 e) h Q ↔ RunR CP (
  .op (.mv (e 2)) fun t34 =>
  .op (.call 44 [t34]) fun t35 =>
  .op (.conv .u64 t35) fun t36 =>
  .op (.mv t36) fun t8 =>
  .done (e.upd 8 t8)) h Q := Iff.rfl
def c43_r8 : Env → Reg := fun e =>
  .op (.mv (e 2)) fun t37 =>
  .op (.mv (e 8)) fun t38 =>
  .op (.bin .shl t37 t38) fun t39 =>
  .op (.mv t39) fun t2 =>
  .done (e.upd 2 t2)
theorem c43_r8_run {CP : CProg} (e : Env) (h : Heap) (Q : Post) : RunR CP (c43_r8 e) h Q ↔ RunR CP (
  .op (.mv (e 2)) fun t37 =>
  .op (.mv (e 8)) fun t38 =>
  .op (.bin .shl t37 t38) fun t39 =>
  .op (.mv t39) fun t2 =>
  .done (e.upd 2 t2)) h Q := Iff.rfl
def c43_r9 : Env → Reg := fun e =>
  .op (.mv (e 2)) fun t40 =>
  .op (.bin .shr t40 (.int .u64 32)) fun t41 =>
  .op (.mv t41) fun t9 =>
  .done (e.upd 9 t9)
theorem c43_r9_run {CP : CProg} (e : Env) (h : Heap) (Q : Post) : RunR CP (c43_r9 e) h Q ↔ RunR CP (
  .op (.mv (e 2)) fun t40 =>
  .op (.bin .shr t40 (.int .u64 32)) fun t41 =>
  .op (.mv t41) fun t9 =>
  .done (e.upd 9 t9)) h Q := Iff.rfl
def c43_r10 : Env → Reg := fun e =>
  .op (.mv (e 2)) fun t42 =>
  .op (.bin .and t42 (.int .u64 4294967295)) fun t43 =>
  .op (.mv t43) fun t10 =>
  .done (e.upd 10 t10)
theorem c43_r10_run {CP : CProg} (e : Env) (h : Heap) (Q : Post) : RunR CP (c43_r10 e) h Q ↔ RunR CP (
  .op (.mv (e 2)) fun t42 =>
  .op (.bin .and t42 (.int .u64 4294967295)) fun t43 =>
  .op (.mv t43) fun t10 =>
  .done (e.upd 10 t10)) h Q := Iff.rfl
def c43_r11 : Env → Reg := fun e =>
  .op (.mv (e 0)) fun t44 =>
  .op (.mv (e 8)) fun t45 =>
  .op (.bin .shl t44 t45) fun t46 =>
  .op (.mv (e 1)) fun t47 =>
  .op (.mv (e 8)) fun t48 =>
  .op (.bin .sub (.int .u64 64) t48) fun t49 =>
  .op (.bin .shr t47 t49) fun t50 =>
  .op (.bin .or t46 t50) fun t51 =>
  .op (.mv t51) fun t11 =>
  .done (e.upd 11 t11)
theorem c43_r11_run {CP : CProg} (e : Env) (h : Heap) (Q : Post) : RunR CP (c43_r11 e) h Q ↔ RunR CP (
  .op (.mv (e 0)) fun t44 =>
  .op (.mv (e 8)) fun t45 =>
  .op (.bin .shl t44 t45) fun t46 =>
  .op (.mv (e 1)) fun t47 =>
  .op (.mv (e 8)) fun t48 =>
  .op (.bin .sub (.int .u64 64) t48) fun t49 =>
  .op (.bin .shr t47 t49) fun t50 =>
  .op (.bin .or t46 t50) fun t51 =>
  .op (.mv t51) fun t11 =>
  .done (e.upd 11 t11)) h Q := Iff.rfl
def c43_r12 : Env → Reg := fun e =>
  .op (.mv (e 1)) fun t52 =>
  .op (.mv (e 8)) fun t53 =>
  .op (.bin .shl t52 t53) fun t54 =>
  .op (.mv t54) fun t12 =>
  .done (e.upd 12 t12)
theorem c43_r12_run {CP : CProg} (e : Env) (h : Heap) (Q : Post) : RunR CP (c43_r12 e) h Q ↔ RunR CP (
  .op (.mv (e 1)) fun t52 =>
  .op (.mv (e 8)) fun t53 =>
  .op (.bin .shl t52 t53) fun t54 =>
  .op (.mv t54) fun t12 =>
  .done (e.upd 12 t12)) h Q := Iff.rfl
def c43_r13 : Env → Reg := fun e =>
  .op (.mv (e 12)) fun t55 =>
  .op (.bin .shr t55 (.int .u64 32)) fun t56 =>
  .op (.mv t56) fun t13 =>
  .done (e.upd 13 t13)
theorem c43_r13_run {CP : CProg} (e : Env) (h : Heap) (Q : Post) : RunR CP (c43_r13 e) h Q ↔ RunR CP (
  .op (.mv (e 12)) fun t55 =>
  .op (.bin .shr t55 (.int .u64 32)) fun t56 =>
  .op (.mv t56) fun t13 =>
  .done (e.upd 13 t13)) h Q := Iff.rfl
def c43_r14 : Env → Reg := fun e =>
  .op (.mv (e 12)) fun t57 =>
  .op (.bin .and t57 (.int .u64 4294967295)) fun t58 =>
  .op (.mv t58) fun t14 =>
  .done (e.upd 14 t14)
theorem c43_r14_run {CP : CProg} (e : Env) (h : Heap) (Q : Post) : RunR CP (c43_r14 e) h Q ↔ RunR CP (
  .op (.mv (e 12)) fun t57 =>
  .op (.bin .and t57 (.int .u64 4294967295)) fun t58 =>
  .op (.mv t58) fun t14 =>
  .done (e.upd 14 t14)) h Q := Iff.rfl
def c43_r15 : Env → Reg := fun e =>
  .op (.mv (e 11)) fun t59 =>
  .op (.mv (e 9)) fun t60 =>
  .op (.bin .quo t59 t60) fun t61 =>
  .op (.mv t61) fun t15 =>
  .done (e.upd 15 t15)
theorem c43_r15_run {CP : CProg} (e : Env) (h : Heap) (Q : Post) : RunR CP (c43_r15 e) h Q ↔ RunR CP (
  .op (.mv (e 11)) fun t59 =>
  .op (.mv (e 9)) fun t60 =>
  .op (.bin .quo t59 t60) fun t61 =>
  .op (.mv t61) fun t15 =>
  .done (e.upd 15 t15)) h Q := Iff.rfl
def c43_r16 : Env → Reg := fun e =>
  .op (.mv (e 11)) fun t62 =>
  .op (.mv (e 15)) fun t63 =>
  .op (.mv (e 9)) fun t64 =>
  .op (.bin .mul t63 t64) fun t65 =>
  .op (.bin .sub t62 t65) fun t66 =>
  .op (.mv t66) fun t16 =>
  .done (e.upd 16 t16)
theorem c43_r16_run {CP : CProg} (e : Env) (h : Heap) (Q : Post) : RunR CP (c43_r16 e) h Q ↔ RunR CP (
  .op (.mv (e 11)) fun t62 =>
  .op (.mv (e 15)) fun t63 =>
  .op (.mv (e 9)) fun t64 =>
  .op (.bin .mul t63 t64) fun t65 =>
  .op (.bin .sub t62 t65) fun t66 =>
  .op (.mv t66) fun t16 =>
  .done (e.upd 16 t16)) h Q := Iff.rfl
def c43_r17_c1 (e : Env) (t69 : Value) (t72 : Value) (t74 : Value) : Reg :=
  .opg t69 false (.mv (e 13)) fun t75 =>
  .opg t69 false (.bin .add t74 t75) fun t76 =>
  .opg t69 false (.bin .gtr t72 t76) fun t77 =>
  .op (.pick t69 (.bool true) t77) fun t78 =>
  .done (e.upd 78 t78)
theorem c43_r17_c1_run {CP : CProg} (e : Env) (t69 : Value) (t72 : Value) (t74 : Value) (h : Heap) (Q : Post) : RunR CP (c43_r17_c1 e t69 t72 t74) h Q ↔ RunR CP (
  .opg t69 false (.mv (e 13)) fun t75 =>
  .opg t69 false (.bin .add t74 t75) fun t76 =>
  .opg t69 false (.bin .gtr t72 t76) fun t77 =>
  .op (.pick t69 (.bool true) t77) fun t78 =>
  .done (e.upd 78 t78)) h Q := Iff.rfl
def c43_r17 : Env → Reg := fun e =>
  .op (.mv (e 15)) fun t67 =>
  .op (.bin .geq t67 (.int .u64 4294967296)) fun t68 =>
  .op (.mv t68) fun t69 =>
  .opg t69 false (.mv (e 15)) fun t70 =>
  .opg t69 false (.mv (e 10)) fun t71 =>
  .opg t69 false (.bin .mul t70 t71) fun t72 =>
  .opg t69 false (.mv (e 16)) fun t73 =>
  .opg t69 false (.bin .mul (.int .u64 4294967296) t73) fun t74 =>
  c43_r17_c1 e t69 t72 t74
theorem c43_r17_run {CP : CProg} (e : Env) (h : Heap) (Q : Post) : RunR CP (c43_r17 e) h Q ↔ RunR CP (
  .op (.mv (e 15)) fun t67 =>
  .op (.bin .geq t67 (.int .u64 4294967296)) fun t68 =>
  .op (.mv t68) fun t69 =>
  .opg t69 false (.mv (e 15)) fun t70 =>
  .opg t69 false (.mv (e 10)) fun t71 =>
  .opg t69 false (.bin .mul t70 t71) fun t72 =>
  .opg t69 false (.mv (e 16)) fun t73 =>
  .opg t69 false (.bin .mul (.int .u64 4294967296) t73) fun t74 =>
  c43_r17_c1 e t69 t72 t74) h Q := Iff.rfl
def c43_r18 : Env → Reg := fun e =>
  .op (.mv (e 15)) fun t79 =>
  .op (.bin .sub t79 (.int .u64 1)) fun t80 =>
  .op (.mv t80) fun t15 =>
  .done (e.upd 15 t15)
theorem c43_r18_run {CP : CProg} (e : Env) (h : Heap) (Q : Post) : RunR CP (c43_r18 e) h Q ↔ RunR CP (
  .op (.mv (e 15)) fun t79 =>
  .op (.bin .sub t79 (.int .u64 1)) fun t80 =>
  .op (.mv t80) fun t15 =>
  .done (e.upd 15 t15)) h Q := Iff.rfl
def c43_r19 : Env → Reg := fun e =>
  .op (.mv (e 16)) fun t81 =>
  .op (.mv (e 9)) fun t82 =>
  .op (.bin .add t81 t82) fun t83 =>
  .op (.mv t83) fun t16 =>
  .done (e.upd 16 t16)
theorem c43_r19_run {CP : CProg} (e : Env) (h : Heap) (Q : Post) : RunR CP (c43_r19 e) h Q ↔ RunR CP (
  .op (.mv (e 16)) fun t81 =>
  .op (.mv (e 9)) fun t82 =>
  .op (.bin .add t81 t82) fun t83 =>
  .op (.mv t83) fun t16 =>
  .done (e.upd 16 t16)) h Q := Iff.rfl
def c43_r20 : Env → Reg := fun e =>
  .op (.mv (e 16)) fun t84 =>
  .op (.bin .geq t84 (.int .u64 4294967296)) fun t85 =>
  .done (e.upd 85 t85)
theorem c43_r20_run {CP : CProg} (e : Env) (h : Heap) (Q : Post) : RunR CP (c43_r20 e) h Q ↔ RunR CP (
  .op (.mv (e 16)) fun t84 =>
  .op (.bin .geq t84 (.int .u64 4294967296)) fun t85 =>
  .done (e.upd 85 t85)) h Q := Iff.rfl
def c43_l0 : CC := (.seq (.seq (.region c43_r17) (.cond (fun e => e 78) .skip (.exit 0))) (.block 1 (.seq (.region c43_r18) (.seq (.region c43_r19) (.seq (.region c43_r20) (.cond (fun e => e 85) (.exit 0) .skip))))))
def c43_r21 : Env → Reg := fun e =>
  .op (.mv (e 11)) fun t86 =>
  .op (.bin .mul t86 (.int .u64 4294967296)) fun t87 =>
  .op (.mv (e 13)) fun t88 =>
  .op (.bin .add t87 t88) fun t89 =>
  .op (.mv (e 15)) fun t90 =>
  .op (.mv (e 2)) fun t91 =>
  .op (.bin .mul t90 t91) fun t92 =>
  .op (.bin .sub t89 t92) fun t93 =>
  .op (.mv t93) fun t17 =>
  .done (e.upd 17 t17)
theorem c43_r21_run {CP : CProg} (e : Env) (h : Heap) (Q : Post) : RunR CP (c43_r21 e) h Q ↔ RunR CP (
  .op (.mv (e 11)) fun t86 =>
  .op (.bin .mul t86 (.int .u64 4294967296)) fun t87 =>
  .op (.mv (e 13)) fun t88 =>
  .op (.bin .add t87 t88) fun t89 =>
  .op (.mv (e 15)) fun t90 =>
  .op (.mv (e 2)) fun t91 =>
  .op (.bin .mul t90 t91) fun t92 =>
  .op (.bin .sub t89 t92) fun t93 =>
  .op (.mv t93) fun t17 =>
  .done (e.upd 17 t17)) h Q := Iff.rfl
def c43_r22 : Env → Reg := fun e =>
  .op (.mv (e 17)) fun t94 =>
  .op (.mv (e 9)) fun t95 =>
  .op (.bin .quo t94 t95) fun t96 =>
  .op (.mv t96) fun t18 =>
  .done (e.upd 18 t18)
theorem c43_r22_run {CP : CProg} (e : Env) (h : Heap) (Q : Post) : RunR CP (c43_r22 e) h Q ↔ RunR CP (
  .op (.mv (e 17)) fun t94 =>
  .op (.mv (e 9)) fun t95 =>
  .op (.bin .quo t94 t95) fun t96 =>
  .op (.mv t96) fun t18 =>
  .done (e.upd 18 t18)) h Q := Iff.rfl
def c43_r23 : Env → Reg := fun e =>
  .op (.mv (e 17)) fun t97 =>
  .op (.mv (e 18)) fun t98 =>
  .op (.mv (e 9)) fun t99 =>
  .op (.bin .mul t98 t99) fun t100 =>
  .op (.bin .sub t97 t100) fun t101 =>
  .op (.mv t101) fun t16 =>
  .done (e.upd 16 t16)
theorem c43_r23_run {CP : CProg} (e : Env) (h : Heap) (Q : Post) : RunR CP (c43_r23 e) h Q ↔ RunR CP (
  .op (.mv (e 17)) fun t97 =>
  .op (.mv (e 18)) fun t98 =>
  .op (.mv (e 9)) fun t99 =>
  .op (.bin .mul t98 t99) fun t100 =>
  .op (.bin .sub t97 t100) fun t101 =>
  .op (.mv t101) fun t16 =>
  .done (e.upd 16 t16)) h Q := Iff.rfl
def c43_r24_c1 (e : Env) (t104 : Value) (t107 : Value) (t109 : Value) : Reg :=
  .opg t104 false (.mv (e 14)) fun t110 =>
  .opg t104 false (.bin .add t109 t110) fun t111 =>
  .opg t104 false (.bin .gtr t107 t111) fun t112 =>
  .op (.pick t104 (.bool true) t112) fun t113 =>
  .done (e.upd 113 t113)
theorem c43_r24_c1_run {CP : CProg} (e : Env) (t104 : Value) (t107 : Value) (t109 : Value) (h : Heap) (Q : Post) : RunR CP (c43_r24_c1 e t104 t107 t109) h Q ↔ RunR CP (
  .opg t104 false (.mv (e 14)) fun t110 =>
  .opg t104 false (.bin .add t109 t110) fun t111 =>
  .opg t104 false (.bin .gtr t107 t111) fun t112 =>
  .op (.pick t104 (.bool true) t112) fun t113 =>
  .done (e.upd 113 t113)) h Q := Iff.rfl
def c43_r24 : Env → Reg := fun e =>
  .op (.mv (e 18)) fun t102 =>
  .op (.bin .geq t102 (.int .u64 4294967296)) fun t103 =>
  .op (.mv t103) fun t104 =>
  .opg t104 false (.mv (e 18)) fun t105 =>
  .opg t104 false (.mv (e 10)) fun t106 =>
  .opg t104 false (.bin .mul t105 t106) fun t107 =>
  .opg t104 false (.mv (e 16)) fun t108 =>
  .opg t104 false (.bin .mul (.int .u64 4294967296) t108) fun t109 =>
  c43_r24_c1 e t104 t107 t109
theorem c43_r24_run {CP : CProg} (e : Env) (h : Heap) (Q : Post) : RunR CP (c43_r24 e) h Q ↔ RunR CP (
  .op (.mv (e 18)) fun t102 =>
  .op (.bin .geq t102 (.int .u64 4294967296)) fun t103 =>
  .op (.mv t103) fun t104 =>
  .opg t104 false (.mv (e 18)) fun t105 =>
  .opg t104 false (.mv (e 10)) fun t106 =>
  .opg t104 false (.bin .mul t105 t106) fun t107 =>
  .opg t104 false (.mv (e 16)) fun t108 =>
  .opg t104 false (.bin .mul (.int .u64 4294967296) t108) fun t109 =>
  c43_r24_c1 e t104 t107 t109) h Q := Iff.rfl
def c43_r25 : Env → Reg := fun e =>
  .op (.mv (e 18)) fun t114 =>
  .op (.bin .sub t114 (.int .u64 1)) fun t115 =>
  .op (.mv t115) fun t18 =>
  .done (e.upd 18 t18)
theorem c43_r25_run {CP : CProg} (e : Env) (h : Heap) (Q : Post) : RunR CP (c43_r25 e) h Q ↔ RunR CP (
  .op (.mv (e 18)) fun t114 =>
  .op (.bin .sub t114 (.int .u64 1)) fun t115 =>
  .op (.mv t115) fun t18 =>
  .done (e.upd 18 t18)) h Q := Iff.rfl
def c43_r26 : Env → Reg := fun e =>
  .op (.mv (e 16)) fun t116 =>
  .op (.mv (e 9)) fun t117 =>
  .op (.bin .add t116 t117) fun t118 =>
  .op (.mv t118) fun t16 =>
  .done (e.upd 16 t16)
theorem c43_r26_run {CP : CProg} (e : Env) (h : Heap) (Q : Post) : RunR CP (c43_r26 e) h Q ↔ RunR CP (
  .op (.mv (e 16)) fun t116 =>
  .op (.mv (e 9)) fun t117 =>
  .op (.bin .add t116 t117) fun t118 =>
  .op (.mv t118) fun t16 =>
  .done (e.upd 16 t16)) h Q := Iff.rfl
def c43_r27 : Env → Reg := fun e =>
  .op (.mv (e 16)) fun t119 =>
  .op (.bin .geq t119 (.int .u64 4294967296)) fun t120 =>
  .done (e.upd 120 t120)
theorem c43_r27_run {CP : CProg} (e : Env) (h : Heap) (Q : Post) : RunR CP (c43_r27 e) h Q ↔ RunR CP (
  .op (.mv (e 16)) fun t119 =>
  .op (.bin .geq t119 (.int .u64 4294967296)) fun t120 =>
  .done (e.upd 120 t120)) h Q := Iff.rfl
def c43_l1 : CC := (.seq (.seq (.region c43_r24) (.cond (fun e => e 113) .skip (.exit 2))) (.block 3 (.seq (.region c43_r25) (.seq (.region c43_r26) (.seq (.region c43_r27) (.cond (fun e => e 120) (.exit 2) .skip))))))
def c43_r28_c1 (e : Env) (t124 : Value) (t128 : Value) : Reg :=
  .op (.mv (e 18)) fun t129 =>
  .op (.mv (e 2)) fun t130 =>
  .op (.bin .mul t129 t130) fun t131 =>
  .op (.bin .sub t128 t131) fun t132 =>
  .op (.mv (e 8)) fun t133 =>
  .op (.bin .shr t132 t133) fun t134 =>
  .op (.mv t124) fun t6 =>
  .op (.mv t134) fun t7 =>
  .done ((e.upd 6 t6).upd 7 t7)
theorem c43_r28_c1_run {CP : CProg} (e : Env) (t124 : Value) (t128 : Value) (h : Heap) (Q : Post) : RunR CP (c43_r28_c1 e t124 t128) h Q ↔ RunR CP (
  .op (.mv (e 18)) fun t129 =>
  .op (.mv (e 2)) fun t130 =>
  .op (.bin .mul t129 t130) fun t131 =>
  .op (.bin .sub t128 t131) fun t132 =>
  .op (.mv (e 8)) fun t133 =>
  .op (.bin .shr t132 t133) fun t134 =>
  .op (.mv t124) fun t6 =>
  .op (.mv t134) fun t7 =>
  .done ((e.upd 6 t6).upd 7 t7)) h Q := Iff.rfl
def c43_r28 : Env → Reg := fun e =>
  .op (.mv (e 15)) fun t121 =>
  .op (.bin .mul t121 (.int .u64 4294967296)) fun t122 =>
  .op (.mv (e 18)) fun t123 =>
  .op (.bin .add t122 t123) fun t124 =>
  .op (.mv (e 17)) fun t125 =>
  .op (.bin .mul t125 (.int .u64 4294967296)) fun t126 =>
  .op (.mv (e 14)) fun t127 =>
  .op (.bin .add t126 t127) fun t128 =>
  c43_r28_c1 e t124 t128
theorem c43_r28_run {CP : CProg} (e : Env) (h : Heap) (Q : Post) : RunR CP (c43_r28 e) h Q ↔ RunR CP (
  .op (.mv (e 15)) fun t121 =>
  .op (.bin .mul t121 (.int .u64 4294967296)) fun t122 =>
  .op (.mv (e 18)) fun t123 =>
  .op (.bin .add t122 t123) fun t124 =>
  .op (.mv (e 17)) fun t125 =>
  .op (.bin .mul t125 (.int .u64 4294967296)) fun t126 =>
  .op (.mv (e 14)) fun t127 =>
  .op (.bin .add t126 t127) fun t128 =>
  c43_r28_c1 e t124 t128) h Q := Iff.rfl
def c43 : CFn := ⟨(.seq (.region c43_r0) (.seq (.seq (.region c43_r1) (.cond (fun e => e 20) (.region c43_r2) .skip)) (.seq (.seq (.region c43_r3) (.cond (fun e => e 24) (.region c43_r4) .skip)) (.seq (.seq (.region c43_r5) (.cond (fun e => e 27) (.seq (.region c43_r6) .ret) .skip)) (.seq (.region c43_r7) (.seq (.region c43_r8) (.seq (.region c43_r9) (.seq (.region c43_r10) (.seq (.region c43_r11) (.seq (.region c43_r12) (.seq (.region c43_r13) (.seq (.region c43_r14) (.seq (.region c43_r15) (.seq (.region c43_r16) (.seq (.block 0 (.loop c43_l0)) (.seq (.region c43_r21) (.seq (.region c43_r22) (.seq (.region c43_r23) (.seq (.block 2 (.loop c43_l1)) (.seq (.region c43_r28) .ret)))))))))))))))))))), [.t 6, .t 7]⟩
def p43 : Pers := ⟨19, [20, 24, 27, 78, 85, 113, 120], 135⟩
-- 44: math/bits.LeadingZeros64
def c44_r0 : Env → Reg := fun e =>
  .op (.mv (.int .i64 0)) fun t2 =>
  .done (e.upd 2 t2)
theorem c44_r0_run {CP : CProg} (e : Env) (h : Heap) (Q : Post) : RunR CP (c44_r0 e) h Q ↔ RunR CP (
  .op (.mv (.int .i64 0)) fun t2 =>
  .done (e.upd 2 t2)) h Q := Iff.rfl
def c44_r1 : Env → Reg := fun e =>
  .op (.mv (e 0)) fun t3 =>
  .op (.call 45 [t3]) fun t4 =>
  .op (.bin .sub (.int .i64 64) t4) fun t5 =>
  .op (.mv t5) fun t2 =>
  .done (e.upd 2 t2)
theorem c44_r1_run {CP : CProg} (e : Env) (h : Heap) (Q : Post) : RunR CP (c44_r1 e) h Q ↔ RunR CP (
  .op (.mv (e 0)) fun t3 =>
  .op (.call 45 [t3]) fun t4 =>
  .op (.bin .sub (.int .i64 64) t4) fun t5 =>
  .op (.mv t5) fun t2 =>
  .done (e.upd 2 t2)) h Q := Iff.rfl
def c44 : CFn := ⟨(.seq (.region c44_r0) (.seq (.region c44_r1) .ret)), [.t 2]⟩
def p44 : Pers := ⟨3, [], 6⟩
-- 45: math/bits.Len64
def c45_r0 : Env → Reg := fun e =>
  .op (.mv (.int .i64 0)) fun t2 =>
  .done (e.upd 2 t2)
theorem c45_r0_run {CP : CProg} (e : Env) (h : Heap) (Q : Post) : RunR CP (c45_r0 e) h Q ↔ RunR CP (
  .op (.mv (.int .i64 0)) fun t2 =>
  .done (e.upd 2 t2)) h Q := Iff.rfl
def c45_r1 : Env → Reg := fun e =>
  .op (.mv (e 0)) fun t3 =>
  .op (.bin .geq t3 (.int .u64 4294967296)) fun t4 =>
  .done (e.upd 4 t4)
theorem c45_r1_run {CP : CProg} (e : Env) (h : Heap) (Q : Post) : RunR CP (c45_r1 e) h Q ↔ RunR CP (
  .op (.mv (e 0)) fun t3 =>
  .op (.bin .geq t3 (.int .u64 4294967296)) fun t4 =>
  .done (e.upd 4 t4)) h Q := Iff.rfl
def c45_r2 : Env → Reg := fun e =>
  .op (.mv (e 0)) fun t5 =>
  .op (.bin .shr t5 (.int .u64 32)) fun t6 =>
  .op (.mv t6) fun t0 =>
  .done (e.upd 0 t0)
theorem c45_r2_run {CP : CProg} (e : Env) (h : Heap) (Q : Post) : RunR CP (c45_r2 e) h Q ↔ RunR CP (
  .op (.mv (e 0)) fun t5 =>
  .op (.bin .shr t5 (.int .u64 32)) fun t6 =>
  .op (.mv t6) fun t0 =>
  .done (e.upd 0 t0)) h Q := Iff.rfl
def c45_r3 : Env → Reg := fun e =>
  .op (.mv (.int .i64 32)) fun t2 =>
  .done (e.upd 2 t2)
theorem c45_r3_run {CP : CProg} (e : Env) (h : Heap) (Q : Post) : RunR CP (c45_r3 e) h Q ↔ RunR CP (
  .op (.mv (.int .i64 32)) fun t2 =>
  .done (e.upd 2 t2)) h Q := Iff.rfl
def c45_r4 : Env → Reg := fun e =>
  .op (.mv (e 0)) fun t7 =>
  .op (.bin .geq t7 (.int .u64 65536)) fun t8 =>
  .done (e.upd 8 t8)
theorem c45_r4_run {CP : CProg} (e : Env) (h : Heap) (Q : Post) : RunR CP (c45_r4 e) h Q ↔ RunR CP (
  .op (.mv (e 0)) fun t7 =>
  .op (.bin .geq t7 (.int .u64 65536)) fun t8 =>
  .done (e.upd 8 t8)) h Q := Iff.rfl
def c45_r5 : Env → Reg := fun e =>
  .op (.mv (e 0)) fun t9 =>
  .op (.bin .shr t9 (.int .u64 16)) fun t10 =>
  .op (.mv t10) fun t0 =>
  .done (e.upd 0 t0)
theorem c45_r5_run {CP : CProg} (e : Env) (h : Heap) (Q : Post) : RunR CP (c45_r5 e) h Q ↔ RunR CP (
  .op (.mv (e 0)) fun t9 =>
  .op (.bin .shr t9 (.int .u64 16)) fun t10 =>
  .op (.mv t10) fun t0 =>
  .done (e.upd 0 t0)) h Q := Iff.rfl
def c45_r6 : Env → Reg := fun e =>
  .op (.mv (e 2)) fun t11 =>
  .op (.bin .add t11 (.int .i64 16)) fun t12 =>
  .op (.mv t12) fun t2 =>
  .done (e.upd 2 t2)
theorem c45_r6_run {CP : CProg} (e : Env) (h : Heap) (Q : Post) : RunR CP (c45_r6 e) h Q ↔ RunR CP (
  .op (.mv (e 2)) fun t11 =>
  .op (.bin .add t11 (.int .i64 16)) fun t12 =>
  .op (.mv t12) fun t2 =>
  .done (e.upd 2 t2)) h Q := Iff.rfl
def c45_r7 : Env → Reg := fun e =>
  .op (.mv (e 0)) fun t13 =>
  .op (.bin .geq t13 (.int .u64 256)) fun t14 =>
  .done (e.upd 14 t14)
theorem c45_r7_run {CP : CProg} (e : Env) (h : Heap) (Q : Post) : RunR CP (c45_r7 e) h Q ↔ RunR CP (
  .op (.mv (e 0)) fun t13 =>
  .op (.bin .geq t13 (.int .u64 256)) fun t14 =>
  .done (e.upd 14 t14)) h Q := Iff.rfl
def c45_r8 : Env → Reg := fun e =>
  .op (.mv (e 0)) fun t15 =>
  .op (.bin .shr t15 (.int .u64 8)) fun t16 =>
  .op (.mv t16) fun t0 =>
  .done (e.upd 0 t0)
theorem c45_r8_run {CP : CProg} (e : Env) (h : Heap) (Q : Post) : RunR CP (c45_r8 e) h Q ↔ RunR CP (
  .op (.mv (e 0)) fun t15 =>
  .op (.bin .shr t15 (.int .u64 8)) fun t16 =>
  .op (.mv t16) fun t0 =>
  .done (e.upd 0 t0)) h Q := Iff.rfl
def c45_r9 : Env → Reg := fun e =>
  .op (.mv (e 2)) fun t17 =>
  .op (.bin .add t17 (.int .i64 8)) fun t18 =>
  .op (.mv t18) fun t2 =>
  .done (e.upd 2 t2)
theorem c45_r9_run {CP : CProg} (e : Env) (h : Heap) (Q : Post) : RunR CP (c45_r9 e) h Q ↔ RunR CP (
  .op (.mv (e 2)) fun t17 =>
  .op (.bin .add t17 (.int .i64 8)) fun t18 =>
  .op (.mv t18) fun t2 =>
  .done (e.upd 2 t2)) h Q := Iff.rfl
def c45_r10 : Env → Reg := fun e =>
  .op (.mv (e 2)) fun t19 =>
  .op (.mv (e 0)) fun t20 =>
  .op (.conv .u8 t20) fun t21 =>
  .op (.indexStr (.string big0) t21) fun t22 =>
  .op (.conv .i64 t22) fun t23 =>
  .op (.bin .add t19 t23) fun t24 =>
  .op (.mv t24) fun t2 =>
  .done (e.upd 2 t2)
theorem c45_r10_run {CP : CProg} (e : Env) (h : Heap) (Q : Post) : RunR CP (c45_r10 e) h Q ↔ RunR CP (
  .op (.mv (e 2)) fun t19 =>
  .op (.mv (e 0)) fun t20 =>
  .op (.conv .u8 t20) fun t21 =>
  .op (.indexStr (.string big0) t21) fun t22 =>
  .op (.conv .i64 t22) fun t23 =>
  .op (.bin .add t19 t23) fun t24 =>
  .op (.mv t24) fun t2 =>
  .done (e.upd 2 t2)) h Q := Iff.rfl
def c45 : CFn := ⟨(.seq (.region c45_r0) (.seq (.seq (.region c45_r1) (.cond (fun e => e 4) (.seq (.region c45_r2) (.region c45_r3)) .skip)) (.seq (.seq (.region c45_r4) (.cond (fun e => e 8) (.seq (.region c45_r5) (.region c45_r6)) .skip)) (.seq (.seq (.region c45_r7) (.cond (fun e => e 14) (.seq (.region c45_r8) (.region c45_r9)) .skip)) (.seq (.region c45_r10) .ret))))), [.t 2]⟩
def p45 : Pers := ⟨3, [4, 8, 14], 25⟩
def cp : CProg
  | 3 => some c3
  | 4 => some c4
  | 5 => some c5
  | 6 => some c6
  | 7 => some c7
  | 8 => some c8
  | 9 => some c9
  | 10 => some c10
  | 11 => some c11
  | 12 => some c12
  | 13 => some c13
  | 14 => some c14
  | 15 => some c15
  | 16 => some c16
  | 17 => some c17
  | 18 => some c18
  | 19 => some c19
  | 20 => some c20
  | 21 => some c21
  | 22 => some c22
  | 23 => some c23
  | 24 => some c24
  | 25 => some c25
  | 26 => some c26
  | 27 => some c27
  | 28 => some c28
  | 29 => some c29
  | 30 => some c30
  | 31 => some c31
  | 32 => some c32
  | 33 => some c33
  | 34 => some c34
  | 35 => some c35
  | 36 => some c36
  | 37 => some c37
  | 38 => some c38
  | 39 => some c39
  | 40 => some c40
  | 41 => some c41
  | 42 => some c42
  | 43 => some c43
  | 44 => some c44
  | 45 => some c45
  | _ => none
theorem cp3 : cp 3 = some c3 := rfl
theorem cp4 : cp 4 = some c4 := rfl
theorem cp5 : cp 5 = some c5 := rfl
theorem cp6 : cp 6 = some c6 := rfl
theorem cp7 : cp 7 = some c7 := rfl
theorem cp8 : cp 8 = some c8 := rfl
theorem cp9 : cp 9 = some c9 := rfl
theorem cp10 : cp 10 = some c10 := rfl
theorem cp11 : cp 11 = some c11 := rfl
theorem cp12 : cp 12 = some c12 := rfl
theorem cp13 : cp 13 = some c13 := rfl
theorem cp14 : cp 14 = some c14 := rfl
theorem cp15 : cp 15 = some c15 := rfl
theorem cp16 : cp 16 = some c16 := rfl
theorem cp17 : cp 17 = some c17 := rfl
theorem cp18 : cp 18 = some c18 := rfl
theorem cp19 : cp 19 = some c19 := rfl
theorem cp20 : cp 20 = some c20 := rfl
theorem cp21 : cp 21 = some c21 := rfl
theorem cp22 : cp 22 = some c22 := rfl
theorem cp23 : cp 23 = some c23 := rfl
theorem cp24 : cp 24 = some c24 := rfl
theorem cp25 : cp 25 = some c25 := rfl
theorem cp26 : cp 26 = some c26 := rfl
theorem cp27 : cp 27 = some c27 := rfl
theorem cp28 : cp 28 = some c28 := rfl
theorem cp29 : cp 29 = some c29 := rfl
theorem cp30 : cp 30 = some c30 := rfl
theorem cp31 : cp 31 = some c31 := rfl
theorem cp32 : cp 32 = some c32 := rfl
theorem cp33 : cp 33 = some c33 := rfl
theorem cp34 : cp 34 = some c34 := rfl
theorem cp35 : cp 35 = some c35 := rfl
theorem cp36 : cp 36 = some c36 := rfl
theorem cp37 : cp 37 = some c37 := rfl
theorem cp38 : cp 38 = some c38 := rfl
theorem cp39 : cp 39 = some c39 := rfl
theorem cp40 : cp 40 = some c40 := rfl
theorem cp41 : cp 41 = some c41 := rfl
theorem cp42 : cp 42 = some c42 := rfl
theorem cp43 : cp 43 = some c43 := rfl
theorem cp44 : cp 44 = some c44 := rfl
theorem cp45 : cp 45 = some c45 := rfl
end Go.Proofs.Ytkoclacmomlmaaa.Can
