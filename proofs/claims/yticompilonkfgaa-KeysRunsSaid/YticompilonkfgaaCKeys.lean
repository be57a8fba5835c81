/- The canonical code of functions of the program, written by a program of this session (wip/can/res.py). No condition. -/
import Derived.Test.YticompilonkfgaaCanWp
namespace Go.Proofs.Yticompilonkfgaa.Can
open Go
-- 3: weighbridge/weighbridgelaw04.KeysBytes
def c3_r0 : Env → Reg := fun e =>
  .op (.mv (.bool false)) fun t4 =>
  .done (e.upd 4 t4)
theorem c3_r0_run {CP : CProg} (e : Env) (h : Heap) (Q : Post) : RunR CP (c3_r0 e) h Q ↔ RunR CP (
  .op (.mv (.bool false)) fun t4 =>
  .done (e.upd 4 t4)) h Q := Iff.rfl
def c3_r1 : Env → Reg := fun e =>
  .op (.call 7 []) fun t12 =>
  .op (.un .not t12) fun t13 =>
  .done (e.upd 13 t13)
theorem c3_r1_run {CP : CProg} (e : Env) (h : Heap) (Q : Post) : RunR CP (c3_r1 e) h Q ↔ RunR CP (
  .op (.call 7 []) fun t12 =>
  .op (.un .not t12) fun t13 =>
  .done (e.upd 13 t13)) h Q := Iff.rfl
def c3_r2 : Env → Reg := fun e =>
  .op (.mv (.bool false)) fun t4 =>
  .done (e.upd 4 t4)
theorem c3_r2_run {CP : CProg} (e : Env) (h : Heap) (Q : Post) : RunR CP (c3_r2 e) h Q ↔ RunR CP (
  .op (.mv (.bool false)) fun t4 =>
  .done (e.upd 4 t4)) h Q := Iff.rfl
def c3_r3 : Env → Reg := fun e =>
  .op (.mv (e 0)) fun t14 =>
  .op (.lenStr t14) fun t15 =>
  .op (.bin .gtr t15 (.int .i64 200)) fun t16 =>
  .op (.mv t16) fun t17 =>
  .opg t17 false (.mv (e 1)) fun t18 =>
  .opg t17 false (.lenStr t18) fun t19 =>
  .opg t17 false (.bin .gtr t19 (.int .i64 200)) fun t20 =>
  .op (.pick t17 (.bool true) t20) fun t21 =>
  .done (e.upd 21 t21)
theorem c3_r3_run {CP : CProg} (e : Env) (h : Heap) (Q : Post) : RunR CP (c3_r3 e) h Q ↔ RunR CP (
  .op (.mv (e 0)) fun t14 =>
  .op (.lenStr t14) fun t15 =>
  .op (.bin .gtr t15 (.int .i64 200)) fun t16 =>
  .op (.mv t16) fun t17 =>
  .opg t17 false (.mv (e 1)) fun t18 =>
  .opg t17 false (.lenStr t18) fun t19 =>
  .opg t17 false (.bin .gtr t19 (.int .i64 200)) fun t20 =>
  .op (.pick t17 (.bool true) t20) fun t21 =>
  .done (e.upd 21 t21)) h Q := Iff.rfl
def c3_r4 : Env → Reg := fun e =>
  .op (.mv (.bool true)) fun t4 =>
  .done (e.upd 4 t4)
theorem c3_r4_run {CP : CProg} (e : Env) (h : Heap) (Q : Post) : RunR CP (c3_r4 e) h Q ↔ RunR CP (
  .op (.mv (.bool true)) fun t4 =>
  .done (e.upd 4 t4)) h Q := Iff.rfl
def c3_r5 : Env → Reg := fun e =>
  .op (.call 8 [(.int .i64 2)]) fun t22 =>
  .op (.mv t22) fun t5 =>
  .done (e.upd 5 t5)
theorem c3_r5_run {CP : CProg} (e : Env) (h : Heap) (Q : Post) : RunR CP (c3_r5 e) h Q ↔ RunR CP (
  .op (.call 8 [(.int .i64 2)]) fun t22 =>
  .op (.mv t22) fun t5 =>
  .done (e.upd 5 t5)) h Q := Iff.rfl
def c3_r6 : Env → Reg := fun e =>
  .op (.mv (e 5)) fun t23 =>
  .op (.mv (e 0)) fun t24 =>
  .op (.call 9 [t23, t24]) fun t25 =>
  .op (.mv (e 5)) fun t26 =>
  .op (.mv (e 1)) fun t27 =>
  .op (.call 9 [t26, t27]) fun t28 =>
  .op (.mv t25) fun t6 =>
  .op (.mv t28) fun t7 =>
  .done ((e.upd 6 t6).upd 7 t7)
theorem c3_r6_run {CP : CProg} (e : Env) (h : Heap) (Q : Post) : RunR CP (c3_r6 e) h Q ↔ RunR CP (
  .op (.mv (e 5)) fun t23 =>
  .op (.mv (e 0)) fun t24 =>
  .op (.call 9 [t23, t24]) fun t25 =>
  .op (.mv (e 5)) fun t26 =>
  .op (.mv (e 1)) fun t27 =>
  .op (.call 9 [t26, t27]) fun t28 =>
  .op (.mv t25) fun t6 =>
  .op (.mv t28) fun t7 =>
  .done ((e.upd 6 t6).upd 7 t7)) h Q := Iff.rfl
def c3_r7 : Env → Reg := fun e =>
  .op (.mv (e 5)) fun t30 =>
  .op (.mv (e 6)) fun t31 =>
  .op (.call 10 [t30, t31]) fun t32 =>
  .op (.mv t32) fun t29 =>
  .op (.extract t29 0) fun t33 =>
  .op (.extract t29 1) fun t34 =>
  .op (.mv t33) fun t8 =>
  .op (.mv t34) fun t9 =>
  .done ((e.upd 8 t8).upd 9 t9)
theorem c3_r7_run {CP : CProg} (e : Env) (h : Heap) (Q : Post) : RunR CP (c3_r7 e) h Q ↔ RunR CP (
  .op (.mv (e 5)) fun t30 =>
  .op (.mv (e 6)) fun t31 =>
  .op (.call 10 [t30, t31]) fun t32 =>
  .op (.mv t32) fun t29 =>
  .op (.extract t29 0) fun t33 =>
  .op (.extract t29 1) fun t34 =>
  .op (.mv t33) fun t8 =>
  .op (.mv t34) fun t9 =>
  .done ((e.upd 8 t8).upd 9 t9)) h Q := Iff.rfl
def c3_r8 : Env → Reg := fun e =>
  .op (.mv (e 5)) fun t36 =>
  .op (.mv (e 7)) fun t37 =>
  .op (.call 10 [t36, t37]) fun t38 =>
  .op (.mv t38) fun t35 =>
  .op (.extract t35 0) fun t39 =>
  .op (.extract t35 1) fun t40 =>
  .op (.mv t39) fun t10 =>
  .op (.mv t40) fun t11 =>
  .done ((e.upd 10 t10).upd 11 t11)
theorem c3_r8_run {CP : CProg} (e : Env) (h : Heap) (Q : Post) : RunR CP (c3_r8 e) h Q ↔ RunR CP (
  .op (.mv (e 5)) fun t36 =>
  .op (.mv (e 7)) fun t37 =>
  .op (.call 10 [t36, t37]) fun t38 =>
  .op (.mv t38) fun t35 =>
  .op (.extract t35 0) fun t39 =>
  .op (.extract t35 1) fun t40 =>
  .op (.mv t39) fun t10 =>
  .op (.mv t40) fun t11 =>
  .done ((e.upd 10 t10).upd 11 t11)) h Q := Iff.rfl
def c3_r9_c7 (e : Env) (t92 : Value) (t95 : Value) (t96 : Value) : Reg :=
  .opg t95 false (.mv (e 1)) fun t97 =>
  .opg t95 false (.bin .eql t96 t97) fun t98 =>
  .opg t92 true (.pick t95 (.bool true) t98) fun t99 =>
  .op (.pick t92 t99 (.bool false)) fun t100 =>
  .op (.mv t100) fun t4 =>
  .done (e.upd 4 t4)
theorem c3_r9_c7_run {CP : CProg} (e : Env) (t92 : Value) (t95 : Value) (t96 : Value) (h : Heap) (Q : Post) : RunR CP (c3_r9_c7 e t92 t95 t96) h Q ↔ RunR CP (
  .opg t95 false (.mv (e 1)) fun t97 =>
  .opg t95 false (.bin .eql t96 t97) fun t98 =>
  .opg t92 true (.pick t95 (.bool true) t98) fun t99 =>
  .op (.pick t92 t99 (.bool false)) fun t100 =>
  .op (.mv t100) fun t4 =>
  .done (e.upd 4 t4)) h Q := Iff.rfl
def c3_r9_c6 (e : Env) (t67 : Value) (t70 : Value) (t80 : Value) (t88 : Value) : Reg :=
  .opg t70 false (.pick t80 t88 (.bool false)) fun t89 =>
  .opg t67 true (.pick t70 (.bool true) t89) fun t90 =>
  .op (.pick t67 t90 (.bool false)) fun t91 =>
  .op (.mv t91) fun t92 =>
  .opg t92 true (.mv (e 11)) fun t93 =>
  .opg t92 true (.un .not t93) fun t94 =>
  .opg t92 true (.mv t94) fun t95 =>
  .opg t95 false (.mv (e 10)) fun t96 =>
  c3_r9_c7 e t92 t95 t96
theorem c3_r9_c6_run {CP : CProg} (e : Env) (t67 : Value) (t70 : Value) (t80 : Value) (t88 : Value) (h : Heap) (Q : Post) : RunR CP (c3_r9_c6 e t67 t70 t80 t88) h Q ↔ RunR CP (
  .opg t70 false (.pick t80 t88 (.bool false)) fun t89 =>
  .opg t67 true (.pick t70 (.bool true) t89) fun t90 =>
  .op (.pick t67 t90 (.bool false)) fun t91 =>
  .op (.mv t91) fun t92 =>
  .opg t92 true (.mv (e 11)) fun t93 =>
  .opg t92 true (.un .not t93) fun t94 =>
  .opg t92 true (.mv t94) fun t95 =>
  .opg t95 false (.mv (e 10)) fun t96 =>
  c3_r9_c7 e t92 t95 t96) h Q := Iff.rfl
def c3_r9_c5 (e : Env) (t67 : Value) (t70 : Value) (t80 : Value) : Reg :=
  .opg t80 true (.mv (e 5)) fun t81 =>
  .opg t80 true (.mv (e 6)) fun t82 =>
  .opg t80 true (.mv (e 1)) fun t83 =>
  .opg t80 true (.call 11 [t81, t82, t83]) fun t84 =>
  .opg t80 true (.mv (e 0)) fun t85 =>
  .opg t80 true (.mv (e 1)) fun t86 =>
  .opg t80 true (.bin .eql t85 t86) fun t87 =>
  .opg t80 true (.eqK .bool false t84 t87) fun t88 =>
  c3_r9_c6 e t67 t70 t80 t88
theorem c3_r9_c5_run {CP : CProg} (e : Env) (t67 : Value) (t70 : Value) (t80 : Value) (h : Heap) (Q : Post) : RunR CP (c3_r9_c5 e t67 t70 t80) h Q ↔ RunR CP (
  .opg t80 true (.mv (e 5)) fun t81 =>
  .opg t80 true (.mv (e 6)) fun t82 =>
  .opg t80 true (.mv (e 1)) fun t83 =>
  .opg t80 true (.call 11 [t81, t82, t83]) fun t84 =>
  .opg t80 true (.mv (e 0)) fun t85 =>
  .opg t80 true (.mv (e 1)) fun t86 =>
  .opg t80 true (.bin .eql t85 t86) fun t87 =>
  .opg t80 true (.eqK .bool false t84 t87) fun t88 =>
  c3_r9_c6 e t67 t70 t80 t88) h Q := Iff.rfl
def c3_r9_c4 (e : Env) (t67 : Value) (t70 : Value) (t71 : Value) (t72 : Value) : Reg :=
  .opg t70 false (.bin .eql t71 t72) fun t73 =>
  .opg t70 false (.mv t73) fun t74 =>
  .opg t74 true (.mv (e 5)) fun t75 =>
  .opg t74 true (.mv (e 6)) fun t76 =>
  .opg t74 true (.mv (e 0)) fun t77 =>
  .opg t74 true (.call 11 [t75, t76, t77]) fun t78 =>
  .opg t70 false (.pick t74 t78 (.bool false)) fun t79 =>
  .opg t70 false (.mv t79) fun t80 =>
  c3_r9_c5 e t67 t70 t80
theorem c3_r9_c4_run {CP : CProg} (e : Env) (t67 : Value) (t70 : Value) (t71 : Value) (t72 : Value) (h : Heap) (Q : Post) : RunR CP (c3_r9_c4 e t67 t70 t71 t72) h Q ↔ RunR CP (
  .opg t70 false (.bin .eql t71 t72) fun t73 =>
  .opg t70 false (.mv t73) fun t74 =>
  .opg t74 true (.mv (e 5)) fun t75 =>
  .opg t74 true (.mv (e 6)) fun t76 =>
  .opg t74 true (.mv (e 0)) fun t77 =>
  .opg t74 true (.call 11 [t75, t76, t77]) fun t78 =>
  .opg t70 false (.pick t74 t78 (.bool false)) fun t79 =>
  .opg t70 false (.mv t79) fun t80 =>
  c3_r9_c5 e t67 t70 t80) h Q := Iff.rfl
def c3_r9_c3 (e : Env) (t61 : Value) (t62 : Value) (t64 : Value) : Reg :=
  .opg t61 true (.eqK .bool false t62 t64) fun t65 =>
  .op (.pick t61 t65 (.bool false)) fun t66 =>
  .op (.mv t66) fun t67 =>
  .opg t67 true (.mv (e 9)) fun t68 =>
  .opg t67 true (.un .not t68) fun t69 =>
  .opg t67 true (.mv t69) fun t70 =>
  .opg t70 false (.mv (e 8)) fun t71 =>
  .opg t70 false (.mv (e 0)) fun t72 =>
  c3_r9_c4 e t67 t70 t71 t72
theorem c3_r9_c3_run {CP : CProg} (e : Env) (t61 : Value) (t62 : Value) (t64 : Value) (h : Heap) (Q : Post) : RunR CP (c3_r9_c3 e t61 t62 t64) h Q ↔ RunR CP (
  .opg t61 true (.eqK .bool false t62 t64) fun t65 =>
  .op (.pick t61 t65 (.bool false)) fun t66 =>
  .op (.mv t66) fun t67 =>
  .opg t67 true (.mv (e 9)) fun t68 =>
  .opg t67 true (.un .not t68) fun t69 =>
  .opg t67 true (.mv t69) fun t70 =>
  .opg t70 false (.mv (e 8)) fun t71 =>
  .opg t70 false (.mv (e 0)) fun t72 =>
  c3_r9_c4 e t67 t70 t71 t72) h Q := Iff.rfl
def c3_r9_c2 (e : Env) (t55 : Value) (t56 : Value) : Reg :=
  .opg t55 true (.mv (e 6)) fun t57 =>
  .opg t55 true (.bin .geq t57 (.int .i64 0)) fun t58 =>
  .opg t55 true (.eqK .bool false t56 t58) fun t59 =>
  .op (.pick t55 t59 (.bool false)) fun t60 =>
  .op (.mv t60) fun t61 =>
  .opg t61 true (.mv (e 11)) fun t62 =>
  .opg t61 true (.mv (e 7)) fun t63 =>
  .opg t61 true (.bin .geq t63 (.int .i64 0)) fun t64 =>
  c3_r9_c3 e t61 t62 t64
theorem c3_r9_c2_run {CP : CProg} (e : Env) (t55 : Value) (t56 : Value) (h : Heap) (Q : Post) : RunR CP (c3_r9_c2 e t55 t56) h Q ↔ RunR CP (
  .opg t55 true (.mv (e 6)) fun t57 =>
  .opg t55 true (.bin .geq t57 (.int .i64 0)) fun t58 =>
  .opg t55 true (.eqK .bool false t56 t58) fun t59 =>
  .op (.pick t55 t59 (.bool false)) fun t60 =>
  .op (.mv t60) fun t61 =>
  .opg t61 true (.mv (e 11)) fun t62 =>
  .opg t61 true (.mv (e 7)) fun t63 =>
  .opg t61 true (.bin .geq t63 (.int .i64 0)) fun t64 =>
  c3_r9_c3 e t61 t62 t64) h Q := Iff.rfl
def c3_r9_c1 (e : Env) (t47 : Value) (t48 : Value) : Reg :=
  .opg t47 true (.bin .geq t48 (.int .i64 0)) fun t49 =>
  .opg t47 true (.mv (e 1)) fun t50 =>
  .opg t47 true (.lenStr t50) fun t51 =>
  .opg t47 true (.bin .leq t51 (.int .i64 64)) fun t52 =>
  .opg t47 true (.eqK .bool false t49 t52) fun t53 =>
  .op (.pick t47 t53 (.bool false)) fun t54 =>
  .op (.mv t54) fun t55 =>
  .opg t55 true (.mv (e 9)) fun t56 =>
  c3_r9_c2 e t55 t56
theorem c3_r9_c1_run {CP : CProg} (e : Env) (t47 : Value) (t48 : Value) (h : Heap) (Q : Post) : RunR CP (c3_r9_c1 e t47 t48) h Q ↔ RunR CP (
  .opg t47 true (.bin .geq t48 (.int .i64 0)) fun t49 =>
  .opg t47 true (.mv (e 1)) fun t50 =>
  .opg t47 true (.lenStr t50) fun t51 =>
  .opg t47 true (.bin .leq t51 (.int .i64 64)) fun t52 =>
  .opg t47 true (.eqK .bool false t49 t52) fun t53 =>
  .op (.pick t47 t53 (.bool false)) fun t54 =>
  .op (.mv t54) fun t55 =>
  .opg t55 true (.mv (e 9)) fun t56 =>
  c3_r9_c2 e t55 t56) h Q := Iff.rfl
def c3_r9 : Env → Reg := fun e =>
  .op (.mv (e 6)) fun t41 =>
  .op (.bin .geq t41 (.int .i64 0)) fun t42 =>
  .op (.mv (e 0)) fun t43 =>
  .op (.lenStr t43) fun t44 =>
  .op (.bin .leq t44 (.int .i64 64)) fun t45 =>
  .op (.eqK .bool false t42 t45) fun t46 =>
  .op (.mv t46) fun t47 =>
  .opg t47 true (.mv (e 7)) fun t48 =>
  c3_r9_c1 e t47 t48
theorem c3_r9_run {CP : CProg} (e : Env) (h : Heap) (Q : Post) : RunR CP (c3_r9 e) h Q ↔ RunR CP (
  .op (.mv (e 6)) fun t41 =>
  .op (.bin .geq t41 (.int .i64 0)) fun t42 =>
  .op (.mv (e 0)) fun t43 =>
  .op (.lenStr t43) fun t44 =>
  .op (.bin .leq t44 (.int .i64 64)) fun t45 =>
  .op (.eqK .bool false t42 t45) fun t46 =>
  .op (.mv t46) fun t47 =>
  .opg t47 true (.mv (e 7)) fun t48 =>
  c3_r9_c1 e t47 t48) h Q := Iff.rfl
def c3 : CFn := ⟨(.seq (.region c3_r0) (.seq (.seq (.region c3_r1) (.cond (fun e => e 13) (.seq (.region c3_r2) .ret) .skip)) (.seq (.seq (.region c3_r3) (.cond (fun e => e 21) (.seq (.region c3_r4) .ret) .skip)) (.seq (.region c3_r5) (.seq (.region c3_r6) (.seq (.region c3_r7) (.seq (.region c3_r8) (.seq (.region c3_r9) .ret)))))))), [4]⟩
def p3 : Pers := ⟨12, [13, 21], 101⟩
-- 4: weighbridge/weighbridgelaw04.KeysFull
def c4_r0 : Env → Reg := fun e =>
  .op (.mv (.bool false)) fun t4 =>
  .done (e.upd 4 t4)
theorem c4_r0_run {CP : CProg} (e : Env) (h : Heap) (Q : Post) : RunR CP (c4_r0 e) h Q ↔ RunR CP (
  .op (.mv (.bool false)) fun t4 =>
  .done (e.upd 4 t4)) h Q := Iff.rfl
def c4_r1 : Env → Reg := fun e =>
  .op (.call 7 []) fun t13 =>
  .op (.un .not t13) fun t14 =>
  .done (e.upd 14 t14)
theorem c4_r1_run {CP : CProg} (e : Env) (h : Heap) (Q : Post) : RunR CP (c4_r1 e) h Q ↔ RunR CP (
  .op (.call 7 []) fun t13 =>
  .op (.un .not t13) fun t14 =>
  .done (e.upd 14 t14)) h Q := Iff.rfl
def c4_r2 : Env → Reg := fun e =>
  .op (.mv (.bool false)) fun t4 =>
  .done (e.upd 4 t4)
theorem c4_r2_run {CP : CProg} (e : Env) (h : Heap) (Q : Post) : RunR CP (c4_r2 e) h Q ↔ RunR CP (
  .op (.mv (.bool false)) fun t4 =>
  .done (e.upd 4 t4)) h Q := Iff.rfl
def c4_r3 : Env → Reg := fun e =>
  .op (.mv (e 0)) fun t15 =>
  .op (.bin .and t15 (.int .i64 31)) fun t16 =>
  .op (.bin .add t16 (.int .i64 1)) fun t17 =>
  .op (.mv t17) fun t0 =>
  .done (e.upd 0 t0)
theorem c4_r3_run {CP : CProg} (e : Env) (h : Heap) (Q : Post) : RunR CP (c4_r3 e) h Q ↔ RunR CP (
  .op (.mv (e 0)) fun t15 =>
  .op (.bin .and t15 (.int .i64 31)) fun t16 =>
  .op (.bin .add t16 (.int .i64 1)) fun t17 =>
  .op (.mv t17) fun t0 =>
  .done (e.upd 0 t0)) h Q := Iff.rfl
def c4_r4 : Env → Reg := fun e =>
  .op (.mv (e 1)) fun t18 =>
  .op (.lenSl t18) fun t19 =>
  .op (.bin .gtr t19 (.int .i64 100)) fun t20 =>
  .done (e.upd 20 t20)
theorem c4_r4_run {CP : CProg} (e : Env) (h : Heap) (Q : Post) : RunR CP (c4_r4 e) h Q ↔ RunR CP (
  .op (.mv (e 1)) fun t18 =>
  .op (.lenSl t18) fun t19 =>
  .op (.bin .gtr t19 (.int .i64 100)) fun t20 =>
  .done (e.upd 20 t20)) h Q := Iff.rfl
def c4_r5 : Env → Reg := fun e =>
  .op (.mv (.bool true)) fun t4 =>
  .done (e.upd 4 t4)
theorem c4_r5_run {CP : CProg} (e : Env) (h : Heap) (Q : Post) : RunR CP (c4_r5 e) h Q ↔ RunR CP (
  .op (.mv (.bool true)) fun t4 =>
  .done (e.upd 4 t4)) h Q := Iff.rfl
def c4_r6 : Env → Reg := fun e =>
  .op (.mv (e 0)) fun t21 =>
  .op (.call 8 [t21]) fun t22 =>
  .op (.mv t22) fun t5 =>
  .done (e.upd 5 t5)
theorem c4_r6_run {CP : CProg} (e : Env) (h : Heap) (Q : Post) : RunR CP (c4_r6 e) h Q ↔ RunR CP (
  .op (.mv (e 0)) fun t21 =>
  .op (.call 8 [t21]) fun t22 =>
  .op (.mv t22) fun t5 =>
  .done (e.upd 5 t5)) h Q := Iff.rfl
def c4_r7 : Env → Reg := fun e =>
  .op (.mv (e 0)) fun t23 =>
  .op (.mv (.int .i64 0)) fun t24 =>
  .done ((e.upd 23 t23).upd 24 t24)
theorem c4_r7_run {CP : CProg} (e : Env) (h : Heap) (Q : Post) : RunR CP (c4_r7 e) h Q ↔ RunR CP (
  .op (.mv (e 0)) fun t23 =>
  .op (.mv (.int .i64 0)) fun t24 =>
  .done ((e.upd 23 t23).upd 24 t24)) h Q := Iff.rfl
def c4_r8 : Env → Reg := fun e =>
  .op (.bin .lss (e 24) (e 23)) fun t25 =>
  .done (e.upd 25 t25)
theorem c4_r8_run {CP : CProg} (e : Env) (h : Heap) (Q : Post) : RunR CP (c4_r8 e) h Q ↔ RunR CP (
  .op (.bin .lss (e 24) (e 23)) fun t25 =>
  .done (e.upd 25 t25)) h Q := Iff.rfl
def c4_r9 : Env → Reg := fun e =>
  .op (.mv (e 24)) fun t26 =>
  .op (.mv t26) fun t6 =>
  .done (e.upd 6 t6)
theorem c4_r9_run {CP : CProg} (e : Env) (h : Heap) (Q : Post) : RunR CP (c4_r9 e) h Q ↔ RunR CP (
  .op (.mv (e 24)) fun t26 =>
  .op (.mv t26) fun t6 =>
  .done (e.upd 6 t6)) h Q := Iff.rfl
def c4_r10 : Env → Reg := fun e =>
  .op (.mv (e 5)) fun t27 =>
  .op (.mv (e 6)) fun t28 =>
  .op (.conv .u8 t28) fun t29 =>
  .op (.buildSlice 5 1 [(.int .u8 0)] [(0, 1, t29)]) fun t30 =>
  .op (.toStr t30) fun t31 =>
  .op (.call 9 [t27, t31]) fun t32 =>
  .op (.mv (e 6)) fun t33 =>
  .op (.bin .neq t32 t33) fun t34 =>
  .done (e.upd 34 t34)
theorem c4_r10_run {CP : CProg} (e : Env) (h : Heap) (Q : Post) : RunR CP (c4_r10 e) h Q ↔ RunR CP (
  .op (.mv (e 5)) fun t27 =>
  .op (.mv (e 6)) fun t28 =>
  .op (.conv .u8 t28) fun t29 =>
  .op (.buildSlice 5 1 [(.int .u8 0)] [(0, 1, t29)]) fun t30 =>
  .op (.toStr t30) fun t31 =>
  .op (.call 9 [t27, t31]) fun t32 =>
  .op (.mv (e 6)) fun t33 =>
  .op (.bin .neq t32 t33) fun t34 =>
  .done (e.upd 34 t34)) h Q := Iff.rfl
def c4_r11 : Env → Reg := fun e =>
  .op (.mv (.bool false)) fun t4 =>
  .done (e.upd 4 t4)
theorem c4_r11_run {CP : CProg} (e : Env) (h : Heap) (Q : Post) : RunR CP (c4_r11 e) h Q ↔ RunR CP (
  .op (.mv (.bool false)) fun t4 =>
  .done (e.upd 4 t4)) h Q := Iff.rfl
def c4_r12 : Env → Reg := fun e =>
  .op (.bin .add (e 24) (.int .i64 1)) fun t35 =>
  .op (.mv t35) fun t24 =>
  .done (e.upd 24 t24)
theorem c4_r12_run {CP : CProg} (e : Env) (h : Heap) (Q : Post) : RunR CP (c4_r12 e) h Q ↔ RunR CP (
  .op (.bin .add (e 24) (.int .i64 1)) fun t35 =>
  .op (.mv t35) fun t24 =>
  .done (e.upd 24 t24)) h Q := Iff.rfl
def c4_l0 : CC := (.seq (.region c4_r8) (.seq (.cond (fun e => e 25) .skip (.exit 0)) (.seq (.block 1 (.seq (.region c4_r9) (.seq (.region c4_r10) (.cond (fun e => e 34) (.seq (.region c4_r11) .ret) .skip)))) (.region c4_r12))))
def c4_r13 : Env → Reg := fun e =>
  .op (.mv (e 5)) fun t36 =>
  .op (.call 9 [t36, (.string ⟨#[109, 111, 114, 101]⟩)]) fun t37 =>
  .op (.bin .neq t37 (.int .i64 (-1))) fun t38 =>
  .op (.mv t38) fun t39 =>
  .opg t39 false (.mv (e 5)) fun t40 =>
  .opg t39 false (.call 12 [t40]) fun t41 =>
  .opg t39 false (.mv (e 0)) fun t42 =>
  .opg t39 false (.bin .neq t41 t42) fun t43 =>
  .op (.pick t39 (.bool true) t43) fun t44 =>
  .done (e.upd 44 t44)
theorem c4_r13_run {CP : CProg} (e : Env) (h : Heap) (Q : Post) : RunR CP (c4_r13 e) h Q ↔ RunR CP (
  .op (.mv (e 5)) fun t36 =>
  .op (.call 9 [t36, (.string ⟨#[109, 111, 114, 101]⟩)]) fun t37 =>
  .op (.bin .neq t37 (.int .i64 (-1))) fun t38 =>
  .op (.mv t38) fun t39 =>
  .opg t39 false (.mv (e 5)) fun t40 =>
  .opg t39 false (.call 12 [t40]) fun t41 =>
  .opg t39 false (.mv (e 0)) fun t42 =>
  .opg t39 false (.bin .neq t41 t42) fun t43 =>
  .op (.pick t39 (.bool true) t43) fun t44 =>
  .done (e.upd 44 t44)) h Q := Iff.rfl
def c4_r14 : Env → Reg := fun e =>
  .op (.mv (.bool false)) fun t4 =>
  .done (e.upd 4 t4)
theorem c4_r14_run {CP : CProg} (e : Env) (h : Heap) (Q : Post) : RunR CP (c4_r14 e) h Q ↔ RunR CP (
  .op (.mv (.bool false)) fun t4 =>
  .done (e.upd 4 t4)) h Q := Iff.rfl
def c4_r15 : Env → Reg := fun e =>
  .op (.mv (.int .i64 (-1))) fun t7 =>
  .done (e.upd 7 t7)
theorem c4_r15_run {CP : CProg} (e : Env) (h : Heap) (Q : Post) : RunR CP (c4_r15 e) h Q ↔ RunR CP (
  .op (.mv (.int .i64 (-1))) fun t7 =>
  .done (e.upd 7 t7)) h Q := Iff.rfl
def c4_r16 : Env → Reg := fun e =>
  .op (.mv (e 1)) fun t45 =>
  .op (.lenSl t45) fun t46 =>
  .op (.mv (.int .i64 0)) fun t47 =>
  .done (((e.upd 45 t45).upd 46 t46).upd 47 t47)
theorem c4_r16_run {CP : CProg} (e : Env) (h : Heap) (Q : Post) : RunR CP (c4_r16 e) h Q ↔ RunR CP (
  .op (.mv (e 1)) fun t45 =>
  .op (.lenSl t45) fun t46 =>
  .op (.mv (.int .i64 0)) fun t47 =>
  .done (((e.upd 45 t45).upd 46 t46).upd 47 t47)) h Q := Iff.rfl
def c4_r17 : Env → Reg := fun e =>
  .op (.bin .lss (e 47) (e 46)) fun t48 =>
  .done (e.upd 48 t48)
theorem c4_r17_run {CP : CProg} (e : Env) (h : Heap) (Q : Post) : RunR CP (c4_r17 e) h Q ↔ RunR CP (
  .op (.bin .lss (e 47) (e 46)) fun t48 =>
  .done (e.upd 48 t48)) h Q := Iff.rfl
def c4_r18 : Env → Reg := fun e =>
  .op (.indexSl 1 (e 45) (e 47)) fun t49 =>
  .op (.load none t49) fun t50 =>
  .op (.mv t50) fun t9 =>
  .done (e.upd 9 t9)
theorem c4_r18_run {CP : CProg} (e : Env) (h : Heap) (Q : Post) : RunR CP (c4_r18 e) h Q ↔ RunR CP (
  .op (.indexSl 1 (e 45) (e 47)) fun t49 =>
  .op (.load none t49) fun t50 =>
  .op (.mv t50) fun t9 =>
  .done (e.upd 9 t9)) h Q := Iff.rfl
def c4_r19 : Env → Reg := fun e =>
  .op (.mv (e 9)) fun t51 =>
  .op (.bin .and t51 (.int .i64 31)) fun t52 =>
  .op (.mv t52) fun t10 =>
  .done (e.upd 10 t10)
theorem c4_r19_run {CP : CProg} (e : Env) (h : Heap) (Q : Post) : RunR CP (c4_r19 e) h Q ↔ RunR CP (
  .op (.mv (e 9)) fun t51 =>
  .op (.bin .and t51 (.int .i64 31)) fun t52 =>
  .op (.mv t52) fun t10 =>
  .done (e.upd 10 t10)) h Q := Iff.rfl
def c4_r20 : Env → Reg := fun e =>
  .op (.mv (e 5)) fun t54 =>
  .op (.mv (e 10)) fun t55 =>
  .op (.call 10 [t54, t55]) fun t56 =>
  .op (.mv t56) fun t53 =>
  .op (.extract t53 0) fun t57 =>
  .op (.extract t53 1) fun t58 =>
  .op (.mv t57) fun t11 =>
  .op (.mv t58) fun t12 =>
  .done ((e.upd 11 t11).upd 12 t12)
theorem c4_r20_run {CP : CProg} (e : Env) (h : Heap) (Q : Post) : RunR CP (c4_r20 e) h Q ↔ RunR CP (
  .op (.mv (e 5)) fun t54 =>
  .op (.mv (e 10)) fun t55 =>
  .op (.call 10 [t54, t55]) fun t56 =>
  .op (.mv t56) fun t53 =>
  .op (.extract t53 0) fun t57 =>
  .op (.extract t53 1) fun t58 =>
  .op (.mv t57) fun t11 =>
  .op (.mv t58) fun t12 =>
  .done ((e.upd 11 t11).upd 12 t12)) h Q := Iff.rfl
def c4_r21 : Env → Reg := fun e =>
  .op (.mv (e 12)) fun t59 =>
  .done (e.upd 59 t59)
theorem c4_r21_run {CP : CProg} (e : Env) (h : Heap) (Q : Post) : RunR CP (c4_r21 e) h Q ↔ RunR CP (
  .op (.mv (e 12)) fun t59 =>
  .done (e.upd 59 t59)) h Q := Iff.rfl
def c4_r22 : Env → Reg := fun e =>
  .op (.mv (e 10)) fun t60 =>
  .op (.mv t60) fun t7 =>
  .done (e.upd 7 t7)
theorem c4_r22_run {CP : CProg} (e : Env) (h : Heap) (Q : Post) : RunR CP (c4_r22 e) h Q ↔ RunR CP (
  .op (.mv (e 10)) fun t60 =>
  .op (.mv t60) fun t7 =>
  .done (e.upd 7 t7)) h Q := Iff.rfl
def c4_r23 : Env → Reg := fun e =>
  .op (.mv (e 5)) fun t61 =>
  .op (.mv (e 10)) fun t62 =>
  .op (.call 13 [t61, t62]) fun t63 =>
  .done e
theorem c4_r23_run {CP : CProg} (e : Env) (h : Heap) (Q : Post) : RunR CP (c4_r23 e) h Q ↔ RunR CP (
  .op (.mv (e 5)) fun t61 =>
  .op (.mv (e 10)) fun t62 =>
  .op (.call 13 [t61, t62]) fun t63 =>
  .done e) h Q := Iff.rfl
def c4_r24 : Env → Reg := fun e =>
  .op (.bin .add (e 47) (.int .i64 1)) fun t64 =>
  .op (.mv t64) fun t47 =>
  .done (e.upd 47 t47)
theorem c4_r24_run {CP : CProg} (e : Env) (h : Heap) (Q : Post) : RunR CP (c4_r24 e) h Q ↔ RunR CP (
  .op (.bin .add (e 47) (.int .i64 1)) fun t64 =>
  .op (.mv t64) fun t47 =>
  .done (e.upd 47 t47)) h Q := Iff.rfl
def c4_l1 : CC := (.seq (.region c4_r17) (.seq (.cond (fun e => e 48) .skip (.exit 2)) (.seq (.block 3 (.seq (.region c4_r18) (.seq (.region c4_r19) (.seq (.seq (.region c4_r20) (.seq (.region c4_r21) (.cond (fun e => e 59) (.region c4_r22) .skip))) (.region c4_r23))))) (.region c4_r24))))
def c4_r25 : Env → Reg := fun e =>
  .op (.mv (e 7)) fun t65 =>
  .op (.bin .lss t65 (.int .i64 0)) fun t66 =>
  .op (.mv t66) fun t67 =>
  .opg t67 false (.mv (e 5)) fun t68 =>
  .opg t67 false (.call 9 [t68, (.string ⟨#[120]⟩)]) fun t69 =>
  .opg t67 false (.mv (e 7)) fun t70 =>
  .opg t67 false (.bin .eql t69 t70) fun t71 =>
  .op (.pick t67 (.bool true) t71) fun t72 =>
  .op (.mv t72) fun t4 =>
  .done (e.upd 4 t4)
theorem c4_r25_run {CP : CProg} (e : Env) (h : Heap) (Q : Post) : RunR CP (c4_r25 e) h Q ↔ RunR CP (
  .op (.mv (e 7)) fun t65 =>
  .op (.bin .lss t65 (.int .i64 0)) fun t66 =>
  .op (.mv t66) fun t67 =>
  .opg t67 false (.mv (e 5)) fun t68 =>
  .opg t67 false (.call 9 [t68, (.string ⟨#[120]⟩)]) fun t69 =>
  .opg t67 false (.mv (e 7)) fun t70 =>
  .opg t67 false (.bin .eql t69 t70) fun t71 =>
  .op (.pick t67 (.bool true) t71) fun t72 =>
  .op (.mv t72) fun t4 =>
  .done (e.upd 4 t4)) h Q := Iff.rfl
def c4 : CFn := ⟨(.seq (.region c4_r0) (.seq (.seq (.region c4_r1) (.cond (fun e => e 14) (.seq (.region c4_r2) .ret) .skip)) (.seq (.region c4_r3) (.seq (.seq (.region c4_r4) (.cond (fun e => e 20) (.seq (.region c4_r5) .ret) .skip)) (.seq (.region c4_r6) (.seq (.seq (.region c4_r7) (.block 0 (.loop c4_l0))) (.seq (.seq (.region c4_r13) (.cond (fun e => e 44) (.seq (.region c4_r14) .ret) .skip)) (.seq (.region c4_r15) (.seq (.seq (.region c4_r16) (.block 2 (.loop c4_l1))) (.seq (.region c4_r25) .ret)))))))))), [4]⟩
def p4 : Pers := ⟨13, [14, 20, 23, 24, 25, 34, 44, 45, 46, 47, 48, 59], 73⟩
-- 5: weighbridge/weighbridgelaw04.KeysRuns
def c5_r0 : Env → Reg := fun e =>
  .op (.mv (.bool false)) fun t4 =>
  .done (e.upd 4 t4)
theorem c5_r0_run {CP : CProg} (e : Env) (h : Heap) (Q : Post) : RunR CP (c5_r0 e) h Q ↔ RunR CP (
  .op (.mv (.bool false)) fun t4 =>
  .done (e.upd 4 t4)) h Q := Iff.rfl
def c5_r1 : Env → Reg := fun e =>
  .op (.call 7 []) fun t18 =>
  .op (.un .not t18) fun t19 =>
  .done (e.upd 19 t19)
theorem c5_r1_run {CP : CProg} (e : Env) (h : Heap) (Q : Post) : RunR CP (c5_r1 e) h Q ↔ RunR CP (
  .op (.call 7 []) fun t18 =>
  .op (.un .not t18) fun t19 =>
  .done (e.upd 19 t19)) h Q := Iff.rfl
def c5_r2 : Env → Reg := fun e =>
  .op (.mv (.bool false)) fun t4 =>
  .done (e.upd 4 t4)
theorem c5_r2_run {CP : CProg} (e : Env) (h : Heap) (Q : Post) : RunR CP (c5_r2 e) h Q ↔ RunR CP (
  .op (.mv (.bool false)) fun t4 =>
  .done (e.upd 4 t4)) h Q := Iff.rfl
def c5_r3 : Env → Reg := fun e =>
  .op (.mv (e 0)) fun t20 =>
  .op (.bin .and t20 (.int .i64 15)) fun t21 =>
  .op (.mv t21) fun t0 =>
  .done (e.upd 0 t0)
theorem c5_r3_run {CP : CProg} (e : Env) (h : Heap) (Q : Post) : RunR CP (c5_r3 e) h Q ↔ RunR CP (
  .op (.mv (e 0)) fun t20 =>
  .op (.bin .and t20 (.int .i64 15)) fun t21 =>
  .op (.mv t21) fun t0 =>
  .done (e.upd 0 t0)) h Q := Iff.rfl
def c5_r4 : Env → Reg := fun e =>
  .op (.mv (e 1)) fun t22 =>
  .op (.lenSl t22) fun t23 =>
  .op (.bin .gtr t23 (.int .i64 200)) fun t24 =>
  .done (e.upd 24 t24)
theorem c5_r4_run {CP : CProg} (e : Env) (h : Heap) (Q : Post) : RunR CP (c5_r4 e) h Q ↔ RunR CP (
  .op (.mv (e 1)) fun t22 =>
  .op (.lenSl t22) fun t23 =>
  .op (.bin .gtr t23 (.int .i64 200)) fun t24 =>
  .done (e.upd 24 t24)) h Q := Iff.rfl
def c5_r5 : Env → Reg := fun e =>
  .op (.mv (.bool true)) fun t4 =>
  .done (e.upd 4 t4)
theorem c5_r5_run {CP : CProg} (e : Env) (h : Heap) (Q : Post) : RunR CP (c5_r5 e) h Q ↔ RunR CP (
  .op (.mv (.bool true)) fun t4 =>
  .done (e.upd 4 t4)) h Q := Iff.rfl
def c5_r6 : Env → Reg := fun e =>
  .op (.mv (e 0)) fun t25 =>
  .op (.call 8 [t25]) fun t26 =>
  .op (.mv t26) fun t5 =>
  .done (e.upd 5 t5)
theorem c5_r6_run {CP : CProg} (e : Env) (h : Heap) (Q : Post) : RunR CP (c5_r6 e) h Q ↔ RunR CP (
  .op (.mv (e 0)) fun t25 =>
  .op (.call 8 [t25]) fun t26 =>
  .op (.mv t26) fun t5 =>
  .done (e.upd 5 t5)) h Q := Iff.rfl
def c5_r7 : Env → Reg := fun e =>
  .op (.mv (e 0)) fun t27 =>
  .op (.makeSlice 9 1 16 [(.string ⟨#[]⟩)] t27 t27) fun t28 =>
  .op (.mv t28) fun t6 =>
  .done (e.upd 6 t6)
theorem c5_r7_run {CP : CProg} (e : Env) (h : Heap) (Q : Post) : RunR CP (c5_r7 e) h Q ↔ RunR CP (
  .op (.mv (e 0)) fun t27 =>
  .op (.makeSlice 9 1 16 [(.string ⟨#[]⟩)] t27 t27) fun t28 =>
  .op (.mv t28) fun t6 =>
  .done (e.upd 6 t6)) h Q := Iff.rfl
def c5_r8 : Env → Reg := fun e =>
  .op (.mv (e 0)) fun t29 =>
  .op (.makeSlice 4 1 1 [(.bool false)] t29 t29) fun t30 =>
  .op (.mv t30) fun t7 =>
  .done (e.upd 7 t7)
theorem c5_r8_run {CP : CProg} (e : Env) (h : Heap) (Q : Post) : RunR CP (c5_r8 e) h Q ↔ RunR CP (
  .op (.mv (e 0)) fun t29 =>
  .op (.makeSlice 4 1 1 [(.bool false)] t29 t29) fun t30 =>
  .op (.mv t30) fun t7 =>
  .done (e.upd 7 t7)) h Q := Iff.rfl
def c5_r9 : Env → Reg := fun e =>
  .op (.mv (.slice none 0 0)) fun t8 =>
  .done (e.upd 8 t8)
theorem c5_r9_run {CP : CProg} (e : Env) (h : Heap) (Q : Post) : RunR CP (c5_r9 e) h Q ↔ RunR CP (
  .op (.mv (.slice none 0 0)) fun t8 =>
  .done (e.upd 8 t8)) h Q := Iff.rfl
def c5_r10 : Env → Reg := fun e =>
  .op (.mv (e 0)) fun t31 =>
  .op (.bin .sub t31 (.int .i64 1)) fun t32 =>
  .op (.mv t32) fun t9 =>
  .done (e.upd 9 t9)
theorem c5_r10_run {CP : CProg} (e : Env) (h : Heap) (Q : Post) : RunR CP (c5_r10 e) h Q ↔ RunR CP (
  .op (.mv (e 0)) fun t31 =>
  .op (.bin .sub t31 (.int .i64 1)) fun t32 =>
  .op (.mv t32) fun t9 =>
  .done (e.upd 9 t9)) h Q := Iff.rfl
def c5_r11 : Env → Reg := fun e =>
  .op (.mv (e 9)) fun t33 =>
  .op (.bin .geq t33 (.int .i64 0)) fun t34 =>
  .done (e.upd 34 t34)
theorem c5_r11_run {CP : CProg} (e : Env) (h : Heap) (Q : Post) : RunR CP (c5_r11 e) h Q ↔ RunR CP (
  .op (.mv (e 9)) fun t33 =>
  .op (.bin .geq t33 (.int .i64 0)) fun t34 =>
  .done (e.upd 34 t34)) h Q := Iff.rfl
def c5_r13 : Env → Reg := fun e =>
  .op (.mv (e 8)) fun t37 =>
  .op (.mv (e 9)) fun t38 =>
  .op (.buildSlice 3 1 [(.int .i64 0)] [(0, 1, t38)]) fun t39 =>
  .op (.append 3 1 8 t37 t39) fun t40 =>
  .op (.mv t40) fun t8 =>
  .done (e.upd 8 t8)
theorem c5_r13_run {CP : CProg} (e : Env) (h : Heap) (Q : Post) : RunR CP (c5_r13 e) h Q ↔ RunR CP (
  .op (.mv (e 8)) fun t37 =>
  .op (.mv (e 9)) fun t38 =>
  .op (.buildSlice 3 1 [(.int .i64 0)] [(0, 1, t38)]) fun t39 =>
  .op (.append 3 1 8 t37 t39) fun t40 =>
  .op (.mv t40) fun t8 =>
  .done (e.upd 8 t8)) h Q := Iff.rfl
def c5_r12 : Env → Reg := fun e =>
  .op (.mv (e 9)) fun t35 =>
  .op (.bin .sub t35 (.int .i64 1)) fun t36 =>
  .op (.mv t36) fun t9 =>
  .done (e.upd 9 t9)
theorem c5_r12_run {CP : CProg} (e : Env) (h : Heap) (Q : Post) : RunR CP (c5_r12 e) h Q ↔ RunR CP (
  .op (.mv (e 9)) fun t35 =>
  .op (.bin .sub t35 (.int .i64 1)) fun t36 =>
  .op (.mv t36) fun t9 =>
  .done (e.upd 9 t9)) h Q := Iff.rfl
def c5_l0 : CC := (.seq (.seq (.region c5_r11) (.cond (fun e => e 34) .skip (.exit 0))) (.seq (.block 1 (.region c5_r13)) (.region c5_r12)))
def c5_r14 : Env → Reg := fun e =>
  .op (.mv (e 1)) fun t41 =>
  .op (.lenSl t41) fun t42 =>
  .op (.mv (.int .i64 0)) fun t43 =>
  .done (((e.upd 41 t41).upd 42 t42).upd 43 t43)
theorem c5_r14_run {CP : CProg} (e : Env) (h : Heap) (Q : Post) : RunR CP (c5_r14 e) h Q ↔ RunR CP (
  .op (.mv (e 1)) fun t41 =>
  .op (.lenSl t41) fun t42 =>
  .op (.mv (.int .i64 0)) fun t43 =>
  .done (((e.upd 41 t41).upd 42 t42).upd 43 t43)) h Q := Iff.rfl
def c5_r15 : Env → Reg := fun e =>
  .op (.bin .lss (e 43) (e 42)) fun t44 =>
  .done (e.upd 44 t44)
theorem c5_r15_run {CP : CProg} (e : Env) (h : Heap) (Q : Post) : RunR CP (c5_r15 e) h Q ↔ RunR CP (
  .op (.bin .lss (e 43) (e 42)) fun t44 =>
  .done (e.upd 44 t44)) h Q := Iff.rfl
def c5_r16 : Env → Reg := fun e =>
  .op (.indexSl 3 (e 41) (e 43)) fun t45 =>
  .op (.load (some 3) t45) fun t46 =>
  .op (.alloc 39 [(.int .i64 0), (.int .i64 0), (.string ⟨#[]⟩)]) fun t11 =>
  .op (.store 3 t11 t46) fun _ =>
  .done (e.upd 11 t11)
theorem c5_r16_run {CP : CProg} (e : Env) (h : Heap) (Q : Post) : RunR CP (c5_r16 e) h Q ↔ RunR CP (
  .op (.indexSl 3 (e 41) (e 43)) fun t45 =>
  .op (.load (some 3) t45) fun t46 =>
  .op (.alloc 39 [(.int .i64 0), (.int .i64 0), (.string ⟨#[]⟩)]) fun t11 =>
  .op (.store 3 t11 t46) fun _ =>
  .done (e.upd 11 t11)) h Q := Iff.rfl
def c5_r17 : Env → Reg := fun e =>
  .op (.fieldAddr 2 (e 11)) fun t47 =>
  .op (.load none t47) fun t48 =>
  .op (.lenStr t48) fun t49 =>
  .op (.bin .gtr t49 (.int .i64 300)) fun t50 =>
  .done (e.upd 50 t50)
theorem c5_r17_run {CP : CProg} (e : Env) (h : Heap) (Q : Post) : RunR CP (c5_r17 e) h Q ↔ RunR CP (
  .op (.fieldAddr 2 (e 11)) fun t47 =>
  .op (.load none t47) fun t48 =>
  .op (.lenStr t48) fun t49 =>
  .op (.bin .gtr t49 (.int .i64 300)) fun t50 =>
  .done (e.upd 50 t50)) h Q := Iff.rfl
def c5_r18 : Env → Reg := fun e =>
  .op (.mv (.bool true)) fun t4 =>
  .done (e.upd 4 t4)
theorem c5_r18_run {CP : CProg} (e : Env) (h : Heap) (Q : Post) : RunR CP (c5_r18 e) h Q ↔ RunR CP (
  .op (.mv (.bool true)) fun t4 =>
  .done (e.upd 4 t4)) h Q := Iff.rfl
def c5_r19 : Env → Reg := fun e =>
  .op (.fieldAddr 0 (e 11)) fun t51 =>
  .op (.load none t51) fun t52 =>
  .op (.bin .and t52 (.int .i64 1)) fun t53 =>
  .op (.bin .eql t53 (.int .i64 0)) fun t54 =>
  .done (e.upd 54 t54)
theorem c5_r19_run {CP : CProg} (e : Env) (h : Heap) (Q : Post) : RunR CP (c5_r19 e) h Q ↔ RunR CP (
  .op (.fieldAddr 0 (e 11)) fun t51 =>
  .op (.load none t51) fun t52 =>
  .op (.bin .and t52 (.int .i64 1)) fun t53 =>
  .op (.bin .eql t53 (.int .i64 0)) fun t54 =>
  .done (e.upd 54 t54)) h Q := Iff.rfl
def c5_r20 : Env → Reg := fun e =>
  .op (.mv (.int .i64 (-1))) fun t12 =>
  .done (e.upd 12 t12)
theorem c5_r20_run {CP : CProg} (e : Env) (h : Heap) (Q : Post) : RunR CP (c5_r20 e) h Q ↔ RunR CP (
  .op (.mv (.int .i64 (-1))) fun t12 =>
  .done (e.upd 12 t12)) h Q := Iff.rfl
def c5_r21 : Env → Reg := fun e =>
  .op (.mv (e 8)) fun t55 =>
  .op (.lenSl t55) fun t56 =>
  .op (.bin .gtr t56 (.int .i64 0)) fun t57 =>
  .op (.mv t57) fun t58 =>
  .opg t58 true (.fieldAddr 2 (e 11)) fun t59 =>
  .opg t58 true (.load none t59) fun t60 =>
  .opg t58 true (.lenStr t60) fun t61 =>
  .opg t58 true (.bin .leq t61 (.int .i64 64)) fun t62 =>
  .op (.pick t58 t62 (.bool false)) fun t63 =>
  .done (e.upd 63 t63)
theorem c5_r21_run {CP : CProg} (e : Env) (h : Heap) (Q : Post) : RunR CP (c5_r21 e) h Q ↔ RunR CP (
  .op (.mv (e 8)) fun t55 =>
  .op (.lenSl t55) fun t56 =>
  .op (.bin .gtr t56 (.int .i64 0)) fun t57 =>
  .op (.mv t57) fun t58 =>
  .opg t58 true (.fieldAddr 2 (e 11)) fun t59 =>
  .opg t58 true (.load none t59) fun t60 =>
  .opg t58 true (.lenStr t60) fun t61 =>
  .opg t58 true (.bin .leq t61 (.int .i64 64)) fun t62 =>
  .op (.pick t58 t62 (.bool false)) fun t63 =>
  .done (e.upd 63 t63)) h Q := Iff.rfl
def c5_r22 : Env → Reg := fun e =>
  .op (.mv (e 8)) fun t64 =>
  .op (.mv (e 8)) fun t65 =>
  .op (.lenSl t65) fun t66 =>
  .op (.bin .sub t66 (.int .i64 1)) fun t67 =>
  .op (.indexSl 1 t64 t67) fun t68 =>
  .op (.load none t68) fun t69 =>
  .op (.mv t69) fun t12 =>
  .done (e.upd 12 t12)
theorem c5_r22_run {CP : CProg} (e : Env) (h : Heap) (Q : Post) : RunR CP (c5_r22 e) h Q ↔ RunR CP (
  .op (.mv (e 8)) fun t64 =>
  .op (.mv (e 8)) fun t65 =>
  .op (.lenSl t65) fun t66 =>
  .op (.bin .sub t66 (.int .i64 1)) fun t67 =>
  .op (.indexSl 1 t64 t67) fun t68 =>
  .op (.load none t68) fun t69 =>
  .op (.mv t69) fun t12 =>
  .done (e.upd 12 t12)) h Q := Iff.rfl
def c5_r23 : Env → Reg := fun e =>
  .op (.mv (e 8)) fun t70 =>
  .op (.mv (e 8)) fun t71 =>
  .op (.lenSl t71) fun t72 =>
  .op (.bin .sub t72 (.int .i64 1)) fun t73 =>
  .op (.slice 3 1 t70 none (some t73)) fun t74 =>
  .op (.mv t74) fun t8 =>
  .done (e.upd 8 t8)
theorem c5_r23_run {CP : CProg} (e : Env) (h : Heap) (Q : Post) : RunR CP (c5_r23 e) h Q ↔ RunR CP (
  .op (.mv (e 8)) fun t70 =>
  .op (.mv (e 8)) fun t71 =>
  .op (.lenSl t71) fun t72 =>
  .op (.bin .sub t72 (.int .i64 1)) fun t73 =>
  .op (.slice 3 1 t70 none (some t73)) fun t74 =>
  .op (.mv t74) fun t8 =>
  .done (e.upd 8 t8)) h Q := Iff.rfl
def c5_r24 : Env → Reg := fun e =>
  .op (.mv (e 6)) fun t75 =>
  .op (.mv (e 12)) fun t76 =>
  .op (.mv (e 7)) fun t77 =>
  .op (.mv (e 12)) fun t78 =>
  .op (.fieldAddr 2 (e 11)) fun t79 =>
  .op (.load none t79) fun t80 =>
  .op (.indexSl 1 t75 t76) fun t81 =>
  .op (.store 1 t81 t80) fun _ =>
  .op (.indexSl 1 t77 t78) fun t82 =>
  .op (.store 1 t82 (.bool true)) fun _ =>
  .done e
theorem c5_r24_run {CP : CProg} (e : Env) (h : Heap) (Q : Post) : RunR CP (c5_r24 e) h Q ↔ RunR CP (
  .op (.mv (e 6)) fun t75 =>
  .op (.mv (e 12)) fun t76 =>
  .op (.mv (e 7)) fun t77 =>
  .op (.mv (e 12)) fun t78 =>
  .op (.fieldAddr 2 (e 11)) fun t79 =>
  .op (.load none t79) fun t80 =>
  .op (.indexSl 1 t75 t76) fun t81 =>
  .op (.store 1 t81 t80) fun _ =>
  .op (.indexSl 1 t77 t78) fun t82 =>
  .op (.store 1 t82 (.bool true)) fun _ =>
  .done e) h Q := Iff.rfl
def c5_r25 : Env → Reg := fun e =>
  .op (.mv (e 5)) fun t83 =>
  .op (.fieldAddr 2 (e 11)) fun t84 =>
  .op (.load none t84) fun t85 =>
  .op (.call 9 [t83, t85]) fun t86 =>
  .op (.mv (e 12)) fun t87 =>
  .op (.bin .neq t86 t87) fun t88 =>
  .done (e.upd 88 t88)
theorem c5_r25_run {CP : CProg} (e : Env) (h : Heap) (Q : Post) : RunR CP (c5_r25 e) h Q ↔ RunR CP (
  .op (.mv (e 5)) fun t83 =>
  .op (.fieldAddr 2 (e 11)) fun t84 =>
  .op (.load none t84) fun t85 =>
  .op (.call 9 [t83, t85]) fun t86 =>
  .op (.mv (e 12)) fun t87 =>
  .op (.bin .neq t86 t87) fun t88 =>
  .done (e.upd 88 t88)) h Q := Iff.rfl
def c5_r26 : Env → Reg := fun e =>
  .op (.mv (.bool false)) fun t4 =>
  .done (e.upd 4 t4)
theorem c5_r26_run {CP : CProg} (e : Env) (h : Heap) (Q : Post) : RunR CP (c5_r26 e) h Q ↔ RunR CP (
  .op (.mv (.bool false)) fun t4 =>
  .done (e.upd 4 t4)) h Q := Iff.rfl
def c5_r27 : Env → Reg := fun e =>
  .op (.fieldAddr 1 (e 11)) fun t89 =>
  .op (.load none t89) fun t90 =>
  .op (.bin .rem t90 (.int .i64 20)) fun t91 =>
  .op (.bin .sub t91 (.int .i64 2)) fun t92 =>
  .op (.mv t92) fun t13 =>
  .done (e.upd 13 t13)
theorem c5_r27_run {CP : CProg} (e : Env) (h : Heap) (Q : Post) : RunR CP (c5_r27 e) h Q ↔ RunR CP (
  .op (.fieldAddr 1 (e 11)) fun t89 =>
  .op (.load none t89) fun t90 =>
  .op (.bin .rem t90 (.int .i64 20)) fun t91 =>
  .op (.bin .sub t91 (.int .i64 2)) fun t92 =>
  .op (.mv t92) fun t13 =>
  .done (e.upd 13 t13)) h Q := Iff.rfl
def c5_r28 : Env → Reg := fun e =>
  .op (.mv (e 5)) fun t93 =>
  .op (.mv (e 13)) fun t94 =>
  .op (.call 13 [t93, t94]) fun t95 =>
  .done e
theorem c5_r28_run {CP : CProg} (e : Env) (h : Heap) (Q : Post) : RunR CP (c5_r28 e) h Q ↔ RunR CP (
  .op (.mv (e 5)) fun t93 =>
  .op (.mv (e 13)) fun t94 =>
  .op (.call 13 [t93, t94]) fun t95 =>
  .done e) h Q := Iff.rfl
def c5_r29_c1 (e : Env) (t103 : Value) : Reg :=
  .opg t103 true (.mv (e 7)) fun t104 =>
  .opg t103 true (.mv (e 13)) fun t105 =>
  .opg t103 true (.indexSl 1 t104 t105) fun t106 =>
  .opg t103 true (.load none t106) fun t107 =>
  .op (.pick t103 t107 (.bool false)) fun t108 =>
  .done (e.upd 108 t108)
theorem c5_r29_c1_run {CP : CProg} (e : Env) (t103 : Value) (h : Heap) (Q : Post) : RunR CP (c5_r29_c1 e t103) h Q ↔ RunR CP (
  .opg t103 true (.mv (e 7)) fun t104 =>
  .opg t103 true (.mv (e 13)) fun t105 =>
  .opg t103 true (.indexSl 1 t104 t105) fun t106 =>
  .opg t103 true (.load none t106) fun t107 =>
  .op (.pick t103 t107 (.bool false)) fun t108 =>
  .done (e.upd 108 t108)) h Q := Iff.rfl
def c5_r29 : Env → Reg := fun e =>
  .op (.mv (e 13)) fun t96 =>
  .op (.bin .geq t96 (.int .i64 0)) fun t97 =>
  .op (.mv t97) fun t98 =>
  .opg t98 true (.mv (e 13)) fun t99 =>
  .opg t98 true (.mv (e 0)) fun t100 =>
  .opg t98 true (.bin .lss t99 t100) fun t101 =>
  .op (.pick t98 t101 (.bool false)) fun t102 =>
  .op (.mv t102) fun t103 =>
  c5_r29_c1 e t103
theorem c5_r29_run {CP : CProg} (e : Env) (h : Heap) (Q : Post) : RunR CP (c5_r29 e) h Q ↔ RunR CP (
  .op (.mv (e 13)) fun t96 =>
  .op (.bin .geq t96 (.int .i64 0)) fun t97 =>
  .op (.mv t97) fun t98 =>
  .opg t98 true (.mv (e 13)) fun t99 =>
  .opg t98 true (.mv (e 0)) fun t100 =>
  .opg t98 true (.bin .lss t99 t100) fun t101 =>
  .op (.pick t98 t101 (.bool false)) fun t102 =>
  .op (.mv t102) fun t103 =>
  c5_r29_c1 e t103) h Q := Iff.rfl
def c5_r30 : Env → Reg := fun e =>
  .op (.mv (e 7)) fun t109 =>
  .op (.mv (e 13)) fun t110 =>
  .op (.indexSl 1 t109 t110) fun t111 =>
  .op (.store 1 t111 (.bool false)) fun _ =>
  .done e
theorem c5_r30_run {CP : CProg} (e : Env) (h : Heap) (Q : Post) : RunR CP (c5_r30 e) h Q ↔ RunR CP (
  .op (.mv (e 7)) fun t109 =>
  .op (.mv (e 13)) fun t110 =>
  .op (.indexSl 1 t109 t110) fun t111 =>
  .op (.store 1 t111 (.bool false)) fun _ =>
  .done e) h Q := Iff.rfl
def c5_r31 : Env → Reg := fun e =>
  .op (.mv (e 8)) fun t112 =>
  .op (.mv (e 13)) fun t113 =>
  .op (.buildSlice 3 1 [(.int .i64 0)] [(0, 1, t113)]) fun t114 =>
  .op (.append 3 1 8 t112 t114) fun t115 =>
  .op (.mv t115) fun t8 =>
  .done (e.upd 8 t8)
theorem c5_r31_run {CP : CProg} (e : Env) (h : Heap) (Q : Post) : RunR CP (c5_r31 e) h Q ↔ RunR CP (
  .op (.mv (e 8)) fun t112 =>
  .op (.mv (e 13)) fun t113 =>
  .op (.buildSlice 3 1 [(.int .i64 0)] [(0, 1, t113)]) fun t114 =>
  .op (.append 3 1 8 t112 t114) fun t115 =>
  .op (.mv t115) fun t8 =>
  .done (e.upd 8 t8)) h Q := Iff.rfl
def c5_r32 : Env → Reg := fun e =>
  .op (.mv (.int .i64 (-1))) fun t14 =>
  .done (e.upd 14 t14)
theorem c5_r32_run {CP : CProg} (e : Env) (h : Heap) (Q : Post) : RunR CP (c5_r32 e) h Q ↔ RunR CP (
  .op (.mv (.int .i64 (-1))) fun t14 =>
  .done (e.upd 14 t14)) h Q := Iff.rfl
def c5_r33 : Env → Reg := fun e =>
  .op (.mv (e 14)) fun t116 =>
  .op (.mv (e 0)) fun t117 =>
  .op (.bin .leq t116 t117) fun t118 =>
  .done (e.upd 118 t118)
theorem c5_r33_run {CP : CProg} (e : Env) (h : Heap) (Q : Post) : RunR CP (c5_r33 e) h Q ↔ RunR CP (
  .op (.mv (e 14)) fun t116 =>
  .op (.mv (e 0)) fun t117 =>
  .op (.bin .leq t116 t117) fun t118 =>
  .done (e.upd 118 t118)) h Q := Iff.rfl
def c5_r35_c1 (e : Env) (t128 : Value) : Reg :=
  .opg t128 true (.mv (e 7)) fun t129 =>
  .opg t128 true (.mv (e 14)) fun t130 =>
  .opg t128 true (.indexSl 1 t129 t130) fun t131 =>
  .opg t128 true (.load none t131) fun t132 =>
  .op (.pick t128 t132 (.bool false)) fun t133 =>
  .op (.mv t133) fun t15 =>
  .done (e.upd 15 t15)
theorem c5_r35_c1_run {CP : CProg} (e : Env) (t128 : Value) (h : Heap) (Q : Post) : RunR CP (c5_r35_c1 e t128) h Q ↔ RunR CP (
  .opg t128 true (.mv (e 7)) fun t129 =>
  .opg t128 true (.mv (e 14)) fun t130 =>
  .opg t128 true (.indexSl 1 t129 t130) fun t131 =>
  .opg t128 true (.load none t131) fun t132 =>
  .op (.pick t128 t132 (.bool false)) fun t133 =>
  .op (.mv t133) fun t15 =>
  .done (e.upd 15 t15)) h Q := Iff.rfl
def c5_r35 : Env → Reg := fun e =>
  .op (.mv (e 14)) fun t121 =>
  .op (.bin .geq t121 (.int .i64 0)) fun t122 =>
  .op (.mv t122) fun t123 =>
  .opg t123 true (.mv (e 14)) fun t124 =>
  .opg t123 true (.mv (e 0)) fun t125 =>
  .opg t123 true (.bin .lss t124 t125) fun t126 =>
  .op (.pick t123 t126 (.bool false)) fun t127 =>
  .op (.mv t127) fun t128 =>
  c5_r35_c1 e t128
theorem c5_r35_run {CP : CProg} (e : Env) (h : Heap) (Q : Post) : RunR CP (c5_r35 e) h Q ↔ RunR CP (
  .op (.mv (e 14)) fun t121 =>
  .op (.bin .geq t121 (.int .i64 0)) fun t122 =>
  .op (.mv t122) fun t123 =>
  .opg t123 true (.mv (e 14)) fun t124 =>
  .opg t123 true (.mv (e 0)) fun t125 =>
  .opg t123 true (.bin .lss t124 t125) fun t126 =>
  .op (.pick t123 t126 (.bool false)) fun t127 =>
  .op (.mv t127) fun t128 =>
  c5_r35_c1 e t128) h Q := Iff.rfl
def c5_r36 : Env → Reg := fun e =>
  .op (.mv (e 5)) fun t135 =>
  .op (.mv (e 14)) fun t136 =>
  .op (.call 10 [t135, t136]) fun t137 =>
  .op (.mv t137) fun t134 =>
  .op (.extract t134 0) fun t138 =>
  .op (.extract t134 1) fun t139 =>
  .op (.mv t138) fun t16 =>
  .op (.mv t139) fun t17 =>
  .done ((e.upd 16 t16).upd 17 t17)
theorem c5_r36_run {CP : CProg} (e : Env) (h : Heap) (Q : Post) : RunR CP (c5_r36 e) h Q ↔ RunR CP (
  .op (.mv (e 5)) fun t135 =>
  .op (.mv (e 14)) fun t136 =>
  .op (.call 10 [t135, t136]) fun t137 =>
  .op (.mv t137) fun t134 =>
  .op (.extract t134 0) fun t138 =>
  .op (.extract t134 1) fun t139 =>
  .op (.mv t138) fun t16 =>
  .op (.mv t139) fun t17 =>
  .done ((e.upd 16 t16).upd 17 t17)) h Q := Iff.rfl
def c5_r37_c6 (e : Env) (t177 : Value) (t182 : Value) (t184 : Value) : Reg :=
  .opg t184 true (.mv (e 6)) fun t185 =>
  .opg t184 true (.mv (e 14)) fun t186 =>
  .opg t184 true (.indexSl 1 t185 t186) fun t187 =>
  .opg t184 true (.load none t187) fun t188 =>
  .opg t184 true (.fieldAddr 2 (e 11)) fun t189 =>
  .opg t184 true (.load none t189) fun t190 =>
  .opg t184 true (.bin .eql t188 t190) fun t191 =>
  .opg t177 false (.pick t184 t191 (.bool false)) fun t192 =>
  .opg t177 false (.eqK .bool true t182 t192) fun t193 =>
  .op (.pick t177 (.bool true) t193) fun t194 =>
  .done (e.upd 194 t194)
theorem c5_r37_c6_run {CP : CProg} (e : Env) (t177 : Value) (t182 : Value) (t184 : Value) (h : Heap) (Q : Post) : RunR CP (c5_r37_c6 e t177 t182 t184) h Q ↔ RunR CP (
  .opg t184 true (.mv (e 6)) fun t185 =>
  .opg t184 true (.mv (e 14)) fun t186 =>
  .opg t184 true (.indexSl 1 t185 t186) fun t187 =>
  .opg t184 true (.load none t187) fun t188 =>
  .opg t184 true (.fieldAddr 2 (e 11)) fun t189 =>
  .opg t184 true (.load none t189) fun t190 =>
  .opg t184 true (.bin .eql t188 t190) fun t191 =>
  .opg t177 false (.pick t184 t191 (.bool false)) fun t192 =>
  .opg t177 false (.eqK .bool true t182 t192) fun t193 =>
  .op (.pick t177 (.bool true) t193) fun t194 =>
  .done (e.upd 194 t194)) h Q := Iff.rfl
def c5_r37_c5 (e : Env) (t177 : Value) : Reg :=
  .opg t177 false (.mv (e 5)) fun t178 =>
  .opg t177 false (.mv (e 14)) fun t179 =>
  .opg t177 false (.fieldAddr 2 (e 11)) fun t180 =>
  .opg t177 false (.load none t180) fun t181 =>
  .snap fun h42 =>
  .opg t177 false (.call 11 [t178, t179, t181]) fun t182 =>
  .opg t177 false (.mv (e 15)) fun t183 =>
  .opg t177 false (.mv t183) fun t184 =>
  c5_r37_c6 e t177 t182 t184
theorem c5_r37_c5_run {CP : CProg} (e : Env) (t177 : Value) (h : Heap) (Q : Post) : RunR CP (c5_r37_c5 e t177) h Q ↔ RunR CP (
  .opg t177 false (.mv (e 5)) fun t178 =>
  .opg t177 false (.mv (e 14)) fun t179 =>
  .opg t177 false (.fieldAddr 2 (e 11)) fun t180 =>
  .opg t177 false (.load none t180) fun t181 =>
  .snap fun h42 =>
  .opg t177 false (.call 11 [t178, t179, t181]) fun t182 =>
  .opg t177 false (.mv (e 15)) fun t183 =>
  .opg t177 false (.mv t183) fun t184 =>
  c5_r37_c6 e t177 t182 t184) h Q := Iff.rfl
def c5_r37_c4 (e : Env) (t164 : Value) (t167 : Value) (t170 : Value) : Reg :=
  .opg t170 false (.mv (e 5)) fun t171 =>
  .opg t170 false (.mv (e 14)) fun t172 =>
  .snap fun h33 =>
  .opg t170 false (.call 11 [t171, t172, (.string ⟨#[]⟩)]) fun t173 =>
  .opg t167 true (.pick t170 (.bool true) t173) fun t174 =>
  .opg t164 false (.pick t167 t174 (.bool false)) fun t175 =>
  .op (.pick t164 (.bool true) t175) fun t176 =>
  .op (.mv t176) fun t177 =>
  c5_r37_c5 e t177
theorem c5_r37_c4_run {CP : CProg} (e : Env) (t164 : Value) (t167 : Value) (t170 : Value) (h : Heap) (Q : Post) : RunR CP (c5_r37_c4 e t164 t167 t170) h Q ↔ RunR CP (
  .opg t170 false (.mv (e 5)) fun t171 =>
  .opg t170 false (.mv (e 14)) fun t172 =>
  .snap fun h33 =>
  .opg t170 false (.call 11 [t171, t172, (.string ⟨#[]⟩)]) fun t173 =>
  .opg t167 true (.pick t170 (.bool true) t173) fun t174 =>
  .opg t164 false (.pick t167 t174 (.bool false)) fun t175 =>
  .op (.pick t164 (.bool true) t175) fun t176 =>
  .op (.mv t176) fun t177 =>
  c5_r37_c5 e t177) h Q := Iff.rfl
def c5_r37_c3 (e : Env) (t143 : Value) (t162 : Value) : Reg :=
  .op (.pick t143 (.bool true) t162) fun t163 =>
  .op (.mv t163) fun t164 =>
  .opg t164 false (.mv (e 15)) fun t165 =>
  .opg t164 false (.un .not t165) fun t166 =>
  .opg t164 false (.mv t166) fun t167 =>
  .opg t167 true (.mv (e 16)) fun t168 =>
  .opg t167 true (.bin .neq t168 (.string ⟨#[]⟩)) fun t169 =>
  .opg t167 true (.mv t169) fun t170 =>
  c5_r37_c4 e t164 t167 t170
theorem c5_r37_c3_run {CP : CProg} (e : Env) (t143 : Value) (t162 : Value) (h : Heap) (Q : Post) : RunR CP (c5_r37_c3 e t143 t162) h Q ↔ RunR CP (
  .op (.pick t143 (.bool true) t162) fun t163 =>
  .op (.mv t163) fun t164 =>
  .opg t164 false (.mv (e 15)) fun t165 =>
  .opg t164 false (.un .not t165) fun t166 =>
  .opg t164 false (.mv t166) fun t167 =>
  .opg t167 true (.mv (e 16)) fun t168 =>
  .opg t167 true (.bin .neq t168 (.string ⟨#[]⟩)) fun t169 =>
  .opg t167 true (.mv t169) fun t170 =>
  c5_r37_c4 e t164 t167 t170) h Q := Iff.rfl
def c5_r37_c2 (e : Env) (t143 : Value) (t145 : Value) (t152 : Value) (t153 : Value) (t154 : Value) (t155 : Value) : Reg :=
  .opg t152 false (.mv (e 14)) fun t156 =>
  .opg t152 false (.indexSl 1 t155 t156) fun t157 =>
  .opg t152 false (.load none t157) fun t158 =>
  .snap fun h19 =>
  .opg t152 false (.call 11 [t153, t154, t158]) fun t159 =>
  .opg t152 false (.un .not t159) fun t160 =>
  .opg t145 true (.pick t152 (.bool true) t160) fun t161 =>
  .opg t143 false (.pick t145 t161 (.bool false)) fun t162 =>
  c5_r37_c3 e t143 t162
theorem c5_r37_c2_run {CP : CProg} (e : Env) (t143 : Value) (t145 : Value) (t152 : Value) (t153 : Value) (t154 : Value) (t155 : Value) (h : Heap) (Q : Post) : RunR CP (c5_r37_c2 e t143 t145 t152 t153 t154 t155) h Q ↔ RunR CP (
  .opg t152 false (.mv (e 14)) fun t156 =>
  .opg t152 false (.indexSl 1 t155 t156) fun t157 =>
  .opg t152 false (.load none t157) fun t158 =>
  .snap fun h19 =>
  .opg t152 false (.call 11 [t153, t154, t158]) fun t159 =>
  .opg t152 false (.un .not t159) fun t160 =>
  .opg t145 true (.pick t152 (.bool true) t160) fun t161 =>
  .opg t143 false (.pick t145 t161 (.bool false)) fun t162 =>
  c5_r37_c3 e t143 t162) h Q := Iff.rfl
def c5_r37_c1 (e : Env) (t143 : Value) (t145 : Value) (t146 : Value) (t147 : Value) : Reg :=
  .opg t145 true (.mv (e 14)) fun t148 =>
  .opg t145 true (.indexSl 1 t147 t148) fun t149 =>
  .opg t145 true (.load none t149) fun t150 =>
  .opg t145 true (.bin .neq t146 t150) fun t151 =>
  .opg t145 true (.mv t151) fun t152 =>
  .opg t152 false (.mv (e 5)) fun t153 =>
  .opg t152 false (.mv (e 14)) fun t154 =>
  .opg t152 false (.mv (e 6)) fun t155 =>
  c5_r37_c2 e t143 t145 t152 t153 t154 t155
theorem c5_r37_c1_run {CP : CProg} (e : Env) (t143 : Value) (t145 : Value) (t146 : Value) (t147 : Value) (h : Heap) (Q : Post) : RunR CP (c5_r37_c1 e t143 t145 t146 t147) h Q ↔ RunR CP (
  .opg t145 true (.mv (e 14)) fun t148 =>
  .opg t145 true (.indexSl 1 t147 t148) fun t149 =>
  .opg t145 true (.load none t149) fun t150 =>
  .opg t145 true (.bin .neq t146 t150) fun t151 =>
  .opg t145 true (.mv t151) fun t152 =>
  .opg t152 false (.mv (e 5)) fun t153 =>
  .opg t152 false (.mv (e 14)) fun t154 =>
  .opg t152 false (.mv (e 6)) fun t155 =>
  c5_r37_c2 e t143 t145 t152 t153 t154 t155) h Q := Iff.rfl
def c5_r37 : Env → Reg := fun e =>
  .op (.mv (e 17)) fun t140 =>
  .op (.mv (e 15)) fun t141 =>
  .op (.eqK .bool true t140 t141) fun t142 =>
  .op (.mv t142) fun t143 =>
  .opg t143 false (.mv (e 15)) fun t144 =>
  .opg t143 false (.mv t144) fun t145 =>
  .opg t145 true (.mv (e 16)) fun t146 =>
  .opg t145 true (.mv (e 6)) fun t147 =>
  c5_r37_c1 e t143 t145 t146 t147
theorem c5_r37_run {CP : CProg} (e : Env) (h : Heap) (Q : Post) : RunR CP (c5_r37 e) h Q ↔ RunR CP (
  .op (.mv (e 17)) fun t140 =>
  .op (.mv (e 15)) fun t141 =>
  .op (.eqK .bool true t140 t141) fun t142 =>
  .op (.mv t142) fun t143 =>
  .opg t143 false (.mv (e 15)) fun t144 =>
  .opg t143 false (.mv t144) fun t145 =>
  .opg t145 true (.mv (e 16)) fun t146 =>
  .opg t145 true (.mv (e 6)) fun t147 =>
  c5_r37_c1 e t143 t145 t146 t147) h Q := Iff.rfl
def c5_r38 : Env → Reg := fun e =>
  .op (.mv (.bool false)) fun t4 =>
  .done (e.upd 4 t4)
theorem c5_r38_run {CP : CProg} (e : Env) (h : Heap) (Q : Post) : RunR CP (c5_r38 e) h Q ↔ RunR CP (
  .op (.mv (.bool false)) fun t4 =>
  .done (e.upd 4 t4)) h Q := Iff.rfl
def c5_r34 : Env → Reg := fun e =>
  .op (.mv (e 14)) fun t119 =>
  .op (.bin .add t119 (.int .i64 1)) fun t120 =>
  .op (.mv t120) fun t14 =>
  .done (e.upd 14 t14)
theorem c5_r34_run {CP : CProg} (e : Env) (h : Heap) (Q : Post) : RunR CP (c5_r34 e) h Q ↔ RunR CP (
  .op (.mv (e 14)) fun t119 =>
  .op (.bin .add t119 (.int .i64 1)) fun t120 =>
  .op (.mv t120) fun t14 =>
  .done (e.upd 14 t14)) h Q := Iff.rfl
def c5_l1 : CC := (.seq (.seq (.region c5_r33) (.cond (fun e => e 118) .skip (.exit 4))) (.seq (.block 5 (.seq (.region c5_r35) (.seq (.region c5_r36) (.seq (.region c5_r37) (.cond (fun e => e 194) (.seq (.region c5_r38) .ret) .skip))))) (.region c5_r34)))
def c5_r39_c1 (e : Env) (t199 : Value) (t201 : Value) (t202 : Value) : Reg :=
  .opg t199 false (.mv (e 8)) fun t203 =>
  .opg t199 false (.lenSl t203) fun t204 =>
  .opg t199 false (.bin .sub t202 t204) fun t205 =>
  .opg t199 false (.bin .neq t201 t205) fun t206 =>
  .op (.pick t199 (.bool true) t206) fun t207 =>
  .done (e.upd 207 t207)
theorem c5_r39_c1_run {CP : CProg} (e : Env) (t199 : Value) (t201 : Value) (t202 : Value) (h : Heap) (Q : Post) : RunR CP (c5_r39_c1 e t199 t201 t202) h Q ↔ RunR CP (
  .opg t199 false (.mv (e 8)) fun t203 =>
  .opg t199 false (.lenSl t203) fun t204 =>
  .opg t199 false (.bin .sub t202 t204) fun t205 =>
  .opg t199 false (.bin .neq t201 t205) fun t206 =>
  .op (.pick t199 (.bool true) t206) fun t207 =>
  .done (e.upd 207 t207)) h Q := Iff.rfl
def c5_r39 : Env → Reg := fun e =>
  .op (.mv (e 5)) fun t195 =>
  .op (.call 14 [t195]) fun t196 =>
  .op (.mv (e 0)) fun t197 =>
  .op (.bin .neq t196 t197) fun t198 =>
  .op (.mv t198) fun t199 =>
  .opg t199 false (.mv (e 5)) fun t200 =>
  .opg t199 false (.call 12 [t200]) fun t201 =>
  .opg t199 false (.mv (e 0)) fun t202 =>
  c5_r39_c1 e t199 t201 t202
theorem c5_r39_run {CP : CProg} (e : Env) (h : Heap) (Q : Post) : RunR CP (c5_r39 e) h Q ↔ RunR CP (
  .op (.mv (e 5)) fun t195 =>
  .op (.call 14 [t195]) fun t196 =>
  .op (.mv (e 0)) fun t197 =>
  .op (.bin .neq t196 t197) fun t198 =>
  .op (.mv t198) fun t199 =>
  .opg t199 false (.mv (e 5)) fun t200 =>
  .opg t199 false (.call 12 [t200]) fun t201 =>
  .opg t199 false (.mv (e 0)) fun t202 =>
  c5_r39_c1 e t199 t201 t202) h Q := Iff.rfl
def c5_r40 : Env → Reg := fun e =>
  .op (.mv (.bool false)) fun t4 =>
  .done (e.upd 4 t4)
theorem c5_r40_run {CP : CProg} (e : Env) (h : Heap) (Q : Post) : RunR CP (c5_r40 e) h Q ↔ RunR CP (
  .op (.mv (.bool false)) fun t4 =>
  .done (e.upd 4 t4)) h Q := Iff.rfl
def c5_r41 : Env → Reg := fun e =>
  .op (.bin .add (e 43) (.int .i64 1)) fun t208 =>
  .op (.mv t208) fun t43 =>
  .done (e.upd 43 t43)
theorem c5_r41_run {CP : CProg} (e : Env) (h : Heap) (Q : Post) : RunR CP (c5_r41 e) h Q ↔ RunR CP (
  .op (.bin .add (e 43) (.int .i64 1)) fun t208 =>
  .op (.mv t208) fun t43 =>
  .done (e.upd 43 t43)) h Q := Iff.rfl
def c5_l2 : CC := (.seq (.region c5_r15) (.seq (.cond (fun e => e 44) .skip (.exit 2)) (.seq (.block 3 (.seq (.region c5_r16) (.seq (.seq (.region c5_r17) (.cond (fun e => e 50) (.seq (.region c5_r18) .ret) .skip)) (.seq (.seq (.region c5_r19) (.cond (fun e => e 54) (.seq (.region c5_r20) (.seq (.seq (.region c5_r21) (.cond (fun e => e 63) (.seq (.region c5_r22) (.seq (.region c5_r23) (.region c5_r24))) .skip)) (.seq (.region c5_r25) (.cond (fun e => e 88) (.seq (.region c5_r26) .ret) .skip)))) (.seq (.region c5_r27) (.seq (.region c5_r28) (.seq (.region c5_r29) (.cond (fun e => e 108) (.seq (.region c5_r30) (.region c5_r31)) .skip)))))) (.seq (.seq (.region c5_r32) (.block 4 (.loop c5_l1))) (.seq (.region c5_r39) (.cond (fun e => e 207) (.seq (.region c5_r40) .ret) .skip))))))) (.region c5_r41))))
def c5_r42 : Env → Reg := fun e =>
  .op (.mv (.bool true)) fun t4 =>
  .done (e.upd 4 t4)
theorem c5_r42_run {CP : CProg} (e : Env) (h : Heap) (Q : Post) : RunR CP (c5_r42 e) h Q ↔ RunR CP (
  .op (.mv (.bool true)) fun t4 =>
  .done (e.upd 4 t4)) h Q := Iff.rfl
def c5 : CFn := ⟨(.seq (.region c5_r0) (.seq (.seq (.region c5_r1) (.cond (fun e => e 19) (.seq (.region c5_r2) .ret) .skip)) (.seq (.region c5_r3) (.seq (.seq (.region c5_r4) (.cond (fun e => e 24) (.seq (.region c5_r5) .ret) .skip)) (.seq (.region c5_r6) (.seq (.region c5_r7) (.seq (.region c5_r8) (.seq (.region c5_r9) (.seq (.seq (.region c5_r10) (.block 0 (.loop c5_l0))) (.seq (.seq (.region c5_r14) (.block 2 (.loop c5_l2))) (.seq (.region c5_r42) .ret))))))))))), [4]⟩
def p5 : Pers := ⟨18, [19, 24, 34, 41, 42, 43, 44, 50, 54, 63, 88, 108, 118, 194, 207], 209⟩
-- 6: weighbridge/weighbridgelaw04.KeysNone
def c6_r0 : Env → Reg := fun e =>
  .op (.mv (.bool false)) fun t4 =>
  .done (e.upd 4 t4)
theorem c6_r0_run {CP : CProg} (e : Env) (h : Heap) (Q : Post) : RunR CP (c6_r0 e) h Q ↔ RunR CP (
  .op (.mv (.bool false)) fun t4 =>
  .done (e.upd 4 t4)) h Q := Iff.rfl
def c6_r1 : Env → Reg := fun e =>
  .op (.call 7 []) fun t11 =>
  .op (.un .not t11) fun t12 =>
  .done (e.upd 12 t12)
theorem c6_r1_run {CP : CProg} (e : Env) (h : Heap) (Q : Post) : RunR CP (c6_r1 e) h Q ↔ RunR CP (
  .op (.call 7 []) fun t11 =>
  .op (.un .not t11) fun t12 =>
  .done (e.upd 12 t12)) h Q := Iff.rfl
def c6_r2 : Env → Reg := fun e =>
  .op (.mv (.bool false)) fun t4 =>
  .done (e.upd 4 t4)
theorem c6_r2_run {CP : CProg} (e : Env) (h : Heap) (Q : Post) : RunR CP (c6_r2 e) h Q ↔ RunR CP (
  .op (.mv (.bool false)) fun t4 =>
  .done (e.upd 4 t4)) h Q := Iff.rfl
def c6_r3 : Env → Reg := fun e =>
  .op (.mv (e 1)) fun t13 =>
  .op (.lenStr t13) fun t14 =>
  .op (.bin .gtr t14 (.int .i64 300)) fun t15 =>
  .done (e.upd 15 t15)
theorem c6_r3_run {CP : CProg} (e : Env) (h : Heap) (Q : Post) : RunR CP (c6_r3 e) h Q ↔ RunR CP (
  .op (.mv (e 1)) fun t13 =>
  .op (.lenStr t13) fun t14 =>
  .op (.bin .gtr t14 (.int .i64 300)) fun t15 =>
  .done (e.upd 15 t15)) h Q := Iff.rfl
def c6_r4 : Env → Reg := fun e =>
  .op (.mv (.bool true)) fun t4 =>
  .done (e.upd 4 t4)
theorem c6_r4_run {CP : CProg} (e : Env) (h : Heap) (Q : Post) : RunR CP (c6_r4 e) h Q ↔ RunR CP (
  .op (.mv (.bool true)) fun t4 =>
  .done (e.upd 4 t4)) h Q := Iff.rfl
def c6_r5 : Env → Reg := fun e =>
  .op (.mv (e 0)) fun t16 =>
  .op (.minmax false [t16, (.int .i64 131072)]) fun t17 =>
  .op (.mv (e 0)) fun t18 =>
  .op (.bin .rem t18 (.int .i64 100)) fun t19 =>
  .op (.buildSlice 3 4 [(.int .i64 0)] [(0, 1, t17), (1, 1, t19), (2, 1, (.int .i64 65536)), (3, 1, (.int .i64 65537))]) fun t20 =>
  .op (.lenSl t20) fun t21 =>
  .op (.mv (.int .i64 0)) fun t22 =>
  .done (((e.upd 20 t20).upd 21 t21).upd 22 t22)
theorem c6_r5_run {CP : CProg} (e : Env) (h : Heap) (Q : Post) : RunR CP (c6_r5 e) h Q ↔ RunR CP (
  .op (.mv (e 0)) fun t16 =>
  .op (.minmax false [t16, (.int .i64 131072)]) fun t17 =>
  .op (.mv (e 0)) fun t18 =>
  .op (.bin .rem t18 (.int .i64 100)) fun t19 =>
  .op (.buildSlice 3 4 [(.int .i64 0)] [(0, 1, t17), (1, 1, t19), (2, 1, (.int .i64 65536)), (3, 1, (.int .i64 65537))]) fun t20 =>
  .op (.lenSl t20) fun t21 =>
  .op (.mv (.int .i64 0)) fun t22 =>
  .done (((e.upd 20 t20).upd 21 t21).upd 22 t22)) h Q := Iff.rfl
def c6_r6 : Env → Reg := fun e =>
  .op (.bin .lss (e 22) (e 21)) fun t23 =>
  .done (e.upd 23 t23)
theorem c6_r6_run {CP : CProg} (e : Env) (h : Heap) (Q : Post) : RunR CP (c6_r6 e) h Q ↔ RunR CP (
  .op (.bin .lss (e 22) (e 21)) fun t23 =>
  .done (e.upd 23 t23)) h Q := Iff.rfl
def c6_r7 : Env → Reg := fun e =>
  .op (.indexSl 1 (e 20) (e 22)) fun t24 =>
  .op (.load none t24) fun t25 =>
  .op (.mv t25) fun t6 =>
  .done (e.upd 6 t6)
theorem c6_r7_run {CP : CProg} (e : Env) (h : Heap) (Q : Post) : RunR CP (c6_r7 e) h Q ↔ RunR CP (
  .op (.indexSl 1 (e 20) (e 22)) fun t24 =>
  .op (.load none t24) fun t25 =>
  .op (.mv t25) fun t6 =>
  .done (e.upd 6 t6)) h Q := Iff.rfl
def c6_r8 : Env → Reg := fun e =>
  .op (.mv (e 6)) fun t26 =>
  .op (.call 8 [t26]) fun t27 =>
  .op (.eqK .ptr true t27 (.pointer none)) fun t28 =>
  .op (.mv (e 6)) fun t29 =>
  .op (.bin .geq t29 (.int .i64 0)) fun t30 =>
  .op (.mv t30) fun t31 =>
  .opg t31 true (.mv (e 6)) fun t32 =>
  .opg t31 true (.bin .leq t32 (.int .i64 65536)) fun t33 =>
  .op (.pick t31 t33 (.bool false)) fun t34 =>
  .op (.eqK .bool true t28 t34) fun t35 =>
  .done (e.upd 35 t35)
theorem c6_r8_run {CP : CProg} (e : Env) (h : Heap) (Q : Post) : RunR CP (c6_r8 e) h Q ↔ RunR CP (
  .op (.mv (e 6)) fun t26 =>
  .op (.call 8 [t26]) fun t27 =>
  .op (.eqK .ptr true t27 (.pointer none)) fun t28 =>
  .op (.mv (e 6)) fun t29 =>
  .op (.bin .geq t29 (.int .i64 0)) fun t30 =>
  .op (.mv t30) fun t31 =>
  .opg t31 true (.mv (e 6)) fun t32 =>
  .opg t31 true (.bin .leq t32 (.int .i64 65536)) fun t33 =>
  .op (.pick t31 t33 (.bool false)) fun t34 =>
  .op (.eqK .bool true t28 t34) fun t35 =>
  .done (e.upd 35 t35)) h Q := Iff.rfl
def c6_r9 : Env → Reg := fun e =>
  .op (.mv (.bool false)) fun t4 =>
  .done (e.upd 4 t4)
theorem c6_r9_run {CP : CProg} (e : Env) (h : Heap) (Q : Post) : RunR CP (c6_r9 e) h Q ↔ RunR CP (
  .op (.mv (.bool false)) fun t4 =>
  .done (e.upd 4 t4)) h Q := Iff.rfl
def c6_r10 : Env → Reg := fun e =>
  .op (.bin .add (e 22) (.int .i64 1)) fun t36 =>
  .op (.mv t36) fun t22 =>
  .done (e.upd 22 t22)
theorem c6_r10_run {CP : CProg} (e : Env) (h : Heap) (Q : Post) : RunR CP (c6_r10 e) h Q ↔ RunR CP (
  .op (.bin .add (e 22) (.int .i64 1)) fun t36 =>
  .op (.mv t36) fun t22 =>
  .done (e.upd 22 t22)) h Q := Iff.rfl
def c6_l0 : CC := (.seq (.region c6_r6) (.seq (.cond (fun e => e 23) .skip (.exit 0)) (.seq (.block 1 (.seq (.region c6_r7) (.seq (.region c6_r8) (.cond (fun e => e 35) (.seq (.region c6_r9) .ret) .skip)))) (.region c6_r10))))
def c6_r11 : Env → Reg := fun e =>
  .op (.mv (.pointer none)) fun t7 =>
  .done (e.upd 7 t7)
theorem c6_r11_run {CP : CProg} (e : Env) (h : Heap) (Q : Post) : RunR CP (c6_r11 e) h Q ↔ RunR CP (
  .op (.mv (.pointer none)) fun t7 =>
  .done (e.upd 7 t7)) h Q := Iff.rfl
def c6_r12 : Env → Reg := fun e =>
  .op (.mv (e 7)) fun t37 =>
  .op (.call 13 [t37, (.int .i64 0)]) fun t38 =>
  .done e
theorem c6_r12_run {CP : CProg} (e : Env) (h : Heap) (Q : Post) : RunR CP (c6_r12 e) h Q ↔ RunR CP (
  .op (.mv (e 7)) fun t37 =>
  .op (.call 13 [t37, (.int .i64 0)]) fun t38 =>
  .done e) h Q := Iff.rfl
def c6_r13 : Env → Reg := fun e =>
  .op (.mv (e 7)) fun t40 =>
  .op (.call 10 [t40, (.int .i64 0)]) fun t41 =>
  .op (.mv t41) fun t39 =>
  .op (.extract t39 0) fun t42 =>
  .op (.extract t39 1) fun t43 =>
  .op (.mv t42) fun t8 =>
  .op (.mv t43) fun t9 =>
  .done ((e.upd 8 t8).upd 9 t9)
theorem c6_r13_run {CP : CProg} (e : Env) (h : Heap) (Q : Post) : RunR CP (c6_r13 e) h Q ↔ RunR CP (
  .op (.mv (e 7)) fun t40 =>
  .op (.call 10 [t40, (.int .i64 0)]) fun t41 =>
  .op (.mv t41) fun t39 =>
  .op (.extract t39 0) fun t42 =>
  .op (.extract t39 1) fun t43 =>
  .op (.mv t42) fun t8 =>
  .op (.mv t43) fun t9 =>
  .done ((e.upd 8 t8).upd 9 t9)) h Q := Iff.rfl
def c6_r14 : Env → Reg := fun e =>
  .op (.call 8 [(.int .i64 0)]) fun t44 =>
  .op (.mv t44) fun t10 =>
  .done (e.upd 10 t10)
theorem c6_r14_run {CP : CProg} (e : Env) (h : Heap) (Q : Post) : RunR CP (c6_r14 e) h Q ↔ RunR CP (
  .op (.call 8 [(.int .i64 0)]) fun t44 =>
  .op (.mv t44) fun t10 =>
  .done (e.upd 10 t10)) h Q := Iff.rfl
def c6_r15_c5 (e : Env) (t80 : Value) (t83 : Value) (t84 : Value) : Reg :=
  .opg t80 true (.bin .and t84 (.int .i64 4095)) fun t85 =>
  .opg t80 true (.bin .mul (.int .i64 69) t85) fun t86 =>
  .opg t80 true (.bin .eql t83 t86) fun t87 =>
  .op (.pick t80 t87 (.bool false)) fun t88 =>
  .op (.mv t88) fun t4 =>
  .done (e.upd 4 t4)
theorem c6_r15_c5_run {CP : CProg} (e : Env) (t80 : Value) (t83 : Value) (t84 : Value) (h : Heap) (Q : Post) : RunR CP (c6_r15_c5 e t80 t83 t84) h Q ↔ RunR CP (
  .opg t80 true (.bin .and t84 (.int .i64 4095)) fun t85 =>
  .opg t80 true (.bin .mul (.int .i64 69) t85) fun t86 =>
  .opg t80 true (.bin .eql t83 t86) fun t87 =>
  .op (.pick t80 t87 (.bool false)) fun t88 =>
  .op (.mv t88) fun t4 =>
  .done (e.upd 4 t4)) h Q := Iff.rfl
def c6_r15_c4 (e : Env) (t75 : Value) (t76 : Value) : Reg :=
  .opg t75 true (.call 14 [t76]) fun t77 =>
  .opg t75 true (.bin .eql t77 (.int .i64 0)) fun t78 =>
  .op (.pick t75 t78 (.bool false)) fun t79 =>
  .op (.mv t79) fun t80 =>
  .opg t80 true (.mv (e 0)) fun t81 =>
  .opg t80 true (.bin .and t81 (.int .i64 4095)) fun t82 =>
  .opg t80 true (.call 15 [t82]) fun t83 =>
  .opg t80 true (.mv (e 0)) fun t84 =>
  c6_r15_c5 e t80 t83 t84
theorem c6_r15_c4_run {CP : CProg} (e : Env) (t75 : Value) (t76 : Value) (h : Heap) (Q : Post) : RunR CP (c6_r15_c4 e t75 t76) h Q ↔ RunR CP (
  .opg t75 true (.call 14 [t76]) fun t77 =>
  .opg t75 true (.bin .eql t77 (.int .i64 0)) fun t78 =>
  .op (.pick t75 t78 (.bool false)) fun t79 =>
  .op (.mv t79) fun t80 =>
  .opg t80 true (.mv (e 0)) fun t81 =>
  .opg t80 true (.bin .and t81 (.int .i64 4095)) fun t82 =>
  .opg t80 true (.call 15 [t82]) fun t83 =>
  .opg t80 true (.mv (e 0)) fun t84 =>
  c6_r15_c5 e t80 t83 t84) h Q := Iff.rfl
def c6_r15_c3 (e : Env) (t68 : Value) : Reg :=
  .op (.mv t68) fun t69 =>
  .opg t69 true (.mv (e 10)) fun t70 =>
  .opg t69 true (.mv (e 1)) fun t71 =>
  .opg t69 true (.call 9 [t70, t71]) fun t72 =>
  .opg t69 true (.bin .eql t72 (.int .i64 (-1))) fun t73 =>
  .op (.pick t69 t73 (.bool false)) fun t74 =>
  .op (.mv t74) fun t75 =>
  .opg t75 true (.mv (e 10)) fun t76 =>
  c6_r15_c4 e t75 t76
theorem c6_r15_c3_run {CP : CProg} (e : Env) (t68 : Value) (h : Heap) (Q : Post) : RunR CP (c6_r15_c3 e t68) h Q ↔ RunR CP (
  .op (.mv t68) fun t69 =>
  .opg t69 true (.mv (e 10)) fun t70 =>
  .opg t69 true (.mv (e 1)) fun t71 =>
  .opg t69 true (.call 9 [t70, t71]) fun t72 =>
  .opg t69 true (.bin .eql t72 (.int .i64 (-1))) fun t73 =>
  .op (.pick t69 t73 (.bool false)) fun t74 =>
  .op (.mv t74) fun t75 =>
  .opg t75 true (.mv (e 10)) fun t76 =>
  c6_r15_c4 e t75 t76) h Q := Iff.rfl
def c6_r15_c2 (e : Env) (t57 : Value) (t60 : Value) : Reg :=
  .opg t57 true (.bin .eql t60 (.int .i64 (-1))) fun t61 =>
  .op (.pick t57 t61 (.bool false)) fun t62 =>
  .op (.mv t62) fun t63 =>
  .opg t63 true (.mv (e 7)) fun t64 =>
  .opg t63 true (.mv (e 1)) fun t65 =>
  .opg t63 true (.call 11 [t64, (.int .i64 0), t65]) fun t66 =>
  .opg t63 true (.un .not t66) fun t67 =>
  .op (.pick t63 t67 (.bool false)) fun t68 =>
  c6_r15_c3 e t68
theorem c6_r15_c2_run {CP : CProg} (e : Env) (t57 : Value) (t60 : Value) (h : Heap) (Q : Post) : RunR CP (c6_r15_c2 e t57 t60) h Q ↔ RunR CP (
  .opg t57 true (.bin .eql t60 (.int .i64 (-1))) fun t61 =>
  .op (.pick t57 t61 (.bool false)) fun t62 =>
  .op (.mv t62) fun t63 =>
  .opg t63 true (.mv (e 7)) fun t64 =>
  .opg t63 true (.mv (e 1)) fun t65 =>
  .opg t63 true (.call 11 [t64, (.int .i64 0), t65]) fun t66 =>
  .opg t63 true (.un .not t66) fun t67 =>
  .op (.pick t63 t67 (.bool false)) fun t68 =>
  c6_r15_c3 e t68) h Q := Iff.rfl
def c6_r15_c1 (e : Env) (t52 : Value) : Reg :=
  .opg t52 true (.mv (e 7)) fun t53 =>
  .opg t52 true (.call 12 [t53]) fun t54 =>
  .opg t52 true (.bin .eql t54 (.int .i64 0)) fun t55 =>
  .op (.pick t52 t55 (.bool false)) fun t56 =>
  .op (.mv t56) fun t57 =>
  .opg t57 true (.mv (e 7)) fun t58 =>
  .opg t57 true (.mv (e 1)) fun t59 =>
  .opg t57 true (.call 9 [t58, t59]) fun t60 =>
  c6_r15_c2 e t57 t60
theorem c6_r15_c1_run {CP : CProg} (e : Env) (t52 : Value) (h : Heap) (Q : Post) : RunR CP (c6_r15_c1 e t52) h Q ↔ RunR CP (
  .opg t52 true (.mv (e 7)) fun t53 =>
  .opg t52 true (.call 12 [t53]) fun t54 =>
  .opg t52 true (.bin .eql t54 (.int .i64 0)) fun t55 =>
  .op (.pick t52 t55 (.bool false)) fun t56 =>
  .op (.mv t56) fun t57 =>
  .opg t57 true (.mv (e 7)) fun t58 =>
  .opg t57 true (.mv (e 1)) fun t59 =>
  .opg t57 true (.call 9 [t58, t59]) fun t60 =>
  c6_r15_c2 e t57 t60) h Q := Iff.rfl
def c6_r15 : Env → Reg := fun e =>
  .op (.mv (e 9)) fun t45 =>
  .op (.un .not t45) fun t46 =>
  .op (.mv t46) fun t47 =>
  .opg t47 true (.mv (e 7)) fun t48 =>
  .opg t47 true (.call 14 [t48]) fun t49 =>
  .opg t47 true (.bin .eql t49 (.int .i64 0)) fun t50 =>
  .op (.pick t47 t50 (.bool false)) fun t51 =>
  .op (.mv t51) fun t52 =>
  c6_r15_c1 e t52
theorem c6_r15_run {CP : CProg} (e : Env) (h : Heap) (Q : Post) : RunR CP (c6_r15 e) h Q ↔ RunR CP (
  .op (.mv (e 9)) fun t45 =>
  .op (.un .not t45) fun t46 =>
  .op (.mv t46) fun t47 =>
  .opg t47 true (.mv (e 7)) fun t48 =>
  .opg t47 true (.call 14 [t48]) fun t49 =>
  .opg t47 true (.bin .eql t49 (.int .i64 0)) fun t50 =>
  .op (.pick t47 t50 (.bool false)) fun t51 =>
  .op (.mv t51) fun t52 =>
  c6_r15_c1 e t52) h Q := Iff.rfl
def c6 : CFn := ⟨(.seq (.region c6_r0) (.seq (.seq (.region c6_r1) (.cond (fun e => e 12) (.seq (.region c6_r2) .ret) .skip)) (.seq (.seq (.region c6_r3) (.cond (fun e => e 15) (.seq (.region c6_r4) .ret) .skip)) (.seq (.seq (.region c6_r5) (.block 0 (.loop c6_l0))) (.seq (.region c6_r11) (.seq (.region c6_r12) (.seq (.region c6_r13) (.seq (.region c6_r14) (.seq (.region c6_r15) .ret))))))))), [4]⟩
def p6 : Pers := ⟨11, [12, 15, 20, 21, 22, 23, 35], 89⟩
-- 7: weighbridge/weighbridgelaw04.fit
def c7_r0 : Env → Reg := fun e =>
  .op (.mv (.bool false)) fun t0 =>
  .done (e.upd 0 t0)
theorem c7_r0_run {CP : CProg} (e : Env) (h : Heap) (Q : Post) : RunR CP (c7_r0 e) h Q ↔ RunR CP (
  .op (.mv (.bool false)) fun t0 =>
  .done (e.upd 0 t0)) h Q := Iff.rfl
def c7_r1 : Env → Reg := fun e =>
  .op (.call 8 [(.int .i64 2)]) fun t5 =>
  .op (.mv t5) fun t1 =>
  .done (e.upd 1 t1)
theorem c7_r1_run {CP : CProg} (e : Env) (h : Heap) (Q : Post) : RunR CP (c7_r1 e) h Q ↔ RunR CP (
  .op (.call 8 [(.int .i64 2)]) fun t5 =>
  .op (.mv t5) fun t1 =>
  .done (e.upd 1 t1)) h Q := Iff.rfl
def c7_r2 : Env → Reg := fun e =>
  .op (.mv (e 1)) fun t6 =>
  .op (.call 9 [t6, (.string ⟨#[97]⟩)]) fun t7 =>
  .op (.mv (e 1)) fun t8 =>
  .op (.call 9 [t8, (.string ⟨#[98]⟩)]) fun t9 =>
  .op (.mv (e 1)) fun t10 =>
  .op (.call 9 [t10, (.string ⟨#[99]⟩)]) fun t11 =>
  .op (.mv t7) fun t2 =>
  .op (.mv t9) fun t3 =>
  .op (.mv t11) fun t4 =>
  .done (((e.upd 2 t2).upd 3 t3).upd 4 t4)
theorem c7_r2_run {CP : CProg} (e : Env) (h : Heap) (Q : Post) : RunR CP (c7_r2 e) h Q ↔ RunR CP (
  .op (.mv (e 1)) fun t6 =>
  .op (.call 9 [t6, (.string ⟨#[97]⟩)]) fun t7 =>
  .op (.mv (e 1)) fun t8 =>
  .op (.call 9 [t8, (.string ⟨#[98]⟩)]) fun t9 =>
  .op (.mv (e 1)) fun t10 =>
  .op (.call 9 [t10, (.string ⟨#[99]⟩)]) fun t11 =>
  .op (.mv t7) fun t2 =>
  .op (.mv t9) fun t3 =>
  .op (.mv t11) fun t4 =>
  .done (((e.upd 2 t2).upd 3 t3).upd 4 t4)) h Q := Iff.rfl
def c7_r3 : Env → Reg := fun e =>
  .op (.mv (e 1)) fun t12 =>
  .op (.call 13 [t12, (.int .i64 0)]) fun t13 =>
  .done e
theorem c7_r3_run {CP : CProg} (e : Env) (h : Heap) (Q : Post) : RunR CP (c7_r3 e) h Q ↔ RunR CP (
  .op (.mv (e 1)) fun t12 =>
  .op (.call 13 [t12, (.int .i64 0)]) fun t13 =>
  .done e) h Q := Iff.rfl
def c7_r4_c2 (e : Env) (t29 : Value) : Reg :=
  .opg t29 true (.call 15 [(.int .i64 2)]) fun t30 =>
  .opg t29 true (.bin .eql t30 (.int .i64 138)) fun t31 =>
  .op (.pick t29 t31 (.bool false)) fun t32 =>
  .op (.mv t32) fun t0 =>
  .done (e.upd 0 t0)
theorem c7_r4_c2_run {CP : CProg} (e : Env) (t29 : Value) (h : Heap) (Q : Post) : RunR CP (c7_r4_c2 e t29) h Q ↔ RunR CP (
  .opg t29 true (.call 15 [(.int .i64 2)]) fun t30 =>
  .opg t29 true (.bin .eql t30 (.int .i64 138)) fun t31 =>
  .op (.pick t29 t31 (.bool false)) fun t32 =>
  .op (.mv t32) fun t0 =>
  .done (e.upd 0 t0)) h Q := Iff.rfl
def c7_r4_c1 (e : Env) (t20 : Value) (t21 : Value) : Reg :=
  .opg t20 true (.bin .eql t21 (.int .i64 (-1))) fun t22 =>
  .op (.pick t20 t22 (.bool false)) fun t23 =>
  .op (.mv t23) fun t24 =>
  .opg t24 true (.mv (e 1)) fun t25 =>
  .opg t24 true (.call 9 [t25, (.string ⟨#[99]⟩)]) fun t26 =>
  .opg t24 true (.bin .eql t26 (.int .i64 0)) fun t27 =>
  .op (.pick t24 t27 (.bool false)) fun t28 =>
  .op (.mv t28) fun t29 =>
  c7_r4_c2 e t29
theorem c7_r4_c1_run {CP : CProg} (e : Env) (t20 : Value) (t21 : Value) (h : Heap) (Q : Post) : RunR CP (c7_r4_c1 e t20 t21) h Q ↔ RunR CP (
  .opg t20 true (.bin .eql t21 (.int .i64 (-1))) fun t22 =>
  .op (.pick t20 t22 (.bool false)) fun t23 =>
  .op (.mv t23) fun t24 =>
  .opg t24 true (.mv (e 1)) fun t25 =>
  .opg t24 true (.call 9 [t25, (.string ⟨#[99]⟩)]) fun t26 =>
  .opg t24 true (.bin .eql t26 (.int .i64 0)) fun t27 =>
  .op (.pick t24 t27 (.bool false)) fun t28 =>
  .op (.mv t28) fun t29 =>
  c7_r4_c2 e t29) h Q := Iff.rfl
def c7_r4 : Env → Reg := fun e =>
  .op (.mv (e 2)) fun t14 =>
  .op (.bin .eql t14 (.int .i64 0)) fun t15 =>
  .op (.mv t15) fun t16 =>
  .opg t16 true (.mv (e 3)) fun t17 =>
  .opg t16 true (.bin .eql t17 (.int .i64 1)) fun t18 =>
  .op (.pick t16 t18 (.bool false)) fun t19 =>
  .op (.mv t19) fun t20 =>
  .opg t20 true (.mv (e 4)) fun t21 =>
  c7_r4_c1 e t20 t21
theorem c7_r4_run {CP : CProg} (e : Env) (h : Heap) (Q : Post) : RunR CP (c7_r4 e) h Q ↔ RunR CP (
  .op (.mv (e 2)) fun t14 =>
  .op (.bin .eql t14 (.int .i64 0)) fun t15 =>
  .op (.mv t15) fun t16 =>
  .opg t16 true (.mv (e 3)) fun t17 =>
  .opg t16 true (.bin .eql t17 (.int .i64 1)) fun t18 =>
  .op (.pick t16 t18 (.bool false)) fun t19 =>
  .op (.mv t19) fun t20 =>
  .opg t20 true (.mv (e 4)) fun t21 =>
  c7_r4_c1 e t20 t21) h Q := Iff.rfl
def c7 : CFn := ⟨(.seq (.region c7_r0) (.seq (.region c7_r1) (.seq (.region c7_r2) (.seq (.region c7_r3) (.seq (.region c7_r4) .ret))))), [0]⟩
def p7 : Pers := ⟨5, [], 33⟩
-- 8: weighbridge/keys.New
def c8_r0 : Env → Reg := fun e =>
  .op (.mv (.pointer none)) fun t2 =>
  .done (e.upd 2 t2)
theorem c8_r0_run {CP : CProg} (e : Env) (h : Heap) (Q : Post) : RunR CP (c8_r0 e) h Q ↔ RunR CP (
  .op (.mv (.pointer none)) fun t2 =>
  .done (e.upd 2 t2)) h Q := Iff.rfl
def c8_r1 : Env → Reg := fun e =>
  .op (.mv (e 0)) fun t5 =>
  .op (.bin .lss t5 (.int .i64 0)) fun t6 =>
  .op (.mv t6) fun t7 =>
  .opg t7 false (.mv (e 0)) fun t8 =>
  .opg t7 false (.bin .gtr t8 (.int .i64 65536)) fun t9 =>
  .op (.pick t7 (.bool true) t9) fun t10 =>
  .done (e.upd 10 t10)
theorem c8_r1_run {CP : CProg} (e : Env) (h : Heap) (Q : Post) : RunR CP (c8_r1 e) h Q ↔ RunR CP (
  .op (.mv (e 0)) fun t5 =>
  .op (.bin .lss t5 (.int .i64 0)) fun t6 =>
  .op (.mv t6) fun t7 =>
  .opg t7 false (.mv (e 0)) fun t8 =>
  .opg t7 false (.bin .gtr t8 (.int .i64 65536)) fun t9 =>
  .op (.pick t7 (.bool true) t9) fun t10 =>
  .done (e.upd 10 t10)) h Q := Iff.rfl
def c8_r2 : Env → Reg := fun e =>
  .op (.mv (.pointer none)) fun t2 =>
  .done (e.upd 2 t2)
theorem c8_r2_run {CP : CProg} (e : Env) (h : Heap) (Q : Post) : RunR CP (c8_r2 e) h Q ↔ RunR CP (
  .op (.mv (.pointer none)) fun t2 =>
  .done (e.upd 2 t2)) h Q := Iff.rfl
def c8_r3 : Env → Reg := fun e =>
  .op (.mv (e 0)) fun t11 =>
  .op (.bin .mul t11 (.int .i64 64)) fun t12 =>
  .op (.makeSlice 5 1 1 [(.int .u8 0)] t12 t12) fun t13 =>
  .op (.mv (e 0)) fun t14 =>
  .op (.makeSlice 46 1 1 [(.int .i8 0)] t14 t14) fun t15 =>
  .op (.mv (e 0)) fun t16 =>
  .op (.makeSlice 21 1 4 [(.int .i32 0)] t16 t16) fun t17 =>
  .op (.build [(.slice none 0 0), (.slice none 0 0), (.slice none 0 0), (.int .i32 0), (.int .i64 0)] [(0, 1, t13), (1, 1, t15), (2, 1, t17), (3, 1, (.int .i32 (-1)))]) fun t18 =>
  .op (.box 45 t18) fun t19 =>
  .op (.mv t19) fun t3 =>
  .done (e.upd 3 t3)
theorem c8_r3_run {CP : CProg} (e : Env) (h : Heap) (Q : Post) : RunR CP (c8_r3 e) h Q ↔ RunR CP (
  .op (.mv (e 0)) fun t11 =>
  .op (.bin .mul t11 (.int .i64 64)) fun t12 =>
  .op (.makeSlice 5 1 1 [(.int .u8 0)] t12 t12) fun t13 =>
  .op (.mv (e 0)) fun t14 =>
  .op (.makeSlice 46 1 1 [(.int .i8 0)] t14 t14) fun t15 =>
  .op (.mv (e 0)) fun t16 =>
  .op (.makeSlice 21 1 4 [(.int .i32 0)] t16 t16) fun t17 =>
  .op (.build [(.slice none 0 0), (.slice none 0 0), (.slice none 0 0), (.int .i32 0), (.int .i64 0)] [(0, 1, t13), (1, 1, t15), (2, 1, t17), (3, 1, (.int .i32 (-1)))]) fun t18 =>
  .op (.box 45 t18) fun t19 =>
  .op (.mv t19) fun t3 =>
  .done (e.upd 3 t3)) h Q := Iff.rfl
def c8_r4 : Env → Reg := fun e =>
  .op (.mv (e 0)) fun t20 =>
  .op (.bin .sub t20 (.int .i64 1)) fun t21 =>
  .op (.mv t21) fun t4 =>
  .done (e.upd 4 t4)
theorem c8_r4_run {CP : CProg} (e : Env) (h : Heap) (Q : Post) : RunR CP (c8_r4 e) h Q ↔ RunR CP (
  .op (.mv (e 0)) fun t20 =>
  .op (.bin .sub t20 (.int .i64 1)) fun t21 =>
  .op (.mv t21) fun t4 =>
  .done (e.upd 4 t4)) h Q := Iff.rfl
def c8_r5 : Env → Reg := fun e =>
  .op (.mv (e 4)) fun t22 =>
  .op (.bin .geq t22 (.int .i64 0)) fun t23 =>
  .done (e.upd 23 t23)
theorem c8_r5_run {CP : CProg} (e : Env) (h : Heap) (Q : Post) : RunR CP (c8_r5 e) h Q ↔ RunR CP (
  .op (.mv (e 4)) fun t22 =>
  .op (.bin .geq t22 (.int .i64 0)) fun t23 =>
  .done (e.upd 23 t23)) h Q := Iff.rfl
def c8_r7_c2 (e : Env) (t34 : Value) (t35 : Value) (t39 : Value) (t40 : Value) : Reg :=
  .op (.store 1 t40 (.int .i8 (-1))) fun _ =>
  .op (.indexSl 1 t34 t35) fun t41 =>
  .snap fun h17 =>
  .op (.store 1 t41 t39) fun _ =>
  .done e
theorem c8_r7_c2_run {CP : CProg} (e : Env) (t34 : Value) (t35 : Value) (t39 : Value) (t40 : Value) (h : Heap) (Q : Post) : RunR CP (c8_r7_c2 e t34 t35 t39 t40) h Q ↔ RunR CP (
  .op (.store 1 t40 (.int .i8 (-1))) fun _ =>
  .op (.indexSl 1 t34 t35) fun t41 =>
  .snap fun h17 =>
  .op (.store 1 t41 t39) fun _ =>
  .done e) h Q := Iff.rfl
def c8_r7_c1 (e : Env) (t29 : Value) (t30 : Value) (t33 : Value) : Reg :=
  .op (.load none t33) fun t34 =>
  .op (.mv (e 4)) fun t35 =>
  .op (.mv (e 3)) fun t36 =>
  .op (.nilCheck t36) fun t37 =>
  .op (.fieldAddr 3 t37) fun t38 =>
  .op (.load none t38) fun t39 =>
  .op (.indexSl 1 t29 t30) fun t40 =>
  .snap fun h15 =>
  c8_r7_c2 e t34 t35 t39 t40
theorem c8_r7_c1_run {CP : CProg} (e : Env) (t29 : Value) (t30 : Value) (t33 : Value) (h : Heap) (Q : Post) : RunR CP (c8_r7_c1 e t29 t30 t33) h Q ↔ RunR CP (
  .op (.load none t33) fun t34 =>
  .op (.mv (e 4)) fun t35 =>
  .op (.mv (e 3)) fun t36 =>
  .op (.nilCheck t36) fun t37 =>
  .op (.fieldAddr 3 t37) fun t38 =>
  .op (.load none t38) fun t39 =>
  .op (.indexSl 1 t29 t30) fun t40 =>
  .snap fun h15 =>
  c8_r7_c2 e t34 t35 t39 t40) h Q := Iff.rfl
def c8_r7 : Env → Reg := fun e =>
  .op (.mv (e 3)) fun t26 =>
  .op (.nilCheck t26) fun t27 =>
  .op (.fieldAddr 1 t27) fun t28 =>
  .op (.load none t28) fun t29 =>
  .op (.mv (e 4)) fun t30 =>
  .op (.mv (e 3)) fun t31 =>
  .op (.nilCheck t31) fun t32 =>
  .op (.fieldAddr 2 t32) fun t33 =>
  c8_r7_c1 e t29 t30 t33
theorem c8_r7_run {CP : CProg} (e : Env) (h : Heap) (Q : Post) : RunR CP (c8_r7 e) h Q ↔ RunR CP (
  .op (.mv (e 3)) fun t26 =>
  .op (.nilCheck t26) fun t27 =>
  .op (.fieldAddr 1 t27) fun t28 =>
  .op (.load none t28) fun t29 =>
  .op (.mv (e 4)) fun t30 =>
  .op (.mv (e 3)) fun t31 =>
  .op (.nilCheck t31) fun t32 =>
  .op (.fieldAddr 2 t32) fun t33 =>
  c8_r7_c1 e t29 t30 t33) h Q := Iff.rfl
def c8_r8 : Env → Reg := fun e =>
  .op (.mv (e 3)) fun t42 =>
  .op (.mv (e 4)) fun t43 =>
  .op (.conv .i32 t43) fun t44 =>
  .op (.nilCheck t42) fun t45 =>
  .op (.fieldAddr 3 t45) fun t46 =>
  .op (.store 1 t46 t44) fun _ =>
  .done e
theorem c8_r8_run {CP : CProg} (e : Env) (h : Heap) (Q : Post) : RunR CP (c8_r8 e) h Q ↔ RunR CP (
  .op (.mv (e 3)) fun t42 =>
  .op (.mv (e 4)) fun t43 =>
  .op (.conv .i32 t43) fun t44 =>
  .op (.nilCheck t42) fun t45 =>
  .op (.fieldAddr 3 t45) fun t46 =>
  .op (.store 1 t46 t44) fun _ =>
  .done e) h Q := Iff.rfl
def c8_r6 : Env → Reg := fun e =>
  .op (.mv (e 4)) fun t24 =>
  .op (.bin .sub t24 (.int .i64 1)) fun t25 =>
  .op (.mv t25) fun t4 =>
  .done (e.upd 4 t4)
theorem c8_r6_run {CP : CProg} (e : Env) (h : Heap) (Q : Post) : RunR CP (c8_r6 e) h Q ↔ RunR CP (
  .op (.mv (e 4)) fun t24 =>
  .op (.bin .sub t24 (.int .i64 1)) fun t25 =>
  .op (.mv t25) fun t4 =>
  .done (e.upd 4 t4)) h Q := Iff.rfl
def c8_l0 : CC := (.seq (.seq (.region c8_r5) (.cond (fun e => e 23) .skip (.exit 0))) (.seq (.block 1 (.seq (.region c8_r7) (.region c8_r8))) (.region c8_r6)))
def c8_r9 : Env → Reg := fun e =>
  .op (.mv (e 3)) fun t47 =>
  .op (.mv t47) fun t2 =>
  .done (e.upd 2 t2)
theorem c8_r9_run {CP : CProg} (e : Env) (h : Heap) (Q : Post) : RunR CP (c8_r9 e) h Q ↔ RunR CP (
  .op (.mv (e 3)) fun t47 =>
  .op (.mv t47) fun t2 =>
  .done (e.upd 2 t2)) h Q := Iff.rfl
def c8 : CFn := ⟨(.seq (.region c8_r0) (.seq (.seq (.region c8_r1) (.cond (fun e => e 10) (.seq (.region c8_r2) .ret) .skip)) (.seq (.region c8_r3) (.seq (.seq (.region c8_r4) (.block 0 (.loop c8_l0))) (.seq (.region c8_r9) .ret))))), [2]⟩
def p8 : Pers := ⟨5, [10, 23], 48⟩
-- 9: (*weighbridge/keys.Store).Put
def c9_r0 : Env → Reg := fun e =>
  .op (.mv (.int .i64 0)) fun t4 =>
  .done (e.upd 4 t4)
theorem c9_r0_run {CP : CProg} (e : Env) (h : Heap) (Q : Post) : RunR CP (c9_r0 e) h Q ↔ RunR CP (
  .op (.mv (.int .i64 0)) fun t4 =>
  .done (e.upd 4 t4)) h Q := Iff.rfl
def c9_r1_c1 (e : Env) (t8 : Value) (t13 : Value) : Reg :=
  .op (.pick t8 (.bool true) t13) fun t14 =>
  .op (.mv t14) fun t15 =>
  .opg t15 false (.mv (e 1)) fun t16 =>
  .opg t15 false (.lenStr t16) fun t17 =>
  .opg t15 false (.bin .gtr t17 (.int .i64 64)) fun t18 =>
  .op (.pick t15 (.bool true) t18) fun t19 =>
  .done (e.upd 19 t19)
theorem c9_r1_c1_run {CP : CProg} (e : Env) (t8 : Value) (t13 : Value) (h : Heap) (Q : Post) : RunR CP (c9_r1_c1 e t8 t13) h Q ↔ RunR CP (
  .op (.pick t8 (.bool true) t13) fun t14 =>
  .op (.mv t14) fun t15 =>
  .opg t15 false (.mv (e 1)) fun t16 =>
  .opg t15 false (.lenStr t16) fun t17 =>
  .opg t15 false (.bin .gtr t17 (.int .i64 64)) fun t18 =>
  .op (.pick t15 (.bool true) t18) fun t19 =>
  .done (e.upd 19 t19)) h Q := Iff.rfl
def c9_r1 : Env → Reg := fun e =>
  .op (.mv (e 0)) fun t6 =>
  .op (.eqK .ptr false t6 (.pointer none)) fun t7 =>
  .op (.mv t7) fun t8 =>
  .opg t8 false (.mv (e 0)) fun t9 =>
  .opg t8 false (.nilCheck t9) fun t10 =>
  .opg t8 false (.fieldAddr 3 t10) fun t11 =>
  .opg t8 false (.load none t11) fun t12 =>
  .opg t8 false (.bin .lss t12 (.int .i32 0)) fun t13 =>
  c9_r1_c1 e t8 t13
theorem c9_r1_run {CP : CProg} (e : Env) (h : Heap) (Q : Post) : RunR CP (c9_r1 e) h Q ↔ RunR CP (
  .op (.mv (e 0)) fun t6 =>
  .op (.eqK .ptr false t6 (.pointer none)) fun t7 =>
  .op (.mv t7) fun t8 =>
  .opg t8 false (.mv (e 0)) fun t9 =>
  .opg t8 false (.nilCheck t9) fun t10 =>
  .opg t8 false (.fieldAddr 3 t10) fun t11 =>
  .opg t8 false (.load none t11) fun t12 =>
  .opg t8 false (.bin .lss t12 (.int .i32 0)) fun t13 =>
  c9_r1_c1 e t8 t13) h Q := Iff.rfl
def c9_r2 : Env → Reg := fun e =>
  .op (.mv (.int .i64 (-1))) fun t4 =>
  .done (e.upd 4 t4)
theorem c9_r2_run {CP : CProg} (e : Env) (h : Heap) (Q : Post) : RunR CP (c9_r2 e) h Q ↔ RunR CP (
  .op (.mv (.int .i64 (-1))) fun t4 =>
  .done (e.upd 4 t4)) h Q := Iff.rfl
def c9_r3 : Env → Reg := fun e =>
  .op (.mv (e 0)) fun t20 =>
  .op (.nilCheck t20) fun t21 =>
  .op (.fieldAddr 3 t21) fun t22 =>
  .op (.load none t22) fun t23 =>
  .op (.conv .i64 t23) fun t24 =>
  .op (.mv t24) fun t5 =>
  .done (e.upd 5 t5)
theorem c9_r3_run {CP : CProg} (e : Env) (h : Heap) (Q : Post) : RunR CP (c9_r3 e) h Q ↔ RunR CP (
  .op (.mv (e 0)) fun t20 =>
  .op (.nilCheck t20) fun t21 =>
  .op (.fieldAddr 3 t21) fun t22 =>
  .op (.load none t22) fun t23 =>
  .op (.conv .i64 t23) fun t24 =>
  .op (.mv t24) fun t5 =>
  .done (e.upd 5 t5)) h Q := Iff.rfl
def c9_r4_c1 (e : Env) (t25 : Value) (t32 : Value) : Reg :=
  .op (.nilCheck t25) fun t33 =>
  .op (.fieldAddr 3 t33) fun t34 =>
  .op (.store 1 t34 t32) fun _ =>
  .done e
theorem c9_r4_c1_run {CP : CProg} (e : Env) (t25 : Value) (t32 : Value) (h : Heap) (Q : Post) : RunR CP (c9_r4_c1 e t25 t32) h Q ↔ RunR CP (
  .op (.nilCheck t25) fun t33 =>
  .op (.fieldAddr 3 t33) fun t34 =>
  .op (.store 1 t34 t32) fun _ =>
  .done e) h Q := Iff.rfl
def c9_r4 : Env → Reg := fun e =>
  .op (.mv (e 0)) fun t25 =>
  .op (.mv (e 0)) fun t26 =>
  .op (.nilCheck t26) fun t27 =>
  .op (.fieldAddr 2 t27) fun t28 =>
  .op (.load none t28) fun t29 =>
  .op (.mv (e 5)) fun t30 =>
  .op (.indexSl 1 t29 t30) fun t31 =>
  .op (.load none t31) fun t32 =>
  c9_r4_c1 e t25 t32
theorem c9_r4_run {CP : CProg} (e : Env) (h : Heap) (Q : Post) : RunR CP (c9_r4 e) h Q ↔ RunR CP (
  .op (.mv (e 0)) fun t25 =>
  .op (.mv (e 0)) fun t26 =>
  .op (.nilCheck t26) fun t27 =>
  .op (.fieldAddr 2 t27) fun t28 =>
  .op (.load none t28) fun t29 =>
  .op (.mv (e 5)) fun t30 =>
  .op (.indexSl 1 t29 t30) fun t31 =>
  .op (.load none t31) fun t32 =>
  c9_r4_c1 e t25 t32) h Q := Iff.rfl
def c9_r5 : Env → Reg := fun e =>
  .op (.mv (e 0)) fun t35 =>
  .op (.nilCheck t35) fun t36 =>
  .op (.fieldAddr 0 t36) fun t37 =>
  .op (.load none t37) fun t38 =>
  .op (.mv (e 5)) fun t39 =>
  .op (.bin .mul t39 (.int .i64 64)) fun t40 =>
  .op (.slice 5 1 t38 (some t40) none) fun t41 =>
  .op (.mv (e 1)) fun t42 =>
  .op (.copy 1 t41 t42) fun t43 =>
  .done e
theorem c9_r5_run {CP : CProg} (e : Env) (h : Heap) (Q : Post) : RunR CP (c9_r5 e) h Q ↔ RunR CP (
  .op (.mv (e 0)) fun t35 =>
  .op (.nilCheck t35) fun t36 =>
  .op (.fieldAddr 0 t36) fun t37 =>
  .op (.load none t37) fun t38 =>
  .op (.mv (e 5)) fun t39 =>
  .op (.bin .mul t39 (.int .i64 64)) fun t40 =>
  .op (.slice 5 1 t38 (some t40) none) fun t41 =>
  .op (.mv (e 1)) fun t42 =>
  .op (.copy 1 t41 t42) fun t43 =>
  .done e) h Q := Iff.rfl
def c9_r6 : Env → Reg := fun e =>
  .op (.mv (e 0)) fun t44 =>
  .op (.nilCheck t44) fun t45 =>
  .op (.fieldAddr 1 t45) fun t46 =>
  .op (.load none t46) fun t47 =>
  .op (.mv (e 5)) fun t48 =>
  .op (.mv (e 1)) fun t49 =>
  .op (.lenStr t49) fun t50 =>
  .op (.conv .i8 t50) fun t51 =>
  .op (.indexSl 1 t47 t48) fun t52 =>
  .op (.store 1 t52 t51) fun _ =>
  .done e
theorem c9_r6_run {CP : CProg} (e : Env) (h : Heap) (Q : Post) : RunR CP (c9_r6 e) h Q ↔ RunR CP (
  .op (.mv (e 0)) fun t44 =>
  .op (.nilCheck t44) fun t45 =>
  .op (.fieldAddr 1 t45) fun t46 =>
  .op (.load none t46) fun t47 =>
  .op (.mv (e 5)) fun t48 =>
  .op (.mv (e 1)) fun t49 =>
  .op (.lenStr t49) fun t50 =>
  .op (.conv .i8 t50) fun t51 =>
  .op (.indexSl 1 t47 t48) fun t52 =>
  .op (.store 1 t52 t51) fun _ =>
  .done e) h Q := Iff.rfl
def c9_r7 : Env → Reg := fun e =>
  .op (.mv (e 0)) fun t53 =>
  .op (.nilCheck t53) fun t54 =>
  .op (.fieldAddr 4 t54) fun t55 =>
  .op (.load none t55) fun t56 =>
  .op (.bin .add t56 (.int .i64 1)) fun t57 =>
  .op (.nilCheck t53) fun t58 =>
  .op (.fieldAddr 4 t58) fun t59 =>
  .op (.store 1 t59 t57) fun _ =>
  .done e
theorem c9_r7_run {CP : CProg} (e : Env) (h : Heap) (Q : Post) : RunR CP (c9_r7 e) h Q ↔ RunR CP (
  .op (.mv (e 0)) fun t53 =>
  .op (.nilCheck t53) fun t54 =>
  .op (.fieldAddr 4 t54) fun t55 =>
  .op (.load none t55) fun t56 =>
  .op (.bin .add t56 (.int .i64 1)) fun t57 =>
  .op (.nilCheck t53) fun t58 =>
  .op (.fieldAddr 4 t58) fun t59 =>
  .op (.store 1 t59 t57) fun _ =>
  .done e) h Q := Iff.rfl
def c9_r8 : Env → Reg := fun e =>
  .op (.mv (e 5)) fun t60 =>
  .op (.mv t60) fun t4 =>
  .done (e.upd 4 t4)
theorem c9_r8_run {CP : CProg} (e : Env) (h : Heap) (Q : Post) : RunR CP (c9_r8 e) h Q ↔ RunR CP (
  .op (.mv (e 5)) fun t60 =>
  .op (.mv t60) fun t4 =>
  .done (e.upd 4 t4)) h Q := Iff.rfl
def c9 : CFn := ⟨(.seq (.region c9_r0) (.seq (.seq (.region c9_r1) (.cond (fun e => e 19) (.seq (.region c9_r2) .ret) .skip)) (.seq (.region c9_r3) (.seq (.region c9_r4) (.seq (.region c9_r5) (.seq (.region c9_r6) (.seq (.region c9_r7) (.seq (.region c9_r8) .ret)))))))), [4]⟩
def p9 : Pers := ⟨6, [19], 61⟩
-- 10: (*weighbridge/keys.Store).Key
def c10_r0 : Env → Reg := fun e =>
  .op (.mv (.string ⟨#[]⟩)) fun t4 =>
  .op (.mv (.bool false)) fun t5 =>
  .done ((e.upd 4 t4).upd 5 t5)
theorem c10_r0_run {CP : CProg} (e : Env) (h : Heap) (Q : Post) : RunR CP (c10_r0 e) h Q ↔ RunR CP (
  .op (.mv (.string ⟨#[]⟩)) fun t4 =>
  .op (.mv (.bool false)) fun t5 =>
  .done ((e.upd 4 t4).upd 5 t5)) h Q := Iff.rfl
def c10_r1 : Env → Reg := fun e =>
  .op (.mv (e 0)) fun t6 =>
  .op (.mv (e 1)) fun t7 =>
  .op (.call 16 [t6, t7]) fun t8 =>
  .op (.un .not t8) fun t9 =>
  .done (e.upd 9 t9)
theorem c10_r1_run {CP : CProg} (e : Env) (h : Heap) (Q : Post) : RunR CP (c10_r1 e) h Q ↔ RunR CP (
  .op (.mv (e 0)) fun t6 =>
  .op (.mv (e 1)) fun t7 =>
  .op (.call 16 [t6, t7]) fun t8 =>
  .op (.un .not t8) fun t9 =>
  .done (e.upd 9 t9)) h Q := Iff.rfl
def c10_r2 : Env → Reg := fun e =>
  .op (.mv (.string ⟨#[]⟩)) fun t4 =>
  .op (.mv (.bool false)) fun t5 =>
  .done ((e.upd 4 t4).upd 5 t5)
theorem c10_r2_run {CP : CProg} (e : Env) (h : Heap) (Q : Post) : RunR CP (c10_r2 e) h Q ↔ RunR CP (
  .op (.mv (.string ⟨#[]⟩)) fun t4 =>
  .op (.mv (.bool false)) fun t5 =>
  .done ((e.upd 4 t4).upd 5 t5)) h Q := Iff.rfl
def c10_r3_c2 (e : Env) (t13 : Value) (t15 : Value) (t17 : Value) (t25 : Value) : Reg :=
  .op (.bin .add t17 t25) fun t26 =>
  .op (.slice 5 1 t13 (some t15) (some t26)) fun t27 =>
  .op (.toStr t27) fun t28 =>
  .op (.mv t28) fun t4 =>
  .op (.mv (.bool true)) fun t5 =>
  .done ((e.upd 4 t4).upd 5 t5)
theorem c10_r3_c2_run {CP : CProg} (e : Env) (t13 : Value) (t15 : Value) (t17 : Value) (t25 : Value) (h : Heap) (Q : Post) : RunR CP (c10_r3_c2 e t13 t15 t17 t25) h Q ↔ RunR CP (
  .op (.bin .add t17 t25) fun t26 =>
  .op (.slice 5 1 t13 (some t15) (some t26)) fun t27 =>
  .op (.toStr t27) fun t28 =>
  .op (.mv t28) fun t4 =>
  .op (.mv (.bool true)) fun t5 =>
  .done ((e.upd 4 t4).upd 5 t5)) h Q := Iff.rfl
def c10_r3_c1 (e : Env) (t13 : Value) (t15 : Value) (t17 : Value) : Reg :=
  .op (.mv (e 0)) fun t18 =>
  .op (.nilCheck t18) fun t19 =>
  .op (.fieldAddr 1 t19) fun t20 =>
  .op (.load none t20) fun t21 =>
  .op (.mv (e 1)) fun t22 =>
  .op (.indexSl 1 t21 t22) fun t23 =>
  .op (.load none t23) fun t24 =>
  .op (.conv .i64 t24) fun t25 =>
  c10_r3_c2 e t13 t15 t17 t25
theorem c10_r3_c1_run {CP : CProg} (e : Env) (t13 : Value) (t15 : Value) (t17 : Value) (h : Heap) (Q : Post) : RunR CP (c10_r3_c1 e t13 t15 t17) h Q ↔ RunR CP (
  .op (.mv (e 0)) fun t18 =>
  .op (.nilCheck t18) fun t19 =>
  .op (.fieldAddr 1 t19) fun t20 =>
  .op (.load none t20) fun t21 =>
  .op (.mv (e 1)) fun t22 =>
  .op (.indexSl 1 t21 t22) fun t23 =>
  .op (.load none t23) fun t24 =>
  .op (.conv .i64 t24) fun t25 =>
  c10_r3_c2 e t13 t15 t17 t25) h Q := Iff.rfl
def c10_r3 : Env → Reg := fun e =>
  .op (.mv (e 0)) fun t10 =>
  .op (.nilCheck t10) fun t11 =>
  .op (.fieldAddr 0 t11) fun t12 =>
  .op (.load none t12) fun t13 =>
  .op (.mv (e 1)) fun t14 =>
  .op (.bin .mul t14 (.int .i64 64)) fun t15 =>
  .op (.mv (e 1)) fun t16 =>
  .op (.bin .mul t16 (.int .i64 64)) fun t17 =>
  c10_r3_c1 e t13 t15 t17
theorem c10_r3_run {CP : CProg} (e : Env) (h : Heap) (Q : Post) : RunR CP (c10_r3 e) h Q ↔ RunR CP (
  .op (.mv (e 0)) fun t10 =>
  .op (.nilCheck t10) fun t11 =>
  .op (.fieldAddr 0 t11) fun t12 =>
  .op (.load none t12) fun t13 =>
  .op (.mv (e 1)) fun t14 =>
  .op (.bin .mul t14 (.int .i64 64)) fun t15 =>
  .op (.mv (e 1)) fun t16 =>
  .op (.bin .mul t16 (.int .i64 64)) fun t17 =>
  c10_r3_c1 e t13 t15 t17) h Q := Iff.rfl
def c10 : CFn := ⟨(.seq (.region c10_r0) (.seq (.seq (.region c10_r1) (.cond (fun e => e 9) (.seq (.region c10_r2) .ret) .skip)) (.seq (.region c10_r3) .ret))), [4, 5]⟩
def p10 : Pers := ⟨6, [9], 29⟩
-- 11: (*weighbridge/keys.Store).Is
def c11_r0 : Env → Reg := fun e =>
  .op (.mv (.bool false)) fun t6 =>
  .done (e.upd 6 t6)
theorem c11_r0_run {CP : CProg} (e : Env) (h : Heap) (Q : Post) : RunR CP (c11_r0 e) h Q ↔ RunR CP (
  .op (.mv (.bool false)) fun t6 =>
  .done (e.upd 6 t6)) h Q := Iff.rfl
def c11_r1_c3 (e : Env) (t10 : Value) (t29 : Value) : Reg :=
  .opg t10 true (.mv (e 2)) fun t30 =>
  .opg t10 true (.bin .eql t29 t30) fun t31 =>
  .op (.pick t10 t31 (.bool false)) fun t32 =>
  .op (.mv t32) fun t6 =>
  .done (e.upd 6 t6)
theorem c11_r1_c3_run {CP : CProg} (e : Env) (t10 : Value) (t29 : Value) (h : Heap) (Q : Post) : RunR CP (c11_r1_c3 e t10 t29) h Q ↔ RunR CP (
  .opg t10 true (.mv (e 2)) fun t30 =>
  .opg t10 true (.bin .eql t29 t30) fun t31 =>
  .op (.pick t10 t31 (.bool false)) fun t32 =>
  .op (.mv t32) fun t6 =>
  .done (e.upd 6 t6)) h Q := Iff.rfl
def c11_r1_c2 (e : Env) (t10 : Value) (t14 : Value) (t16 : Value) (t18 : Value) (t21 : Value) : Reg :=
  .opg t10 true (.load none t21) fun t22 =>
  .opg t10 true (.mv (e 1)) fun t23 =>
  .opg t10 true (.indexSl 1 t22 t23) fun t24 =>
  .opg t10 true (.load none t24) fun t25 =>
  .opg t10 true (.conv .i64 t25) fun t26 =>
  .opg t10 true (.bin .add t18 t26) fun t27 =>
  .opg t10 true (.slice 5 1 t14 (some t16) (some t27)) fun t28 =>
  .opg t10 true (.toStr t28) fun t29 =>
  c11_r1_c3 e t10 t29
theorem c11_r1_c2_run {CP : CProg} (e : Env) (t10 : Value) (t14 : Value) (t16 : Value) (t18 : Value) (t21 : Value) (h : Heap) (Q : Post) : RunR CP (c11_r1_c2 e t10 t14 t16 t18 t21) h Q ↔ RunR CP (
  .opg t10 true (.load none t21) fun t22 =>
  .opg t10 true (.mv (e 1)) fun t23 =>
  .opg t10 true (.indexSl 1 t22 t23) fun t24 =>
  .opg t10 true (.load none t24) fun t25 =>
  .opg t10 true (.conv .i64 t25) fun t26 =>
  .opg t10 true (.bin .add t18 t26) fun t27 =>
  .opg t10 true (.slice 5 1 t14 (some t16) (some t27)) fun t28 =>
  .opg t10 true (.toStr t28) fun t29 =>
  c11_r1_c3 e t10 t29) h Q := Iff.rfl
def c11_r1_c1 (e : Env) (t10 : Value) (t13 : Value) : Reg :=
  .opg t10 true (.load none t13) fun t14 =>
  .opg t10 true (.mv (e 1)) fun t15 =>
  .opg t10 true (.bin .mul t15 (.int .i64 64)) fun t16 =>
  .opg t10 true (.mv (e 1)) fun t17 =>
  .opg t10 true (.bin .mul t17 (.int .i64 64)) fun t18 =>
  .opg t10 true (.mv (e 0)) fun t19 =>
  .opg t10 true (.nilCheck t19) fun t20 =>
  .opg t10 true (.fieldAddr 1 t20) fun t21 =>
  c11_r1_c2 e t10 t14 t16 t18 t21
theorem c11_r1_c1_run {CP : CProg} (e : Env) (t10 : Value) (t13 : Value) (h : Heap) (Q : Post) : RunR CP (c11_r1_c1 e t10 t13) h Q ↔ RunR CP (
  .opg t10 true (.load none t13) fun t14 =>
  .opg t10 true (.mv (e 1)) fun t15 =>
  .opg t10 true (.bin .mul t15 (.int .i64 64)) fun t16 =>
  .opg t10 true (.mv (e 1)) fun t17 =>
  .opg t10 true (.bin .mul t17 (.int .i64 64)) fun t18 =>
  .opg t10 true (.mv (e 0)) fun t19 =>
  .opg t10 true (.nilCheck t19) fun t20 =>
  .opg t10 true (.fieldAddr 1 t20) fun t21 =>
  c11_r1_c2 e t10 t14 t16 t18 t21) h Q := Iff.rfl
def c11_r1 : Env → Reg := fun e =>
  .op (.mv (e 0)) fun t7 =>
  .op (.mv (e 1)) fun t8 =>
  .snap fun h2 =>
  .op (.call 16 [t7, t8]) fun t9 =>
  .op (.mv t9) fun t10 =>
  .opg t10 true (.mv (e 0)) fun t11 =>
  .opg t10 true (.nilCheck t11) fun t12 =>
  .opg t10 true (.fieldAddr 0 t12) fun t13 =>
  c11_r1_c1 e t10 t13
theorem c11_r1_run {CP : CProg} (e : Env) (h : Heap) (Q : Post) : RunR CP (c11_r1 e) h Q ↔ RunR CP (
  .op (.mv (e 0)) fun t7 =>
  .op (.mv (e 1)) fun t8 =>
  .snap fun h2 =>
  .op (.call 16 [t7, t8]) fun t9 =>
  .op (.mv t9) fun t10 =>
  .opg t10 true (.mv (e 0)) fun t11 =>
  .opg t10 true (.nilCheck t11) fun t12 =>
  .opg t10 true (.fieldAddr 0 t12) fun t13 =>
  c11_r1_c1 e t10 t13) h Q := Iff.rfl
def c11 : CFn := ⟨(.seq (.region c11_r0) (.seq (.region c11_r1) .ret)), [6]⟩
def p11 : Pers := ⟨7, [], 33⟩
-- 12: (*weighbridge/keys.Store).Used
def c12_r0 : Env → Reg := fun e =>
  .op (.mv (.int .i64 0)) fun t2 =>
  .done (e.upd 2 t2)
theorem c12_r0_run {CP : CProg} (e : Env) (h : Heap) (Q : Post) : RunR CP (c12_r0 e) h Q ↔ RunR CP (
  .op (.mv (.int .i64 0)) fun t2 =>
  .done (e.upd 2 t2)) h Q := Iff.rfl
def c12_r1 : Env → Reg := fun e =>
  .op (.mv (e 0)) fun t3 =>
  .op (.eqK .ptr false t3 (.pointer none)) fun t4 =>
  .done (e.upd 4 t4)
theorem c12_r1_run {CP : CProg} (e : Env) (h : Heap) (Q : Post) : RunR CP (c12_r1 e) h Q ↔ RunR CP (
  .op (.mv (e 0)) fun t3 =>
  .op (.eqK .ptr false t3 (.pointer none)) fun t4 =>
  .done (e.upd 4 t4)) h Q := Iff.rfl
def c12_r2 : Env → Reg := fun e =>
  .op (.mv (.int .i64 0)) fun t2 =>
  .done (e.upd 2 t2)
theorem c12_r2_run {CP : CProg} (e : Env) (h : Heap) (Q : Post) : RunR CP (c12_r2 e) h Q ↔ RunR CP (
  .op (.mv (.int .i64 0)) fun t2 =>
  .done (e.upd 2 t2)) h Q := Iff.rfl
def c12_r3 : Env → Reg := fun e =>
  .op (.mv (e 0)) fun t5 =>
  .op (.nilCheck t5) fun t6 =>
  .op (.fieldAddr 4 t6) fun t7 =>
  .op (.load none t7) fun t8 =>
  .op (.mv t8) fun t2 =>
  .done (e.upd 2 t2)
theorem c12_r3_run {CP : CProg} (e : Env) (h : Heap) (Q : Post) : RunR CP (c12_r3 e) h Q ↔ RunR CP (
  .op (.mv (e 0)) fun t5 =>
  .op (.nilCheck t5) fun t6 =>
  .op (.fieldAddr 4 t6) fun t7 =>
  .op (.load none t7) fun t8 =>
  .op (.mv t8) fun t2 =>
  .done (e.upd 2 t2)) h Q := Iff.rfl
def c12 : CFn := ⟨(.seq (.region c12_r0) (.seq (.seq (.region c12_r1) (.cond (fun e => e 4) (.seq (.region c12_r2) .ret) .skip)) (.seq (.region c12_r3) .ret))), [2]⟩
def p12 : Pers := ⟨3, [4], 9⟩
-- 13: (*weighbridge/keys.Store).Free
def c13_r0 : Env → Reg := fun e =>
  .op (.mv (e 0)) fun t4 =>
  .op (.mv (e 1)) fun t5 =>
  .op (.call 16 [t4, t5]) fun t6 =>
  .done (e.upd 6 t6)
theorem c13_r0_run {CP : CProg} (e : Env) (h : Heap) (Q : Post) : RunR CP (c13_r0 e) h Q ↔ RunR CP (
  .op (.mv (e 0)) fun t4 =>
  .op (.mv (e 1)) fun t5 =>
  .op (.call 16 [t4, t5]) fun t6 =>
  .done (e.upd 6 t6)) h Q := Iff.rfl
def c13_r1_c2 (e : Env) (t15 : Value) (t16 : Value) (t20 : Value) (t21 : Value) : Reg :=
  .op (.store 1 t21 (.int .i8 (-1))) fun _ =>
  .op (.indexSl 1 t15 t16) fun t22 =>
  .snap fun h17 =>
  .op (.store 1 t22 t20) fun _ =>
  .done e
theorem c13_r1_c2_run {CP : CProg} (e : Env) (t15 : Value) (t16 : Value) (t20 : Value) (t21 : Value) (h : Heap) (Q : Post) : RunR CP (c13_r1_c2 e t15 t16 t20 t21) h Q ↔ RunR CP (
  .op (.store 1 t21 (.int .i8 (-1))) fun _ =>
  .op (.indexSl 1 t15 t16) fun t22 =>
  .snap fun h17 =>
  .op (.store 1 t22 t20) fun _ =>
  .done e) h Q := Iff.rfl
def c13_r1_c1 (e : Env) (t10 : Value) (t11 : Value) (t14 : Value) : Reg :=
  .op (.load none t14) fun t15 =>
  .op (.mv (e 1)) fun t16 =>
  .op (.mv (e 0)) fun t17 =>
  .op (.nilCheck t17) fun t18 =>
  .op (.fieldAddr 3 t18) fun t19 =>
  .op (.load none t19) fun t20 =>
  .op (.indexSl 1 t10 t11) fun t21 =>
  .snap fun h15 =>
  c13_r1_c2 e t15 t16 t20 t21
theorem c13_r1_c1_run {CP : CProg} (e : Env) (t10 : Value) (t11 : Value) (t14 : Value) (h : Heap) (Q : Post) : RunR CP (c13_r1_c1 e t10 t11 t14) h Q ↔ RunR CP (
  .op (.load none t14) fun t15 =>
  .op (.mv (e 1)) fun t16 =>
  .op (.mv (e 0)) fun t17 =>
  .op (.nilCheck t17) fun t18 =>
  .op (.fieldAddr 3 t18) fun t19 =>
  .op (.load none t19) fun t20 =>
  .op (.indexSl 1 t10 t11) fun t21 =>
  .snap fun h15 =>
  c13_r1_c2 e t15 t16 t20 t21) h Q := Iff.rfl
def c13_r1 : Env → Reg := fun e =>
  .op (.mv (e 0)) fun t7 =>
  .op (.nilCheck t7) fun t8 =>
  .op (.fieldAddr 1 t8) fun t9 =>
  .op (.load none t9) fun t10 =>
  .op (.mv (e 1)) fun t11 =>
  .op (.mv (e 0)) fun t12 =>
  .op (.nilCheck t12) fun t13 =>
  .op (.fieldAddr 2 t13) fun t14 =>
  c13_r1_c1 e t10 t11 t14
theorem c13_r1_run {CP : CProg} (e : Env) (h : Heap) (Q : Post) : RunR CP (c13_r1 e) h Q ↔ RunR CP (
  .op (.mv (e 0)) fun t7 =>
  .op (.nilCheck t7) fun t8 =>
  .op (.fieldAddr 1 t8) fun t9 =>
  .op (.load none t9) fun t10 =>
  .op (.mv (e 1)) fun t11 =>
  .op (.mv (e 0)) fun t12 =>
  .op (.nilCheck t12) fun t13 =>
  .op (.fieldAddr 2 t13) fun t14 =>
  c13_r1_c1 e t10 t11 t14) h Q := Iff.rfl
def c13_r2 : Env → Reg := fun e =>
  .op (.mv (e 0)) fun t23 =>
  .op (.mv (e 1)) fun t24 =>
  .op (.conv .i32 t24) fun t25 =>
  .op (.nilCheck t23) fun t26 =>
  .op (.fieldAddr 3 t26) fun t27 =>
  .op (.store 1 t27 t25) fun _ =>
  .done e
theorem c13_r2_run {CP : CProg} (e : Env) (h : Heap) (Q : Post) : RunR CP (c13_r2 e) h Q ↔ RunR CP (
  .op (.mv (e 0)) fun t23 =>
  .op (.mv (e 1)) fun t24 =>
  .op (.conv .i32 t24) fun t25 =>
  .op (.nilCheck t23) fun t26 =>
  .op (.fieldAddr 3 t26) fun t27 =>
  .op (.store 1 t27 t25) fun _ =>
  .done e) h Q := Iff.rfl
def c13_r3 : Env → Reg := fun e =>
  .op (.mv (e 0)) fun t28 =>
  .op (.nilCheck t28) fun t29 =>
  .op (.fieldAddr 4 t29) fun t30 =>
  .op (.load none t30) fun t31 =>
  .op (.bin .sub t31 (.int .i64 1)) fun t32 =>
  .op (.nilCheck t28) fun t33 =>
  .op (.fieldAddr 4 t33) fun t34 =>
  .op (.store 1 t34 t32) fun _ =>
  .done e
theorem c13_r3_run {CP : CProg} (e : Env) (h : Heap) (Q : Post) : RunR CP (c13_r3 e) h Q ↔ RunR CP (
  .op (.mv (e 0)) fun t28 =>
  .op (.nilCheck t28) fun t29 =>
  .op (.fieldAddr 4 t29) fun t30 =>
  .op (.load none t30) fun t31 =>
  .op (.bin .sub t31 (.int .i64 1)) fun t32 =>
  .op (.nilCheck t28) fun t33 =>
  .op (.fieldAddr 4 t33) fun t34 =>
  .op (.store 1 t34 t32) fun _ =>
  .done e) h Q := Iff.rfl
def c13 : CFn := ⟨(.seq (.region c13_r0) (.cond (fun e => e 6) (.seq (.region c13_r1) (.seq (.region c13_r2) (.region c13_r3))) .skip)), []⟩
def p13 : Pers := ⟨4, [6], 35⟩
-- 14: (*weighbridge/keys.Store).Len
def c14_r0 : Env → Reg := fun e =>
  .op (.mv (.int .i64 0)) fun t2 =>
  .done (e.upd 2 t2)
theorem c14_r0_run {CP : CProg} (e : Env) (h : Heap) (Q : Post) : RunR CP (c14_r0 e) h Q ↔ RunR CP (
  .op (.mv (.int .i64 0)) fun t2 =>
  .done (e.upd 2 t2)) h Q := Iff.rfl
def c14_r1 : Env → Reg := fun e =>
  .op (.mv (e 0)) fun t3 =>
  .op (.eqK .ptr false t3 (.pointer none)) fun t4 =>
  .done (e.upd 4 t4)
theorem c14_r1_run {CP : CProg} (e : Env) (h : Heap) (Q : Post) : RunR CP (c14_r1 e) h Q ↔ RunR CP (
  .op (.mv (e 0)) fun t3 =>
  .op (.eqK .ptr false t3 (.pointer none)) fun t4 =>
  .done (e.upd 4 t4)) h Q := Iff.rfl
def c14_r2 : Env → Reg := fun e =>
  .op (.mv (.int .i64 0)) fun t2 =>
  .done (e.upd 2 t2)
theorem c14_r2_run {CP : CProg} (e : Env) (h : Heap) (Q : Post) : RunR CP (c14_r2 e) h Q ↔ RunR CP (
  .op (.mv (.int .i64 0)) fun t2 =>
  .done (e.upd 2 t2)) h Q := Iff.rfl
def c14_r3 : Env → Reg := fun e =>
  .op (.mv (e 0)) fun t5 =>
  .op (.nilCheck t5) fun t6 =>
  .op (.fieldAddr 1 t6) fun t7 =>
  .op (.load none t7) fun t8 =>
  .op (.lenSl t8) fun t9 =>
  .op (.mv t9) fun t2 =>
  .done (e.upd 2 t2)
theorem c14_r3_run {CP : CProg} (e : Env) (h : Heap) (Q : Post) : RunR CP (c14_r3 e) h Q ↔ RunR CP (
  .op (.mv (e 0)) fun t5 =>
  .op (.nilCheck t5) fun t6 =>
  .op (.fieldAddr 1 t6) fun t7 =>
  .op (.load none t7) fun t8 =>
  .op (.lenSl t8) fun t9 =>
  .op (.mv t9) fun t2 =>
  .done (e.upd 2 t2)) h Q := Iff.rfl
def c14 : CFn := ⟨(.seq (.region c14_r0) (.seq (.seq (.region c14_r1) (.cond (fun e => e 4) (.seq (.region c14_r2) .ret) .skip)) (.seq (.region c14_r3) .ret))), [2]⟩
def p14 : Pers := ⟨3, [4], 10⟩
-- 15: weighbridge/keys.Bytes
def c15_r0 : Env → Reg := fun e =>
  .op (.mv (.int .i64 0)) fun t2 =>
  .done (e.upd 2 t2)
theorem c15_r0_run {CP : CProg} (e : Env) (h : Heap) (Q : Post) : RunR CP (c15_r0 e) h Q ↔ RunR CP (
  .op (.mv (.int .i64 0)) fun t2 =>
  .done (e.upd 2 t2)) h Q := Iff.rfl
def c15_r1 : Env → Reg := fun e =>
  .op (.mv (e 0)) fun t3 =>
  .op (.bin .mul t3 (.int .i64 69)) fun t4 =>
  .op (.mv t4) fun t2 =>
  .done (e.upd 2 t2)
theorem c15_r1_run {CP : CProg} (e : Env) (h : Heap) (Q : Post) : RunR CP (c15_r1 e) h Q ↔ RunR CP (
  .op (.mv (e 0)) fun t3 =>
  .op (.bin .mul t3 (.int .i64 69)) fun t4 =>
  .op (.mv t4) fun t2 =>
  .done (e.upd 2 t2)) h Q := Iff.rfl
def c15 : CFn := ⟨(.seq (.region c15_r0) (.seq (.region c15_r1) .ret)), [2]⟩
def p15 : Pers := ⟨3, [], 5⟩
-- 16: (*weighbridge/keys.Store).has
def c16_r0 : Env → Reg := fun e =>
  .op (.mv (.bool false)) fun t4 =>
  .done (e.upd 4 t4)
theorem c16_r0_run {CP : CProg} (e : Env) (h : Heap) (Q : Post) : RunR CP (c16_r0 e) h Q ↔ RunR CP (
  .op (.mv (.bool false)) fun t4 =>
  .done (e.upd 4 t4)) h Q := Iff.rfl
def c16_r1_c2 (e : Env) (t13 : Value) (t20 : Value) : Reg :=
  .opg t13 true (.bin .geq t20 (.int .i8 0)) fun t21 =>
  .op (.pick t13 t21 (.bool false)) fun t22 =>
  .op (.mv t22) fun t4 =>
  .done (e.upd 4 t4)
theorem c16_r1_c2_run {CP : CProg} (e : Env) (t13 : Value) (t20 : Value) (h : Heap) (Q : Post) : RunR CP (c16_r1_c2 e t13 t20) h Q ↔ RunR CP (
  .opg t13 true (.bin .geq t20 (.int .i8 0)) fun t21 =>
  .op (.pick t13 t21 (.bool false)) fun t22 =>
  .op (.mv t22) fun t4 =>
  .done (e.upd 4 t4)) h Q := Iff.rfl
def c16_r1_c1 (e : Env) (t12 : Value) : Reg :=
  .op (.mv t12) fun t13 =>
  .opg t13 true (.mv (e 0)) fun t14 =>
  .opg t13 true (.nilCheck t14) fun t15 =>
  .opg t13 true (.fieldAddr 1 t15) fun t16 =>
  .opg t13 true (.load none t16) fun t17 =>
  .opg t13 true (.mv (e 1)) fun t18 =>
  .opg t13 true (.indexSl 1 t17 t18) fun t19 =>
  .opg t13 true (.load none t19) fun t20 =>
  c16_r1_c2 e t13 t20
theorem c16_r1_c1_run {CP : CProg} (e : Env) (t12 : Value) (h : Heap) (Q : Post) : RunR CP (c16_r1_c1 e t12) h Q ↔ RunR CP (
  .op (.mv t12) fun t13 =>
  .opg t13 true (.mv (e 0)) fun t14 =>
  .opg t13 true (.nilCheck t14) fun t15 =>
  .opg t13 true (.fieldAddr 1 t15) fun t16 =>
  .opg t13 true (.load none t16) fun t17 =>
  .opg t13 true (.mv (e 1)) fun t18 =>
  .opg t13 true (.indexSl 1 t17 t18) fun t19 =>
  .opg t13 true (.load none t19) fun t20 =>
  c16_r1_c2 e t13 t20) h Q := Iff.rfl
def c16_r1 : Env → Reg := fun e =>
  .op (.mv (e 1)) fun t5 =>
  .op (.bin .geq t5 (.int .i64 0)) fun t6 =>
  .op (.mv t6) fun t7 =>
  .opg t7 true (.mv (e 1)) fun t8 =>
  .opg t7 true (.mv (e 0)) fun t9 =>
  .opg t7 true (.call 14 [t9]) fun t10 =>
  .opg t7 true (.bin .lss t8 t10) fun t11 =>
  .op (.pick t7 t11 (.bool false)) fun t12 =>
  c16_r1_c1 e t12
theorem c16_r1_run {CP : CProg} (e : Env) (h : Heap) (Q : Post) : RunR CP (c16_r1 e) h Q ↔ RunR CP (
  .op (.mv (e 1)) fun t5 =>
  .op (.bin .geq t5 (.int .i64 0)) fun t6 =>
  .op (.mv t6) fun t7 =>
  .opg t7 true (.mv (e 1)) fun t8 =>
  .opg t7 true (.mv (e 0)) fun t9 =>
  .opg t7 true (.call 14 [t9]) fun t10 =>
  .opg t7 true (.bin .lss t8 t10) fun t11 =>
  .op (.pick t7 t11 (.bool false)) fun t12 =>
  c16_r1_c1 e t12) h Q := Iff.rfl
def c16 : CFn := ⟨(.seq (.region c16_r0) (.seq (.region c16_r1) .ret)), [4]⟩
def p16 : Pers := ⟨5, [], 23⟩
def cp : CProg
  | 3 => some c3
  | 4 => some c4
  | 5 => some c5
  | 6 => some c6
  | 7 => some c7
  | 8 => some c8
  | 9 => some c9
  | 10 => some c10
  | 11 => some c11
  | 12 => some c12
  | 13 => some c13
  | 14 => some c14
  | 15 => some c15
  | 16 => some c16
  | _ => none
theorem cp3 : cp 3 = some c3 := rfl
theorem cp4 : cp 4 = some c4 := rfl
theorem cp5 : cp 5 = some c5 := rfl
theorem cp6 : cp 6 = some c6 := rfl
theorem cp7 : cp 7 = some c7 := rfl
theorem cp8 : cp 8 = some c8 := rfl
theorem cp9 : cp 9 = some c9 := rfl
theorem cp10 : cp 10 = some c10 := rfl
theorem cp11 : cp 11 = some c11 := rfl
theorem cp12 : cp 12 = some c12 := rfl
theorem cp13 : cp 13 = some c13 := rfl
theorem cp14 : cp 14 = some c14 := rfl
theorem cp15 : cp 15 = some c15 := rfl
theorem cp16 : cp 16 = some c16 := rfl
end Go.Proofs.Yticompilonkfgaa.Can
