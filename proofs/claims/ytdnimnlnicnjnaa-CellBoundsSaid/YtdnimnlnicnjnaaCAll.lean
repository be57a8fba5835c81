/- The canonical code of functions of the program, written by a program of this session (wip/can/res.py). No condition. -/
import Derived.Test.YtdnimnlnicnjnaaCanWp
namespace Go.Proofs.Ytdnimnlnicnjnaa.Can
open Go
set_option linter.unusedVariables false
-- 3: weighbridge/weighbridgelaw09.CellRuns
def c3_r0 : Env → Reg := fun e =>
  .op (.box 23 (e 0)) fun t3 =>
  .op (.box 24 (e 1)) fun t4 =>
  .op (.mv (.bool false)) fun t6 =>
  .done (((e.upd 3 t3).upd 4 t4).upd 6 t6)
theorem c3_r0_run {CP : CProg} (e : Env) (h : Heap) (Q : Post) : RunR CP (c3_r0 e) h Q ↔ RunR CP (
  .op (.box 23 (e 0)) fun t3 =>
  .op (.box 24 (e 1)) fun t4 =>
  .op (.mv (.bool false)) fun t6 =>
  .done (((e.upd 3 t3).upd 4 t4).upd 6 t6)) h Q := Iff.rfl
def c3_r1 : Env → Reg := fun e =>
  .op (.call 11 []) fun t16 =>
  .op (.un .not t16) fun t17 =>
  .done (e.upd 17 t17)
theorem c3_r1_run {CP : CProg} (e : Env) (h : Heap) (Q : Post) : RunR CP (c3_r1 e) h Q ↔ RunR CP (
  .op (.call 11 []) fun t16 =>
  .op (.un .not t16) fun t17 =>
  .done (e.upd 17 t17)) h Q := Iff.rfl
def c3_r2 : Env → Reg := fun e =>
  .op (.mv (.bool false)) fun t6 =>
  .done (e.upd 6 t6)
theorem c3_r2_run {CP : CProg} (e : Env) (h : Heap) (Q : Post) : RunR CP (c3_r2 e) h Q ↔ RunR CP (
  .op (.mv (.bool false)) fun t6 =>
  .done (e.upd 6 t6)) h Q := Iff.rfl
def c3_r3 : Env → Reg := fun e =>
  .op (.mv (e 2)) fun t18 =>
  .op (.lenSl t18) fun t19 =>
  .op (.bin .gtr t19 (.int .i64 100)) fun t20 =>
  .done (e.upd 20 t20)
theorem c3_r3_run {CP : CProg} (e : Env) (h : Heap) (Q : Post) : RunR CP (c3_r3 e) h Q ↔ RunR CP (
  .op (.mv (e 2)) fun t18 =>
  .op (.lenSl t18) fun t19 =>
  .op (.bin .gtr t19 (.int .i64 100)) fun t20 =>
  .done (e.upd 20 t20)) h Q := Iff.rfl
def c3_r4 : Env → Reg := fun e =>
  .op (.mv (.bool true)) fun t6 =>
  .done (e.upd 6 t6)
theorem c3_r4_run {CP : CProg} (e : Env) (h : Heap) (Q : Post) : RunR CP (c3_r4 e) h Q ↔ RunR CP (
  .op (.mv (.bool true)) fun t6 =>
  .done (e.upd 6 t6)) h Q := Iff.rfl
def c3_r5 : Env → Reg := fun e =>
  .op (.load (some 3) (e 3)) fun t21 =>
  .op (.call 12 [t21]) fun t22 =>
  .op (.alloc 28 [(.int .i64 0), (.int .i64 0), (.int .i64 0), (.int .i64 0), (.int .i64 0), (.int .i64 0), (.int .i64 0), (.int .i64 0), (.bool false)]) fun t7 =>
  .op (.store 9 t7 t22) fun _ =>
  .done (e.upd 7 t7)
theorem c3_r5_run {CP : CProg} (e : Env) (h : Heap) (Q : Post) : RunR CP (c3_r5 e) h Q ↔ RunR CP (
  .op (.load (some 3) (e 3)) fun t21 =>
  .op (.call 12 [t21]) fun t22 =>
  .op (.alloc 28 [(.int .i64 0), (.int .i64 0), (.int .i64 0), (.int .i64 0), (.int .i64 0), (.int .i64 0), (.int .i64 0), (.int .i64 0), (.bool false)]) fun t7 =>
  .op (.store 9 t7 t22) fun _ =>
  .done (e.upd 7 t7)) h Q := Iff.rfl
def c3_r6 : Env → Reg := fun e =>
  .op (.load (some 9) (e 7)) fun t23 =>
  .op (.call 13 [t23]) fun t24 =>
  .op (.alloc 31 [(.int .i64 0), (.int .i64 0), (.int .i64 0), (.int .i64 0)]) fun t8 =>
  .op (.store 4 t8 t24) fun _ =>
  .done (e.upd 8 t8)
theorem c3_r6_run {CP : CProg} (e : Env) (h : Heap) (Q : Post) : RunR CP (c3_r6 e) h Q ↔ RunR CP (
  .op (.load (some 9) (e 7)) fun t23 =>
  .op (.call 13 [t23]) fun t24 =>
  .op (.alloc 31 [(.int .i64 0), (.int .i64 0), (.int .i64 0), (.int .i64 0)]) fun t8 =>
  .op (.store 4 t8 t24) fun _ =>
  .done (e.upd 8 t8)) h Q := Iff.rfl
def c3_r7_c1 (e : Env) (t28 : Value) (t30 : Value) : Reg :=
  .op (.bin .and t30 (.int .i64 63)) fun t31 =>
  .op (.mv t28) fun t9 =>
  .op (.mv t31) fun t10 =>
  .done ((e.upd 9 t9).upd 10 t10)
theorem c3_r7_c1_run {CP : CProg} (e : Env) (t28 : Value) (t30 : Value) (h : Heap) (Q : Post) : RunR CP (c3_r7_c1 e t28 t30) h Q ↔ RunR CP (
  .op (.bin .and t30 (.int .i64 63)) fun t31 =>
  .op (.mv t28) fun t9 =>
  .op (.mv t31) fun t10 =>
  .done ((e.upd 9 t9).upd 10 t10)) h Q := Iff.rfl
def c3_r7 : Env → Reg := fun e =>
  .op (.indexArr 2 1 (e 4) (.int .i64 0)) fun t25 =>
  .op (.load none t25) fun t26 =>
  .snap fun h2 =>
  .op (.call 14 [t26]) fun t27 =>
  .op (.bin .shr t27 (.int .u64 1)) fun t28 =>
  .op (.indexArr 2 1 (e 4) (.int .i64 1)) fun t29 =>
  .op (.load none t29) fun t30 =>
  .chk none (some h2) (.load none t29) t30 <|
  c3_r7_c1 e t28 t30
theorem c3_r7_run {CP : CProg} (e : Env) (h : Heap) (Q : Post) : RunR CP (c3_r7 e) h Q ↔ RunR CP (
  .op (.indexArr 2 1 (e 4) (.int .i64 0)) fun t25 =>
  .op (.load none t25) fun t26 =>
  .snap fun h2 =>
  .op (.call 14 [t26]) fun t27 =>
  .op (.bin .shr t27 (.int .u64 1)) fun t28 =>
  .op (.indexArr 2 1 (e 4) (.int .i64 1)) fun t29 =>
  .op (.load none t29) fun t30 =>
  .chk none (some h2) (.load none t29) t30 <|
  c3_r7_c1 e t28 t30) h Q := Iff.rfl
def c3_r8_c1 (e : Env) (t34 : Value) (t38 : Value) (t11 : Value) : Reg :=
  .op (.alloc 38 [(.int .i64 0), (.int .i64 0), (.int .i64 0), (.int .i64 0)]) fun t12 =>
  .op (.store 4 t11 t34) fun _ =>
  .op (.store 4 t12 t38) fun _ =>
  .done ((e.upd 11 t11).upd 12 t12)
theorem c3_r8_c1_run {CP : CProg} (e : Env) (t34 : Value) (t38 : Value) (t11 : Value) (h : Heap) (Q : Post) : RunR CP (c3_r8_c1 e t34 t38 t11) h Q ↔ RunR CP (
  .op (.alloc 38 [(.int .i64 0), (.int .i64 0), (.int .i64 0), (.int .i64 0)]) fun t12 =>
  .op (.store 4 t11 t34) fun _ =>
  .op (.store 4 t12 t38) fun _ =>
  .done ((e.upd 11 t11).upd 12 t12)) h Q := Iff.rfl
def c3_r8 : Env → Reg := fun e =>
  .op (.mv (e 9)) fun t32 =>
  .op (.mv (e 10)) fun t33 =>
  .op (.call 15 [t32, t33]) fun t34 =>
  .op (.mv (e 9)) fun t35 =>
  .op (.mv (e 9)) fun t36 =>
  .op (.mv (e 10)) fun t37 =>
  .op (.build [(.int .i64 0), (.int .i64 0), (.int .i64 0), (.int .i64 0)] [(0, 1, t35), (1, 1, t36), (2, 1, t37)]) fun t38 =>
  .op (.alloc 36 [(.int .i64 0), (.int .i64 0), (.int .i64 0), (.int .i64 0)]) fun t11 =>
  c3_r8_c1 e t34 t38 t11
theorem c3_r8_run {CP : CProg} (e : Env) (h : Heap) (Q : Post) : RunR CP (c3_r8 e) h Q ↔ RunR CP (
  .op (.mv (e 9)) fun t32 =>
  .op (.mv (e 10)) fun t33 =>
  .op (.call 15 [t32, t33]) fun t34 =>
  .op (.mv (e 9)) fun t35 =>
  .op (.mv (e 9)) fun t36 =>
  .op (.mv (e 10)) fun t37 =>
  .op (.build [(.int .i64 0), (.int .i64 0), (.int .i64 0), (.int .i64 0)] [(0, 1, t35), (1, 1, t36), (2, 1, t37)]) fun t38 =>
  .op (.alloc 36 [(.int .i64 0), (.int .i64 0), (.int .i64 0), (.int .i64 0)]) fun t11 =>
  c3_r8_c1 e t34 t38 t11) h Q := Iff.rfl
def c3_r9 : Env → Reg := fun e =>
  .op (.mv (e 2)) fun t39 =>
  .op (.lenSl t39) fun t40 =>
  .op (.mv (.int .i64 0)) fun t41 =>
  .done (((e.upd 39 t39).upd 40 t40).upd 41 t41)
theorem c3_r9_run {CP : CProg} (e : Env) (h : Heap) (Q : Post) : RunR CP (c3_r9 e) h Q ↔ RunR CP (
  .op (.mv (e 2)) fun t39 =>
  .op (.lenSl t39) fun t40 =>
  .op (.mv (.int .i64 0)) fun t41 =>
  .done (((e.upd 39 t39).upd 40 t40).upd 41 t41)) h Q := Iff.rfl
def c3_r10 : Env → Reg := fun e =>
  .op (.bin .lss (e 41) (e 40)) fun t42 =>
  .done (e.upd 42 t42)
theorem c3_r10_run {CP : CProg} (e : Env) (h : Heap) (Q : Post) : RunR CP (c3_r10 e) h Q ↔ RunR CP (
  .op (.bin .lss (e 41) (e 40)) fun t42 =>
  .done (e.upd 42 t42)) h Q := Iff.rfl
def c3_r11 : Env → Reg := fun e =>
  .op (.indexSl 2 (e 39) (e 41)) fun t43 =>
  .op (.load (some 2) t43) fun t44 =>
  .op (.alloc 40 [(.int .i64 0), (.int .i64 0)]) fun t14 =>
  .op (.store 2 t14 t44) fun _ =>
  .done (e.upd 14 t14)
theorem c3_r11_run {CP : CProg} (e : Env) (h : Heap) (Q : Post) : RunR CP (c3_r11 e) h Q ↔ RunR CP (
  .op (.indexSl 2 (e 39) (e 41)) fun t43 =>
  .op (.load (some 2) t43) fun t44 =>
  .op (.alloc 40 [(.int .i64 0), (.int .i64 0)]) fun t14 =>
  .op (.store 2 t14 t44) fun _ =>
  .done (e.upd 14 t14)) h Q := Iff.rfl
def c3_r12 : Env → Reg := fun e =>
  .op (.mv (e 9)) fun t45 =>
  .op (.fieldAddr 0 (e 14)) fun t46 =>
  .op (.load none t46) fun t47 =>
  .op (.call 16 [t47]) fun t48 =>
  .op (.bin .add t45 t48) fun t49 =>
  .op (.mv t49) fun t9 =>
  .done (e.upd 9 t9)
theorem c3_r12_run {CP : CProg} (e : Env) (h : Heap) (Q : Post) : RunR CP (c3_r12 e) h Q ↔ RunR CP (
  .op (.mv (e 9)) fun t45 =>
  .op (.fieldAddr 0 (e 14)) fun t46 =>
  .op (.load none t46) fun t47 =>
  .op (.call 16 [t47]) fun t48 =>
  .op (.bin .add t45 t48) fun t49 =>
  .op (.mv t49) fun t9 =>
  .done (e.upd 9 t9)) h Q := Iff.rfl
def c3_r13 : Env → Reg := fun e =>
  .op (.fieldAddr 1 (e 14)) fun t50 =>
  .op (.load none t50) fun t51 =>
  .op (.bin .and t51 (.int .i64 31)) fun t52 =>
  .op (.fieldAddr 2 (e 7)) fun t53 =>
  .op (.load none t53) fun t54 =>
  .op (.bin .rem t52 t54) fun t55 =>
  .op (.bin .add t55 (.int .i64 1)) fun t56 =>
  .op (.mv t56) fun t15 =>
  .done (e.upd 15 t15)
theorem c3_r13_run {CP : CProg} (e : Env) (h : Heap) (Q : Post) : RunR CP (c3_r13 e) h Q ↔ RunR CP (
  .op (.fieldAddr 1 (e 14)) fun t50 =>
  .op (.load none t50) fun t51 =>
  .op (.bin .and t51 (.int .i64 31)) fun t52 =>
  .op (.fieldAddr 2 (e 7)) fun t53 =>
  .op (.load none t53) fun t54 =>
  .op (.bin .rem t52 t54) fun t55 =>
  .op (.bin .add t55 (.int .i64 1)) fun t56 =>
  .op (.mv t56) fun t15 =>
  .done (e.upd 15 t15)) h Q := Iff.rfl
def c3_r14_c3 (e : Env) (t66 : Value) (t71 : Value) (t72 : Value) (t73 : Value) : Reg :=
  .opg t66 false (.mv (e 9)) fun t74 =>
  .opg t66 false (.mv (e 15)) fun t75 =>
  .snap fun h19 =>
  .opg t66 false (.call 20 [t72, t73, t74, t75]) fun t76 =>
  .opg t66 false (.bin .neq t71 t76) fun t77 =>
  .op (.pick t66 (.bool true) t77) fun t78 =>
  .done (e.upd 78 t78)
theorem c3_r14_c3_run {CP : CProg} (e : Env) (t66 : Value) (t71 : Value) (t72 : Value) (t73 : Value) (h : Heap) (Q : Post) : RunR CP (c3_r14_c3 e t66 t71 t72 t73) h Q ↔ RunR CP (
  .opg t66 false (.mv (e 9)) fun t74 =>
  .opg t66 false (.mv (e 15)) fun t75 =>
  .snap fun h19 =>
  .opg t66 false (.call 20 [t72, t73, t74, t75]) fun t76 =>
  .opg t66 false (.bin .neq t71 t76) fun t77 =>
  .op (.pick t66 (.bool true) t77) fun t78 =>
  .done (e.upd 78 t78)) h Q := Iff.rfl
def c3_r14_c2 (e : Env) (t66 : Value) (t67 : Value) (t68 : Value) : Reg :=
  .opg t66 false (.mv (e 9)) fun t69 =>
  .opg t66 false (.mv (e 15)) fun t70 =>
  .snap fun h14 =>
  .opg t66 false (.call 19 [t67, t68, t69, t70]) fun t71 =>
  .opg t66 false (.load (some 4) (e 12)) fun t72 =>
  .chk (some (t66, false)) (some h14) (.load (some 4) (e 12)) t72 <|
  .opg t66 false (.load (some 9) (e 7)) fun t73 =>
  .chk (some (t66, false)) (some h14) (.load (some 9) (e 7)) t73 <|
  c3_r14_c3 e t66 t71 t72 t73
theorem c3_r14_c2_run {CP : CProg} (e : Env) (t66 : Value) (t67 : Value) (t68 : Value) (h : Heap) (Q : Post) : RunR CP (c3_r14_c2 e t66 t67 t68) h Q ↔ RunR CP (
  .opg t66 false (.mv (e 9)) fun t69 =>
  .opg t66 false (.mv (e 15)) fun t70 =>
  .snap fun h14 =>
  .opg t66 false (.call 19 [t67, t68, t69, t70]) fun t71 =>
  .opg t66 false (.load (some 4) (e 12)) fun t72 =>
  .chk (some (t66, false)) (some h14) (.load (some 4) (e 12)) t72 <|
  .opg t66 false (.load (some 9) (e 7)) fun t73 =>
  .chk (some (t66, false)) (some h14) (.load (some 9) (e 7)) t73 <|
  c3_r14_c3 e t66 t71 t72 t73) h Q := Iff.rfl
def c3_r14_c1 (e : Env) (h3 : Heap) (t60 : Value) (t61 : Value) (t62 : Value) : Reg :=
  .chk none (some h3) (.load (some 9) (e 7)) t62 <|
  .op (.mv (e 9)) fun t63 =>
  .snap fun h7 =>
  .op (.call 18 [t61, t62, t63]) fun t64 =>
  .op (.bin .neq t60 t64) fun t65 =>
  .op (.mv t65) fun t66 =>
  .opg t66 false (.load (some 4) (e 11)) fun t67 =>
  .opg t66 false (.load (some 4) (e 8)) fun t68 =>
  c3_r14_c2 e t66 t67 t68
theorem c3_r14_c1_run {CP : CProg} (e : Env) (h3 : Heap) (t60 : Value) (t61 : Value) (t62 : Value) (h : Heap) (Q : Post) : RunR CP (c3_r14_c1 e h3 t60 t61 t62) h Q ↔ RunR CP (
  .chk none (some h3) (.load (some 9) (e 7)) t62 <|
  .op (.mv (e 9)) fun t63 =>
  .snap fun h7 =>
  .op (.call 18 [t61, t62, t63]) fun t64 =>
  .op (.bin .neq t60 t64) fun t65 =>
  .op (.mv t65) fun t66 =>
  .opg t66 false (.load (some 4) (e 11)) fun t67 =>
  .opg t66 false (.load (some 4) (e 8)) fun t68 =>
  c3_r14_c2 e t66 t67 t68) h Q := Iff.rfl
def c3_r14 : Env → Reg := fun e =>
  .op (.load (some 4) (e 11)) fun t57 =>
  .op (.load (some 4) (e 8)) fun t58 =>
  .op (.mv (e 9)) fun t59 =>
  .snap fun h3 =>
  .op (.call 17 [t57, t58, t59]) fun t60 =>
  .op (.load (some 4) (e 12)) fun t61 =>
  .chk none (some h3) (.load (some 4) (e 12)) t61 <|
  .op (.load (some 9) (e 7)) fun t62 =>
  c3_r14_c1 e h3 t60 t61 t62
theorem c3_r14_run {CP : CProg} (e : Env) (h : Heap) (Q : Post) : RunR CP (c3_r14 e) h Q ↔ RunR CP (
  .op (.load (some 4) (e 11)) fun t57 =>
  .op (.load (some 4) (e 8)) fun t58 =>
  .op (.mv (e 9)) fun t59 =>
  .snap fun h3 =>
  .op (.call 17 [t57, t58, t59]) fun t60 =>
  .op (.load (some 4) (e 12)) fun t61 =>
  .chk none (some h3) (.load (some 4) (e 12)) t61 <|
  .op (.load (some 9) (e 7)) fun t62 =>
  c3_r14_c1 e h3 t60 t61 t62) h Q := Iff.rfl
def c3_r15 : Env → Reg := fun e =>
  .op (.mv (.bool false)) fun t6 =>
  .done (e.upd 6 t6)
theorem c3_r15_run {CP : CProg} (e : Env) (h : Heap) (Q : Post) : RunR CP (c3_r15 e) h Q ↔ RunR CP (
  .op (.mv (.bool false)) fun t6 =>
  .done (e.upd 6 t6)) h Q := Iff.rfl
def c3_r16 : Env → Reg := fun e =>
  .op (.fieldAddr 1 (e 14)) fun t79 =>
  .op (.load none t79) fun t80 =>
  .op (.bin .lss t80 (.int .i64 0)) fun t81 =>
  .done (e.upd 81 t81)
theorem c3_r16_run {CP : CProg} (e : Env) (h : Heap) (Q : Post) : RunR CP (c3_r16 e) h Q ↔ RunR CP (
  .op (.fieldAddr 1 (e 14)) fun t79 =>
  .op (.load none t79) fun t80 =>
  .op (.bin .lss t80 (.int .i64 0)) fun t81 =>
  .done (e.upd 81 t81)) h Q := Iff.rfl
def c3_r17 : Env → Reg := fun e =>
  .op (.fieldAddr 1 (e 14)) fun t82 =>
  .op (.load none t82) fun t83 =>
  .op (.mv t83) fun t15 =>
  .done (e.upd 15 t15)
theorem c3_r17_run {CP : CProg} (e : Env) (h : Heap) (Q : Post) : RunR CP (c3_r17 e) h Q ↔ RunR CP (
  .op (.fieldAddr 1 (e 14)) fun t82 =>
  .op (.load none t82) fun t83 =>
  .op (.mv t83) fun t15 =>
  .done (e.upd 15 t15)) h Q := Iff.rfl
def c3_r18_c2 (e : Env) (t93 : Value) (t95 : Value) (t96 : Value) : Reg :=
  .opg t93 false (.load none t96) fun t97 =>
  .opg t93 false (.bin .neq t95 t97) fun t98 =>
  .op (.pick t93 (.bool true) t98) fun t99 =>
  .op (.mv t99) fun t100 =>
  .opg t100 false (.fieldAddr 3 (e 11)) fun t101 =>
  .opg t100 false (.load none t101) fun t102 =>
  .opg t100 false (.fieldAddr 3 (e 12)) fun t103 =>
  .opg t100 false (.load none t103) fun t104 =>
  .opg t100 false (.bin .neq t102 t104) fun t105 =>
  .op (.pick t100 (.bool true) t105) fun t106 =>
  .done (e.upd 106 t106)
theorem c3_r18_c2_run {CP : CProg} (e : Env) (t93 : Value) (t95 : Value) (t96 : Value) (h : Heap) (Q : Post) : RunR CP (c3_r18_c2 e t93 t95 t96) h Q ↔ RunR CP (
  .opg t93 false (.load none t96) fun t97 =>
  .opg t93 false (.bin .neq t95 t97) fun t98 =>
  .op (.pick t93 (.bool true) t98) fun t99 =>
  .op (.mv t99) fun t100 =>
  .opg t100 false (.fieldAddr 3 (e 11)) fun t101 =>
  .opg t100 false (.load none t101) fun t102 =>
  .opg t100 false (.fieldAddr 3 (e 12)) fun t103 =>
  .opg t100 false (.load none t103) fun t104 =>
  .opg t100 false (.bin .neq t102 t104) fun t105 =>
  .op (.pick t100 (.bool true) t105) fun t106 =>
  .done (e.upd 106 t106)) h Q := Iff.rfl
def c3_r18_c1 (e : Env) (t87 : Value) (t88 : Value) (t89 : Value) : Reg :=
  .op (.mv (e 15)) fun t90 =>
  .snap fun h7 =>
  .op (.call 22 [(e 12), t88, t89, t90]) fun t91 =>
  .op (.eqK .bool true t87 t91) fun t92 =>
  .op (.mv t92) fun t93 =>
  .opg t93 false (.fieldAddr 0 (e 11)) fun t94 =>
  .opg t93 false (.load none t94) fun t95 =>
  .opg t93 false (.fieldAddr 0 (e 12)) fun t96 =>
  c3_r18_c2 e t93 t95 t96
theorem c3_r18_c1_run {CP : CProg} (e : Env) (t87 : Value) (t88 : Value) (t89 : Value) (h : Heap) (Q : Post) : RunR CP (c3_r18_c1 e t87 t88 t89) h Q ↔ RunR CP (
  .op (.mv (e 15)) fun t90 =>
  .snap fun h7 =>
  .op (.call 22 [(e 12), t88, t89, t90]) fun t91 =>
  .op (.eqK .bool true t87 t91) fun t92 =>
  .op (.mv t92) fun t93 =>
  .opg t93 false (.fieldAddr 0 (e 11)) fun t94 =>
  .opg t93 false (.load none t94) fun t95 =>
  .opg t93 false (.fieldAddr 0 (e 12)) fun t96 =>
  c3_r18_c2 e t93 t95 t96) h Q := Iff.rfl
def c3_r18 : Env → Reg := fun e =>
  .op (.load (some 4) (e 8)) fun t84 =>
  .op (.mv (e 9)) fun t85 =>
  .op (.mv (e 15)) fun t86 =>
  .snap fun h3 =>
  .op (.call 21 [(e 11), t84, t85, t86]) fun t87 =>
  .op (.load (some 9) (e 7)) fun t88 =>
  .chk none (some h3) (.load (some 9) (e 7)) t88 <|
  .op (.mv (e 9)) fun t89 =>
  c3_r18_c1 e t87 t88 t89
theorem c3_r18_run {CP : CProg} (e : Env) (h : Heap) (Q : Post) : RunR CP (c3_r18 e) h Q ↔ RunR CP (
  .op (.load (some 4) (e 8)) fun t84 =>
  .op (.mv (e 9)) fun t85 =>
  .op (.mv (e 15)) fun t86 =>
  .snap fun h3 =>
  .op (.call 21 [(e 11), t84, t85, t86]) fun t87 =>
  .op (.load (some 9) (e 7)) fun t88 =>
  .chk none (some h3) (.load (some 9) (e 7)) t88 <|
  .op (.mv (e 9)) fun t89 =>
  c3_r18_c1 e t87 t88 t89) h Q := Iff.rfl
def c3_r19 : Env → Reg := fun e =>
  .op (.mv (.bool false)) fun t6 =>
  .done (e.upd 6 t6)
theorem c3_r19_run {CP : CProg} (e : Env) (h : Heap) (Q : Post) : RunR CP (c3_r19 e) h Q ↔ RunR CP (
  .op (.mv (.bool false)) fun t6 =>
  .done (e.upd 6 t6)) h Q := Iff.rfl
def c3_r20 : Env → Reg := fun e =>
  .op (.bin .add (e 41) (.int .i64 1)) fun t107 =>
  .op (.mv t107) fun t41 =>
  .done (e.upd 41 t41)
theorem c3_r20_run {CP : CProg} (e : Env) (h : Heap) (Q : Post) : RunR CP (c3_r20 e) h Q ↔ RunR CP (
  .op (.bin .add (e 41) (.int .i64 1)) fun t107 =>
  .op (.mv t107) fun t41 =>
  .done (e.upd 41 t41)) h Q := Iff.rfl
def c3_l0 : CC := (.seq (.region c3_r10) (.seq (.cond (fun e => e 42) .skip (.exit 0)) (.seq (.block 1 (.seq (.region c3_r11) (.seq (.region c3_r12) (.seq (.region c3_r13) (.seq (.seq (.region c3_r14) (.cond (fun e => e 78) (.seq (.region c3_r15) .ret) .skip)) (.seq (.seq (.region c3_r16) (.cond (fun e => e 81) (.region c3_r17) .skip)) (.seq (.region c3_r18) (.cond (fun e => e 106) (.seq (.region c3_r19) .ret) .skip)))))))) (.region c3_r20))))
def c3_r21 : Env → Reg := fun e =>
  .op (.mv (.bool true)) fun t6 =>
  .done (e.upd 6 t6)
theorem c3_r21_run {CP : CProg} (e : Env) (h : Heap) (Q : Post) : RunR CP (c3_r21 e) h Q ↔ RunR CP (
  .op (.mv (.bool true)) fun t6 =>
  .done (e.upd 6 t6)) h Q := Iff.rfl
def c3 : CFn := ⟨(.seq (.region c3_r0) (.seq (.seq (.region c3_r1) (.cond (fun e => e 17) (.seq (.region c3_r2) .ret) .skip)) (.seq (.seq (.region c3_r3) (.cond (fun e => e 20) (.seq (.region c3_r4) .ret) .skip)) (.seq (.region c3_r5) (.seq (.region c3_r6) (.seq (.region c3_r7) (.seq (.region c3_r8) (.seq (.seq (.region c3_r9) (.block 0 (.loop c3_l0))) (.seq (.region c3_r21) .ret))))))))), [.t 6]⟩
def p3 : Pers := ⟨16, [17, 20, 39, 40, 41, 42, 78, 81, 106], 108⟩
-- 9: weighbridge/weighbridgelaw09.CellBounds
def c9_r0 : Env → Reg := fun e =>
  .op (.box 23 (e 0)) fun t3 =>
  .op (.box 40 (e 2)) fun t5 =>
  .op (.mv (.bool false)) fun t6 =>
  .done (((e.upd 3 t3).upd 5 t5).upd 6 t6)
theorem c9_r0_run {CP : CProg} (e : Env) (h : Heap) (Q : Post) : RunR CP (c9_r0 e) h Q ↔ RunR CP (
  .op (.box 23 (e 0)) fun t3 =>
  .op (.box 40 (e 2)) fun t5 =>
  .op (.mv (.bool false)) fun t6 =>
  .done (((e.upd 3 t3).upd 5 t5).upd 6 t6)) h Q := Iff.rfl
def c9_r1 : Env → Reg := fun e =>
  .op (.call 11 []) fun t19 =>
  .op (.un .not t19) fun t20 =>
  .done (e.upd 20 t20)
theorem c9_r1_run {CP : CProg} (e : Env) (h : Heap) (Q : Post) : RunR CP (c9_r1 e) h Q ↔ RunR CP (
  .op (.call 11 []) fun t19 =>
  .op (.un .not t19) fun t20 =>
  .done (e.upd 20 t20)) h Q := Iff.rfl
def c9_r2 : Env → Reg := fun e =>
  .op (.mv (.bool false)) fun t6 =>
  .done (e.upd 6 t6)
theorem c9_r2_run {CP : CProg} (e : Env) (h : Heap) (Q : Post) : RunR CP (c9_r2 e) h Q ↔ RunR CP (
  .op (.mv (.bool false)) fun t6 =>
  .done (e.upd 6 t6)) h Q := Iff.rfl
def c9_r3 : Env → Reg := fun e =>
  .op (.mv (e 1)) fun t21 =>
  .op (.lenSl t21) fun t22 =>
  .op (.bin .gtr t22 (.int .i64 100)) fun t23 =>
  .done (e.upd 23 t23)
theorem c9_r3_run {CP : CProg} (e : Env) (h : Heap) (Q : Post) : RunR CP (c9_r3 e) h Q ↔ RunR CP (
  .op (.mv (e 1)) fun t21 =>
  .op (.lenSl t21) fun t22 =>
  .op (.bin .gtr t22 (.int .i64 100)) fun t23 =>
  .done (e.upd 23 t23)) h Q := Iff.rfl
def c9_r4 : Env → Reg := fun e =>
  .op (.mv (.bool true)) fun t6 =>
  .done (e.upd 6 t6)
theorem c9_r4_run {CP : CProg} (e : Env) (h : Heap) (Q : Post) : RunR CP (c9_r4 e) h Q ↔ RunR CP (
  .op (.mv (.bool true)) fun t6 =>
  .done (e.upd 6 t6)) h Q := Iff.rfl
def c9_r5 : Env → Reg := fun e =>
  .op (.load (some 3) (e 3)) fun t24 =>
  .op (.call 12 [t24]) fun t25 =>
  .op (.alloc 28 [(.int .i64 0), (.int .i64 0), (.int .i64 0), (.int .i64 0), (.int .i64 0), (.int .i64 0), (.int .i64 0), (.int .i64 0), (.bool false)]) fun t7 =>
  .op (.store 9 t7 t25) fun _ =>
  .done (e.upd 7 t7)
theorem c9_r5_run {CP : CProg} (e : Env) (h : Heap) (Q : Post) : RunR CP (c9_r5 e) h Q ↔ RunR CP (
  .op (.load (some 3) (e 3)) fun t24 =>
  .op (.call 12 [t24]) fun t25 =>
  .op (.alloc 28 [(.int .i64 0), (.int .i64 0), (.int .i64 0), (.int .i64 0), (.int .i64 0), (.int .i64 0), (.int .i64 0), (.int .i64 0), (.bool false)]) fun t7 =>
  .op (.store 9 t7 t25) fun _ =>
  .done (e.upd 7 t7)) h Q := Iff.rfl
def c9_r6 : Env → Reg := fun e =>
  .op (.load (some 9) (e 7)) fun t26 =>
  .op (.call 13 [t26]) fun t27 =>
  .op (.alloc 31 [(.int .i64 0), (.int .i64 0), (.int .i64 0), (.int .i64 0)]) fun t8 =>
  .op (.store 4 t8 t27) fun _ =>
  .done (e.upd 8 t8)
theorem c9_r6_run {CP : CProg} (e : Env) (h : Heap) (Q : Post) : RunR CP (c9_r6 e) h Q ↔ RunR CP (
  .op (.load (some 9) (e 7)) fun t26 =>
  .op (.call 13 [t26]) fun t27 =>
  .op (.alloc 31 [(.int .i64 0), (.int .i64 0), (.int .i64 0), (.int .i64 0)]) fun t8 =>
  .op (.store 4 t8 t27) fun _ =>
  .done (e.upd 8 t8)) h Q := Iff.rfl
def c9_r7 : Env → Reg := fun e =>
  .op (.mv (.int .i64 0)) fun t9 =>
  .done (e.upd 9 t9)
theorem c9_r7_run {CP : CProg} (e : Env) (h : Heap) (Q : Post) : RunR CP (c9_r7 e) h Q ↔ RunR CP (
  .op (.mv (.int .i64 0)) fun t9 =>
  .done (e.upd 9 t9)) h Q := Iff.rfl
def c9_r8 : Env → Reg := fun e =>
  .op (.mv (e 9)) fun t28 =>
  .op (.call 15 [t28, (.int .i64 0)]) fun t29 =>
  .op (.alloc 36 [(.int .i64 0), (.int .i64 0), (.int .i64 0), (.int .i64 0)]) fun t10 =>
  .op (.store 4 t10 t29) fun _ =>
  .done (e.upd 10 t10)
theorem c9_r8_run {CP : CProg} (e : Env) (h : Heap) (Q : Post) : RunR CP (c9_r8 e) h Q ↔ RunR CP (
  .op (.mv (e 9)) fun t28 =>
  .op (.call 15 [t28, (.int .i64 0)]) fun t29 =>
  .op (.alloc 36 [(.int .i64 0), (.int .i64 0), (.int .i64 0), (.int .i64 0)]) fun t10 =>
  .op (.store 4 t10 t29) fun _ =>
  .done (e.upd 10 t10)) h Q := Iff.rfl
def c9_r9 : Env → Reg := fun e =>
  .op (.mv (.slice none 0 0)) fun t11 =>
  .done (e.upd 11 t11)
theorem c9_r9_run {CP : CProg} (e : Env) (h : Heap) (Q : Post) : RunR CP (c9_r9 e) h Q ↔ RunR CP (
  .op (.mv (.slice none 0 0)) fun t11 =>
  .done (e.upd 11 t11)) h Q := Iff.rfl
def c9_r10 : Env → Reg := fun e =>
  .op (.mv (e 1)) fun t30 =>
  .snap fun h1 =>
  .op (.append 40 2 16 (.slice none 0 0) t30) fun t31 =>
  .op (.load (some 2) (e 5)) fun t32 =>
  .chk none (some h1) (.load (some 2) (e 5)) t32 <|
  .op (.buildSlice 40 1 [(.int .i64 0), (.int .i64 0)] [(0, 2, t32)]) fun t33 =>
  .snap fun h4 =>
  .op (.append 40 2 16 t31 t33) fun t34 =>
  .op (.lenSl t34) fun t35 =>
  .op (.mv (.int .i64 0)) fun t36 =>
  .done (((e.upd 34 t34).upd 35 t35).upd 36 t36)
theorem c9_r10_run {CP : CProg} (e : Env) (h : Heap) (Q : Post) : RunR CP (c9_r10 e) h Q ↔ RunR CP (
  .op (.mv (e 1)) fun t30 =>
  .snap fun h1 =>
  .op (.append 40 2 16 (.slice none 0 0) t30) fun t31 =>
  .op (.load (some 2) (e 5)) fun t32 =>
  .chk none (some h1) (.load (some 2) (e 5)) t32 <|
  .op (.buildSlice 40 1 [(.int .i64 0), (.int .i64 0)] [(0, 2, t32)]) fun t33 =>
  .snap fun h4 =>
  .op (.append 40 2 16 t31 t33) fun t34 =>
  .op (.lenSl t34) fun t35 =>
  .op (.mv (.int .i64 0)) fun t36 =>
  .done (((e.upd 34 t34).upd 35 t35).upd 36 t36)) h Q := Iff.rfl
def c9_r11 : Env → Reg := fun e =>
  .op (.bin .lss (e 36) (e 35)) fun t37 =>
  .done (e.upd 37 t37)
theorem c9_r11_run {CP : CProg} (e : Env) (h : Heap) (Q : Post) : RunR CP (c9_r11 e) h Q ↔ RunR CP (
  .op (.bin .lss (e 36) (e 35)) fun t37 =>
  .done (e.upd 37 t37)) h Q := Iff.rfl
def c9_r12 : Env → Reg := fun e =>
  .op (.mv (e 36)) fun t38 =>
  .op (.indexSl 2 (e 34) (e 36)) fun t39 =>
  .op (.load (some 2) t39) fun t40 =>
  .op (.alloc 40 [(.int .i64 0), (.int .i64 0)]) fun t13 =>
  .op (.mv t38) fun t12 =>
  .op (.store 2 t13 t40) fun _ =>
  .done ((e.upd 13 t13).upd 12 t12)
theorem c9_r12_run {CP : CProg} (e : Env) (h : Heap) (Q : Post) : RunR CP (c9_r12 e) h Q ↔ RunR CP (
  .op (.mv (e 36)) fun t38 =>
  .op (.indexSl 2 (e 34) (e 36)) fun t39 =>
  .op (.load (some 2) t39) fun t40 =>
  .op (.alloc 40 [(.int .i64 0), (.int .i64 0)]) fun t13 =>
  .op (.mv t38) fun t12 =>
  .op (.store 2 t13 t40) fun _ =>
  .done ((e.upd 13 t13).upd 12 t12)) h Q := Iff.rfl
def c9_r13 : Env → Reg := fun e =>
  .op (.mv (e 9)) fun t41 =>
  .op (.fieldAddr 0 (e 13)) fun t42 =>
  .op (.load none t42) fun t43 =>
  .op (.call 16 [t43]) fun t44 =>
  .op (.bin .add t41 t44) fun t45 =>
  .op (.mv t45) fun t9 =>
  .done (e.upd 9 t9)
theorem c9_r13_run {CP : CProg} (e : Env) (h : Heap) (Q : Post) : RunR CP (c9_r13 e) h Q ↔ RunR CP (
  .op (.mv (e 9)) fun t41 =>
  .op (.fieldAddr 0 (e 13)) fun t42 =>
  .op (.load none t42) fun t43 =>
  .op (.call 16 [t43]) fun t44 =>
  .op (.bin .add t41 t44) fun t45 =>
  .op (.mv t45) fun t9 =>
  .done (e.upd 9 t9)) h Q := Iff.rfl
def c9_r14 : Env → Reg := fun e =>
  .op (.mv (.int .i64 0)) fun t14 =>
  .done (e.upd 14 t14)
theorem c9_r14_run {CP : CProg} (e : Env) (h : Heap) (Q : Post) : RunR CP (c9_r14 e) h Q ↔ RunR CP (
  .op (.mv (.int .i64 0)) fun t14 =>
  .done (e.upd 14 t14)) h Q := Iff.rfl
def c9_r15 : Env → Reg := fun e =>
  .op (.mv (e 11)) fun t46 =>
  .op (.lenSl t46) fun t47 =>
  .op (.mv (.int .i64 0)) fun t48 =>
  .done (((e.upd 46 t46).upd 47 t47).upd 48 t48)
theorem c9_r15_run {CP : CProg} (e : Env) (h : Heap) (Q : Post) : RunR CP (c9_r15 e) h Q ↔ RunR CP (
  .op (.mv (e 11)) fun t46 =>
  .op (.lenSl t46) fun t47 =>
  .op (.mv (.int .i64 0)) fun t48 =>
  .done (((e.upd 46 t46).upd 47 t47).upd 48 t48)) h Q := Iff.rfl
def c9_r16 : Env → Reg := fun e =>
  .op (.bin .lss (e 48) (e 47)) fun t49 =>
  .done (e.upd 49 t49)
theorem c9_r16_run {CP : CProg} (e : Env) (h : Heap) (Q : Post) : RunR CP (c9_r16 e) h Q ↔ RunR CP (
  .op (.bin .lss (e 48) (e 47)) fun t49 =>
  .done (e.upd 49 t49)) h Q := Iff.rfl
def c9_r17 : Env → Reg := fun e =>
  .op (.indexSl 2 (e 46) (e 48)) fun t50 =>
  .op (.load (some 2) t50) fun t51 =>
  .op (.alloc 56 [(.int .i64 0), (.int .i64 0)]) fun t16 =>
  .op (.store 2 t16 t51) fun _ =>
  .done (e.upd 16 t16)
theorem c9_r17_run {CP : CProg} (e : Env) (h : Heap) (Q : Post) : RunR CP (c9_r17 e) h Q ↔ RunR CP (
  .op (.indexSl 2 (e 46) (e 48)) fun t50 =>
  .op (.load (some 2) t50) fun t51 =>
  .op (.alloc 56 [(.int .i64 0), (.int .i64 0)]) fun t16 =>
  .op (.store 2 t16 t51) fun _ =>
  .done (e.upd 16 t16)) h Q := Iff.rfl
def c9_r18 : Env → Reg := fun e =>
  .op (.fieldAddr 0 (e 16)) fun t52 =>
  .op (.load none t52) fun t53 =>
  .op (.mv (e 9)) fun t54 =>
  .op (.fieldAddr 1 (e 7)) fun t55 =>
  .op (.load none t55) fun t56 =>
  .op (.bin .sub t54 t56) fun t57 =>
  .op (.bin .gtr t53 t57) fun t58 =>
  .done (e.upd 58 t58)
theorem c9_r18_run {CP : CProg} (e : Env) (h : Heap) (Q : Post) : RunR CP (c9_r18 e) h Q ↔ RunR CP (
  .op (.fieldAddr 0 (e 16)) fun t52 =>
  .op (.load none t52) fun t53 =>
  .op (.mv (e 9)) fun t54 =>
  .op (.fieldAddr 1 (e 7)) fun t55 =>
  .op (.load none t55) fun t56 =>
  .op (.bin .sub t54 t56) fun t57 =>
  .op (.bin .gtr t53 t57) fun t58 =>
  .done (e.upd 58 t58)) h Q := Iff.rfl
def c9_r19 : Env → Reg := fun e =>
  .op (.mv (e 14)) fun t59 =>
  .op (.fieldAddr 1 (e 16)) fun t60 =>
  .op (.load none t60) fun t61 =>
  .op (.bin .add t59 t61) fun t62 =>
  .op (.mv t62) fun t14 =>
  .done (e.upd 14 t14)
theorem c9_r19_run {CP : CProg} (e : Env) (h : Heap) (Q : Post) : RunR CP (c9_r19 e) h Q ↔ RunR CP (
  .op (.mv (e 14)) fun t59 =>
  .op (.fieldAddr 1 (e 16)) fun t60 =>
  .op (.load none t60) fun t61 =>
  .op (.bin .add t59 t61) fun t62 =>
  .op (.mv t62) fun t14 =>
  .done (e.upd 14 t14)) h Q := Iff.rfl
def c9_r20 : Env → Reg := fun e =>
  .op (.bin .add (e 48) (.int .i64 1)) fun t63 =>
  .op (.mv t63) fun t48 =>
  .done (e.upd 48 t48)
theorem c9_r20_run {CP : CProg} (e : Env) (h : Heap) (Q : Post) : RunR CP (c9_r20 e) h Q ↔ RunR CP (
  .op (.bin .add (e 48) (.int .i64 1)) fun t63 =>
  .op (.mv t63) fun t48 =>
  .done (e.upd 48 t48)) h Q := Iff.rfl
def c9_l0 : CC := (.seq (.region c9_r16) (.seq (.cond (fun e => e 49) .skip (.exit 2)) (.seq (.block 3 (.seq (.region c9_r17) (.seq (.region c9_r18) (.cond (fun e => e 58) (.region c9_r19) .skip)))) (.region c9_r20))))
def c9_r21_c4 (e : Env) (t79 : Value) (t84 : Value) (t87 : Value) (t88 : Value) (t89 : Value) (t90 : Value) : Reg :=
  .opg t87 false (.call 23 [t88, t89, t90]) fun t91 =>
  .opg t87 false (.bin .gtr t91 (.int .i64 0)) fun t92 =>
  .opg t84 true (.pick t87 (.bool true) t92) fun t93 =>
  .opg t79 false (.pick t84 t93 (.bool false)) fun t94 =>
  .op (.pick t79 (.bool true) t94) fun t95 =>
  .done (e.upd 95 t95)
theorem c9_r21_c4_run {CP : CProg} (e : Env) (t79 : Value) (t84 : Value) (t87 : Value) (t88 : Value) (t89 : Value) (t90 : Value) (h : Heap) (Q : Post) : RunR CP (c9_r21_c4 e t79 t84 t87 t88 t89 t90) h Q ↔ RunR CP (
  .opg t87 false (.call 23 [t88, t89, t90]) fun t91 =>
  .opg t87 false (.bin .gtr t91 (.int .i64 0)) fun t92 =>
  .opg t84 true (.pick t87 (.bool true) t92) fun t93 =>
  .opg t79 false (.pick t84 t93 (.bool false)) fun t94 =>
  .op (.pick t79 (.bool true) t94) fun t95 =>
  .done (e.upd 95 t95)) h Q := Iff.rfl
def c9_r21_c3 (e : Env) (t79 : Value) (t83 : Value) : Reg :=
  .opg t79 false (.mv t83) fun t84 =>
  .opg t84 true (.mv (e 14)) fun t85 =>
  .opg t84 true (.bin .gtr t85 (.int .i64 0)) fun t86 =>
  .opg t84 true (.mv t86) fun t87 =>
  .opg t87 false (.load (some 4) (e 10)) fun t88 =>
  .opg t87 false (.load (some 4) (e 8)) fun t89 =>
  .opg t87 false (.mv (e 9)) fun t90 =>
  .snap fun h27 =>
  c9_r21_c4 e t79 t84 t87 t88 t89 t90
theorem c9_r21_c3_run {CP : CProg} (e : Env) (t79 : Value) (t83 : Value) (h : Heap) (Q : Post) : RunR CP (c9_r21_c3 e t79 t83) h Q ↔ RunR CP (
  .opg t79 false (.mv t83) fun t84 =>
  .opg t84 true (.mv (e 14)) fun t85 =>
  .opg t84 true (.bin .gtr t85 (.int .i64 0)) fun t86 =>
  .opg t84 true (.mv t86) fun t87 =>
  .opg t87 false (.load (some 4) (e 10)) fun t88 =>
  .opg t87 false (.load (some 4) (e 8)) fun t89 =>
  .opg t87 false (.mv (e 9)) fun t90 =>
  .snap fun h27 =>
  c9_r21_c4 e t79 t84 t87 t88 t89 t90) h Q := Iff.rfl
def c9_r21_c2 (e : Env) (t70 : Value) (t74 : Value) (t76 : Value) : Reg :=
  .opg t70 false (.bin .gtr t74 t76) fun t77 =>
  .op (.pick t70 (.bool true) t77) fun t78 =>
  .op (.mv t78) fun t79 =>
  .opg t79 false (.load (some 4) (e 10)) fun t80 =>
  .opg t79 false (.load (some 4) (e 8)) fun t81 =>
  .opg t79 false (.mv (e 9)) fun t82 =>
  .snap fun h19 =>
  .opg t79 false (.call 24 [t80, t81, t82]) fun t83 =>
  c9_r21_c3 e t79 t83
theorem c9_r21_c2_run {CP : CProg} (e : Env) (t70 : Value) (t74 : Value) (t76 : Value) (h : Heap) (Q : Post) : RunR CP (c9_r21_c2 e t70 t74 t76) h Q ↔ RunR CP (
  .opg t70 false (.bin .gtr t74 t76) fun t77 =>
  .op (.pick t70 (.bool true) t77) fun t78 =>
  .op (.mv t78) fun t79 =>
  .opg t79 false (.load (some 4) (e 10)) fun t80 =>
  .opg t79 false (.load (some 4) (e 8)) fun t81 =>
  .opg t79 false (.mv (e 9)) fun t82 =>
  .snap fun h19 =>
  .opg t79 false (.call 24 [t80, t81, t82]) fun t83 =>
  c9_r21_c3 e t79 t83) h Q := Iff.rfl
def c9_r21_c1 (e : Env) (t70 : Value) : Reg :=
  .opg t70 false (.load (some 4) (e 10)) fun t71 =>
  .opg t70 false (.load (some 4) (e 8)) fun t72 =>
  .opg t70 false (.mv (e 9)) fun t73 =>
  .snap fun h10 =>
  .opg t70 false (.call 23 [t71, t72, t73]) fun t74 =>
  .opg t70 false (.fieldAddr 0 (e 7)) fun t75 =>
  .opg t70 false (.load none t75) fun t76 =>
  .chk (some (t70, false)) (some h10) (.load none t75) t76 <|
  c9_r21_c2 e t70 t74 t76
theorem c9_r21_c1_run {CP : CProg} (e : Env) (t70 : Value) (h : Heap) (Q : Post) : RunR CP (c9_r21_c1 e t70) h Q ↔ RunR CP (
  .opg t70 false (.load (some 4) (e 10)) fun t71 =>
  .opg t70 false (.load (some 4) (e 8)) fun t72 =>
  .opg t70 false (.mv (e 9)) fun t73 =>
  .snap fun h10 =>
  .opg t70 false (.call 23 [t71, t72, t73]) fun t74 =>
  .opg t70 false (.fieldAddr 0 (e 7)) fun t75 =>
  .opg t70 false (.load none t75) fun t76 =>
  .chk (some (t70, false)) (some h10) (.load none t75) t76 <|
  c9_r21_c2 e t70 t74 t76) h Q := Iff.rfl
def c9_r21 : Env → Reg := fun e =>
  .op (.mv (e 14)) fun t64 =>
  .op (.load (some 4) (e 10)) fun t65 =>
  .op (.load (some 4) (e 8)) fun t66 =>
  .op (.mv (e 9)) fun t67 =>
  .snap fun h4 =>
  .op (.call 23 [t65, t66, t67]) fun t68 =>
  .op (.bin .gtr t64 t68) fun t69 =>
  .op (.mv t69) fun t70 =>
  c9_r21_c1 e t70
theorem c9_r21_run {CP : CProg} (e : Env) (h : Heap) (Q : Post) : RunR CP (c9_r21 e) h Q ↔ RunR CP (
  .op (.mv (e 14)) fun t64 =>
  .op (.load (some 4) (e 10)) fun t65 =>
  .op (.load (some 4) (e 8)) fun t66 =>
  .op (.mv (e 9)) fun t67 =>
  .snap fun h4 =>
  .op (.call 23 [t65, t66, t67]) fun t68 =>
  .op (.bin .gtr t64 t68) fun t69 =>
  .op (.mv t69) fun t70 =>
  c9_r21_c1 e t70) h Q := Iff.rfl
def c9_r22 : Env → Reg := fun e =>
  .op (.mv (.bool false)) fun t6 =>
  .done (e.upd 6 t6)
theorem c9_r22_run {CP : CProg} (e : Env) (h : Heap) (Q : Post) : RunR CP (c9_r22 e) h Q ↔ RunR CP (
  .op (.mv (.bool false)) fun t6 =>
  .done (e.upd 6 t6)) h Q := Iff.rfl
def c9_r23 : Env → Reg := fun e =>
  .op (.fieldAddr 1 (e 13)) fun t96 =>
  .op (.load none t96) fun t97 =>
  .op (.bin .and t97 (.int .i64 31)) fun t98 =>
  .op (.fieldAddr 2 (e 7)) fun t99 =>
  .op (.load none t99) fun t100 =>
  .op (.bin .rem t98 t100) fun t101 =>
  .op (.bin .add t101 (.int .i64 1)) fun t102 =>
  .op (.mv t102) fun t17 =>
  .done (e.upd 17 t17)
theorem c9_r23_run {CP : CProg} (e : Env) (h : Heap) (Q : Post) : RunR CP (c9_r23 e) h Q ↔ RunR CP (
  .op (.fieldAddr 1 (e 13)) fun t96 =>
  .op (.load none t96) fun t97 =>
  .op (.bin .and t97 (.int .i64 31)) fun t98 =>
  .op (.fieldAddr 2 (e 7)) fun t99 =>
  .op (.load none t99) fun t100 =>
  .op (.bin .rem t98 t100) fun t101 =>
  .op (.bin .add t101 (.int .i64 1)) fun t102 =>
  .op (.mv t102) fun t17 =>
  .done (e.upd 17 t17)) h Q := Iff.rfl
def c9_r24 : Env → Reg := fun e =>
  .op (.load (some 4) (e 10)) fun t103 =>
  .op (.load (some 4) (e 8)) fun t104 =>
  .op (.mv (e 9)) fun t105 =>
  .op (.call 24 [t103, t104, t105]) fun t106 =>
  .done (e.upd 106 t106)
theorem c9_r24_run {CP : CProg} (e : Env) (h : Heap) (Q : Post) : RunR CP (c9_r24 e) h Q ↔ RunR CP (
  .op (.load (some 4) (e 10)) fun t103 =>
  .op (.load (some 4) (e 8)) fun t104 =>
  .op (.mv (e 9)) fun t105 =>
  .op (.call 24 [t103, t104, t105]) fun t106 =>
  .done (e.upd 106 t106)) h Q := Iff.rfl
def c9_r25 : Env → Reg := fun e =>
  .op (.mv (e 9)) fun t107 =>
  .op (.call 15 [t107, (.int .i64 0)]) fun t108 =>
  .op (.alloc 36 [(.int .i64 0), (.int .i64 0), (.int .i64 0), (.int .i64 0)]) fun t18 =>
  .op (.store 4 t18 t108) fun _ =>
  .done (e.upd 18 t18)
theorem c9_r25_run {CP : CProg} (e : Env) (h : Heap) (Q : Post) : RunR CP (c9_r25 e) h Q ↔ RunR CP (
  .op (.mv (e 9)) fun t107 =>
  .op (.call 15 [t107, (.int .i64 0)]) fun t108 =>
  .op (.alloc 36 [(.int .i64 0), (.int .i64 0), (.int .i64 0), (.int .i64 0)]) fun t18 =>
  .op (.store 4 t18 t108) fun _ =>
  .done (e.upd 18 t18)) h Q := Iff.rfl
def c9_r26_c3 (e : Env) (t118 : Value) (t123 : Value) (t124 : Value) (t125 : Value) : Reg :=
  .opg t118 false (.mv (e 9)) fun t126 =>
  .opg t118 false (.mv (e 17)) fun t127 =>
  .snap fun h19 =>
  .opg t118 false (.call 19 [t124, t125, t126, t127]) fun t128 =>
  .opg t118 false (.bin .neq t123 t128) fun t129 =>
  .op (.pick t118 (.bool true) t129) fun t130 =>
  .done (e.upd 130 t130)
theorem c9_r26_c3_run {CP : CProg} (e : Env) (t118 : Value) (t123 : Value) (t124 : Value) (t125 : Value) (h : Heap) (Q : Post) : RunR CP (c9_r26_c3 e t118 t123 t124 t125) h Q ↔ RunR CP (
  .opg t118 false (.mv (e 9)) fun t126 =>
  .opg t118 false (.mv (e 17)) fun t127 =>
  .snap fun h19 =>
  .opg t118 false (.call 19 [t124, t125, t126, t127]) fun t128 =>
  .opg t118 false (.bin .neq t123 t128) fun t129 =>
  .op (.pick t118 (.bool true) t129) fun t130 =>
  .done (e.upd 130 t130)) h Q := Iff.rfl
def c9_r26_c2 (e : Env) (t118 : Value) (t119 : Value) (t120 : Value) : Reg :=
  .opg t118 false (.mv (e 9)) fun t121 =>
  .opg t118 false (.mv (e 17)) fun t122 =>
  .snap fun h14 =>
  .opg t118 false (.call 19 [t119, t120, t121, t122]) fun t123 =>
  .opg t118 false (.load (some 4) (e 18)) fun t124 =>
  .chk (some (t118, false)) (some h14) (.load (some 4) (e 18)) t124 <|
  .opg t118 false (.load (some 4) (e 8)) fun t125 =>
  .chk (some (t118, false)) (some h14) (.load (some 4) (e 8)) t125 <|
  c9_r26_c3 e t118 t123 t124 t125
theorem c9_r26_c2_run {CP : CProg} (e : Env) (t118 : Value) (t119 : Value) (t120 : Value) (h : Heap) (Q : Post) : RunR CP (c9_r26_c2 e t118 t119 t120) h Q ↔ RunR CP (
  .opg t118 false (.mv (e 9)) fun t121 =>
  .opg t118 false (.mv (e 17)) fun t122 =>
  .snap fun h14 =>
  .opg t118 false (.call 19 [t119, t120, t121, t122]) fun t123 =>
  .opg t118 false (.load (some 4) (e 18)) fun t124 =>
  .chk (some (t118, false)) (some h14) (.load (some 4) (e 18)) t124 <|
  .opg t118 false (.load (some 4) (e 8)) fun t125 =>
  .chk (some (t118, false)) (some h14) (.load (some 4) (e 8)) t125 <|
  c9_r26_c3 e t118 t123 t124 t125) h Q := Iff.rfl
def c9_r26_c1 (e : Env) (h3 : Heap) (t112 : Value) (t113 : Value) (t114 : Value) : Reg :=
  .chk none (some h3) (.load (some 4) (e 8)) t114 <|
  .op (.mv (e 9)) fun t115 =>
  .snap fun h7 =>
  .op (.call 17 [t113, t114, t115]) fun t116 =>
  .op (.bin .neq t112 t116) fun t117 =>
  .op (.mv t117) fun t118 =>
  .opg t118 false (.load (some 4) (e 10)) fun t119 =>
  .opg t118 false (.load (some 4) (e 8)) fun t120 =>
  c9_r26_c2 e t118 t119 t120
theorem c9_r26_c1_run {CP : CProg} (e : Env) (h3 : Heap) (t112 : Value) (t113 : Value) (t114 : Value) (h : Heap) (Q : Post) : RunR CP (c9_r26_c1 e h3 t112 t113 t114) h Q ↔ RunR CP (
  .chk none (some h3) (.load (some 4) (e 8)) t114 <|
  .op (.mv (e 9)) fun t115 =>
  .snap fun h7 =>
  .op (.call 17 [t113, t114, t115]) fun t116 =>
  .op (.bin .neq t112 t116) fun t117 =>
  .op (.mv t117) fun t118 =>
  .opg t118 false (.load (some 4) (e 10)) fun t119 =>
  .opg t118 false (.load (some 4) (e 8)) fun t120 =>
  c9_r26_c2 e t118 t119 t120) h Q := Iff.rfl
def c9_r26 : Env → Reg := fun e =>
  .op (.load (some 4) (e 10)) fun t109 =>
  .op (.load (some 4) (e 8)) fun t110 =>
  .op (.mv (e 9)) fun t111 =>
  .snap fun h3 =>
  .op (.call 17 [t109, t110, t111]) fun t112 =>
  .op (.load (some 4) (e 18)) fun t113 =>
  .chk none (some h3) (.load (some 4) (e 18)) t113 <|
  .op (.load (some 4) (e 8)) fun t114 =>
  c9_r26_c1 e h3 t112 t113 t114
theorem c9_r26_run {CP : CProg} (e : Env) (h : Heap) (Q : Post) : RunR CP (c9_r26 e) h Q ↔ RunR CP (
  .op (.load (some 4) (e 10)) fun t109 =>
  .op (.load (some 4) (e 8)) fun t110 =>
  .op (.mv (e 9)) fun t111 =>
  .snap fun h3 =>
  .op (.call 17 [t109, t110, t111]) fun t112 =>
  .op (.load (some 4) (e 18)) fun t113 =>
  .chk none (some h3) (.load (some 4) (e 18)) t113 <|
  .op (.load (some 4) (e 8)) fun t114 =>
  c9_r26_c1 e h3 t112 t113 t114) h Q := Iff.rfl
def c9_r27 : Env → Reg := fun e =>
  .op (.mv (.bool false)) fun t6 =>
  .done (e.upd 6 t6)
theorem c9_r27_run {CP : CProg} (e : Env) (h : Heap) (Q : Post) : RunR CP (c9_r27 e) h Q ↔ RunR CP (
  .op (.mv (.bool false)) fun t6 =>
  .done (e.upd 6 t6)) h Q := Iff.rfl
def c9_r28 : Env → Reg := fun e =>
  .op (.mv (e 12)) fun t131 =>
  .op (.mv (e 1)) fun t132 =>
  .op (.lenSl t132) fun t133 =>
  .op (.bin .lss t131 t133) fun t134 =>
  .op (.mv t134) fun t135 =>
  .opg t135 true (.load (some 4) (e 8)) fun t136 =>
  .opg t135 true (.mv (e 9)) fun t137 =>
  .opg t135 true (.mv (e 17)) fun t138 =>
  .opg t135 true (.call 21 [(e 10), t136, t137, t138]) fun t139 =>
  .op (.pick t135 t139 (.bool false)) fun t140 =>
  .done (e.upd 140 t140)
theorem c9_r28_run {CP : CProg} (e : Env) (h : Heap) (Q : Post) : RunR CP (c9_r28 e) h Q ↔ RunR CP (
  .op (.mv (e 12)) fun t131 =>
  .op (.mv (e 1)) fun t132 =>
  .op (.lenSl t132) fun t133 =>
  .op (.bin .lss t131 t133) fun t134 =>
  .op (.mv t134) fun t135 =>
  .opg t135 true (.load (some 4) (e 8)) fun t136 =>
  .opg t135 true (.mv (e 9)) fun t137 =>
  .opg t135 true (.mv (e 17)) fun t138 =>
  .opg t135 true (.call 21 [(e 10), t136, t137, t138]) fun t139 =>
  .op (.pick t135 t139 (.bool false)) fun t140 =>
  .done (e.upd 140 t140)) h Q := Iff.rfl
def c9_r29 : Env → Reg := fun e =>
  .op (.mv (e 11)) fun t141 =>
  .op (.mv (e 9)) fun t142 =>
  .op (.mv (e 17)) fun t143 =>
  .op (.build [(.int .i64 0), (.int .i64 0)] [(0, 1, t142), (1, 1, t143)]) fun t144 =>
  .op (.buildSlice 56 1 [(.int .i64 0), (.int .i64 0)] [(0, 2, t144)]) fun t145 =>
  .op (.append 56 2 16 t141 t145) fun t146 =>
  .op (.mv t146) fun t11 =>
  .done (e.upd 11 t11)
theorem c9_r29_run {CP : CProg} (e : Env) (h : Heap) (Q : Post) : RunR CP (c9_r29 e) h Q ↔ RunR CP (
  .op (.mv (e 11)) fun t141 =>
  .op (.mv (e 9)) fun t142 =>
  .op (.mv (e 17)) fun t143 =>
  .op (.build [(.int .i64 0), (.int .i64 0)] [(0, 1, t142), (1, 1, t143)]) fun t144 =>
  .op (.buildSlice 56 1 [(.int .i64 0), (.int .i64 0)] [(0, 2, t144)]) fun t145 =>
  .op (.append 56 2 16 t141 t145) fun t146 =>
  .op (.mv t146) fun t11 =>
  .done (e.upd 11 t11)) h Q := Iff.rfl
def c9_r30 : Env → Reg := fun e =>
  .op (.bin .add (e 36) (.int .i64 1)) fun t147 =>
  .op (.mv t147) fun t36 =>
  .done (e.upd 36 t36)
theorem c9_r30_run {CP : CProg} (e : Env) (h : Heap) (Q : Post) : RunR CP (c9_r30 e) h Q ↔ RunR CP (
  .op (.bin .add (e 36) (.int .i64 1)) fun t147 =>
  .op (.mv t147) fun t36 =>
  .done (e.upd 36 t36)) h Q := Iff.rfl
def c9_l1 : CC := (.seq (.region c9_r11) (.seq (.cond (fun e => e 37) .skip (.exit 0)) (.seq (.block 1 (.seq (.region c9_r12) (.seq (.region c9_r13) (.seq (.region c9_r14) (.seq (.seq (.region c9_r15) (.block 2 (.loop c9_l0))) (.seq (.seq (.region c9_r21) (.cond (fun e => e 95) (.seq (.region c9_r22) .ret) .skip)) (.seq (.region c9_r23) (.seq (.seq (.region c9_r24) (.cond (fun e => e 106) (.seq (.region c9_r25) (.seq (.region c9_r26) (.cond (fun e => e 130) (.seq (.region c9_r27) .ret) .skip))) .skip)) (.seq (.region c9_r28) (.cond (fun e => e 140) (.region c9_r29) .skip)))))))))) (.region c9_r30))))
def c9_r31 : Env → Reg := fun e =>
  .op (.mv (.bool true)) fun t6 =>
  .done (e.upd 6 t6)
theorem c9_r31_run {CP : CProg} (e : Env) (h : Heap) (Q : Post) : RunR CP (c9_r31 e) h Q ↔ RunR CP (
  .op (.mv (.bool true)) fun t6 =>
  .done (e.upd 6 t6)) h Q := Iff.rfl
def c9 : CFn := ⟨(.seq (.region c9_r0) (.seq (.seq (.region c9_r1) (.cond (fun e => e 20) (.seq (.region c9_r2) .ret) .skip)) (.seq (.seq (.region c9_r3) (.cond (fun e => e 23) (.seq (.region c9_r4) .ret) .skip)) (.seq (.region c9_r5) (.seq (.region c9_r6) (.seq (.region c9_r7) (.seq (.region c9_r8) (.seq (.region c9_r9) (.seq (.seq (.region c9_r10) (.block 0 (.loop c9_l1))) (.seq (.region c9_r31) .ret)))))))))), [.t 6]⟩
def p9 : Pers := ⟨19, [20, 23, 34, 35, 36, 37, 46, 47, 48, 49, 58, 95, 106, 130, 140], 148⟩
-- 11: weighbridge/weighbridgelaw09.fit
def c11_r0 : Env → Reg := fun e =>
  .op (.mv (.bool false)) fun t0 =>
  .done (e.upd 0 t0)
theorem c11_r0_run {CP : CProg} (e : Env) (h : Heap) (Q : Post) : RunR CP (c11_r0 e) h Q ↔ RunR CP (
  .op (.mv (.bool false)) fun t0 =>
  .done (e.upd 0 t0)) h Q := Iff.rfl
def c11_r1 : Env → Reg := fun e =>
  .op (.build [(.int .i64 0), (.int .i64 0), (.int .i64 0), (.int .i64 0), (.int .i64 0), (.int .i64 0), (.int .i64 0), (.int .i64 0), (.bool false)] [(0, 1, (.int .i64 10)), (1, 1, (.int .i64 10)), (2, 1, (.int .i64 1))]) fun t3 =>
  .op (.call 13 [t3]) fun t4 =>
  .op (.alloc 31 [(.int .i64 0), (.int .i64 0), (.int .i64 0), (.int .i64 0)]) fun t1 =>
  .op (.store 4 t1 t4) fun _ =>
  .done (e.upd 1 t1)
theorem c11_r1_run {CP : CProg} (e : Env) (h : Heap) (Q : Post) : RunR CP (c11_r1 e) h Q ↔ RunR CP (
  .op (.build [(.int .i64 0), (.int .i64 0), (.int .i64 0), (.int .i64 0), (.int .i64 0), (.int .i64 0), (.int .i64 0), (.int .i64 0), (.bool false)] [(0, 1, (.int .i64 10)), (1, 1, (.int .i64 10)), (2, 1, (.int .i64 1))]) fun t3 =>
  .op (.call 13 [t3]) fun t4 =>
  .op (.alloc 31 [(.int .i64 0), (.int .i64 0), (.int .i64 0), (.int .i64 0)]) fun t1 =>
  .op (.store 4 t1 t4) fun _ =>
  .done (e.upd 1 t1)) h Q := Iff.rfl
def c11_r2 : Env → Reg := fun e =>
  .op (.call 15 [(.int .i64 5), (.int .i64 0)]) fun t5 =>
  .op (.alloc 36 [(.int .i64 0), (.int .i64 0), (.int .i64 0), (.int .i64 0)]) fun t2 =>
  .op (.store 4 t2 t5) fun _ =>
  .done (e.upd 2 t2)
theorem c11_r2_run {CP : CProg} (e : Env) (h : Heap) (Q : Post) : RunR CP (c11_r2 e) h Q ↔ RunR CP (
  .op (.call 15 [(.int .i64 5), (.int .i64 0)]) fun t5 =>
  .op (.alloc 36 [(.int .i64 0), (.int .i64 0), (.int .i64 0), (.int .i64 0)]) fun t2 =>
  .op (.store 4 t2 t5) fun _ =>
  .done (e.upd 2 t2)) h Q := Iff.rfl
def c11_r3_c2 (e : Env) (t18 : Value) (t21 : Value) : Reg :=
  .opg t18 true (.bin .eql t21 (.int .i64 1)) fun t22 =>
  .op (.pick t18 t22 (.bool false)) fun t23 =>
  .op (.mv t23) fun t0 =>
  .done (e.upd 0 t0)
theorem c11_r3_c2_run {CP : CProg} (e : Env) (t18 : Value) (t21 : Value) (h : Heap) (Q : Post) : RunR CP (c11_r3_c2 e t18 t21) h Q ↔ RunR CP (
  .opg t18 true (.bin .eql t21 (.int .i64 1)) fun t22 =>
  .op (.pick t18 t22 (.bool false)) fun t23 =>
  .op (.mv t23) fun t0 =>
  .done (e.upd 0 t0)) h Q := Iff.rfl
def c11_r3_c1 (e : Env) (t13 : Value) : Reg :=
  .opg t13 true (.load (some 4) (e 1)) fun t14 =>
  .opg t13 true (.call 21 [(e 2), t14, (.int .i64 5), (.int .i64 1)]) fun t15 =>
  .opg t13 true (.un .not t15) fun t16 =>
  .op (.pick t13 t16 (.bool false)) fun t17 =>
  .op (.mv t17) fun t18 =>
  .opg t18 true (.load (some 4) (e 2)) fun t19 =>
  .opg t18 true (.load (some 4) (e 1)) fun t20 =>
  .opg t18 true (.call 19 [t19, t20, (.int .i64 5), (.int .i64 1)]) fun t21 =>
  c11_r3_c2 e t18 t21
theorem c11_r3_c1_run {CP : CProg} (e : Env) (t13 : Value) (h : Heap) (Q : Post) : RunR CP (c11_r3_c1 e t13) h Q ↔ RunR CP (
  .opg t13 true (.load (some 4) (e 1)) fun t14 =>
  .opg t13 true (.call 21 [(e 2), t14, (.int .i64 5), (.int .i64 1)]) fun t15 =>
  .opg t13 true (.un .not t15) fun t16 =>
  .op (.pick t13 t16 (.bool false)) fun t17 =>
  .op (.mv t17) fun t18 =>
  .opg t18 true (.load (some 4) (e 2)) fun t19 =>
  .opg t18 true (.load (some 4) (e 1)) fun t20 =>
  .opg t18 true (.call 19 [t19, t20, (.int .i64 5), (.int .i64 1)]) fun t21 =>
  c11_r3_c2 e t18 t21) h Q := Iff.rfl
def c11_r3 : Env → Reg := fun e =>
  .op (.fieldAddr 0 (e 1)) fun t6 =>
  .op (.load none t6) fun t7 =>
  .op (.bin .eql t7 (.int .i64 1)) fun t8 =>
  .op (.mv t8) fun t9 =>
  .opg t9 true (.load (some 4) (e 1)) fun t10 =>
  .opg t9 true (.call 21 [(e 2), t10, (.int .i64 5), (.int .i64 1)]) fun t11 =>
  .op (.pick t9 t11 (.bool false)) fun t12 =>
  .op (.mv t12) fun t13 =>
  c11_r3_c1 e t13
theorem c11_r3_run {CP : CProg} (e : Env) (h : Heap) (Q : Post) : RunR CP (c11_r3 e) h Q ↔ RunR CP (
  .op (.fieldAddr 0 (e 1)) fun t6 =>
  .op (.load none t6) fun t7 =>
  .op (.bin .eql t7 (.int .i64 1)) fun t8 =>
  .op (.mv t8) fun t9 =>
  .opg t9 true (.load (some 4) (e 1)) fun t10 =>
  .opg t9 true (.call 21 [(e 2), t10, (.int .i64 5), (.int .i64 1)]) fun t11 =>
  .op (.pick t9 t11 (.bool false)) fun t12 =>
  .op (.mv t12) fun t13 =>
  c11_r3_c1 e t13) h Q := Iff.rfl
def c11 : CFn := ⟨(.seq (.region c11_r0) (.seq (.region c11_r1) (.seq (.region c11_r2) (.seq (.region c11_r3) .ret)))), [.t 0]⟩
def p11 : Pers := ⟨3, [], 24⟩
-- 12: (weighbridge/weighbridgelaw09.Plan).Rule
def c12_r0 : Env → Reg := fun e =>
  .op (.box 23 (e 0)) fun t1 =>
  .op (.alloc 28 [(.int .i64 0), (.int .i64 0), (.int .i64 0), (.int .i64 0), (.int .i64 0), (.int .i64 0), (.int .i64 0), (.int .i64 0), (.bool false)]) fun t2 =>
  .done ((e.upd 1 t1).upd 2 t2)
theorem c12_r0_run {CP : CProg} (e : Env) (h : Heap) (Q : Post) : RunR CP (c12_r0 e) h Q ↔ RunR CP (
  .op (.box 23 (e 0)) fun t1 =>
  .op (.alloc 28 [(.int .i64 0), (.int .i64 0), (.int .i64 0), (.int .i64 0), (.int .i64 0), (.int .i64 0), (.int .i64 0), (.int .i64 0), (.bool false)]) fun t2 =>
  .done ((e.upd 1 t1).upd 2 t2)) h Q := Iff.rfl
def c12_r1 : Env → Reg := fun e =>
  .op (.fieldAddr 0 (e 1)) fun t4 =>
  .op (.load none t4) fun t5 =>
  .op (.bin .and t5 (.int .i64 31)) fun t6 =>
  .op (.bin .add t6 (.int .i64 1)) fun t7 =>
  .op (.mv t7) fun t3 =>
  .done (e.upd 3 t3)
theorem c12_r1_run {CP : CProg} (e : Env) (h : Heap) (Q : Post) : RunR CP (c12_r1 e) h Q ↔ RunR CP (
  .op (.fieldAddr 0 (e 1)) fun t4 =>
  .op (.load none t4) fun t5 =>
  .op (.bin .and t5 (.int .i64 31)) fun t6 =>
  .op (.bin .add t6 (.int .i64 1)) fun t7 =>
  .op (.mv t7) fun t3 =>
  .done (e.upd 3 t3)) h Q := Iff.rfl
def c12_r2_c1 (e : Env) (t8 : Value) (t12 : Value) (t15 : Value) : Reg :=
  .op (.mv (e 3)) fun t16 =>
  .op (.bin .rem t15 t16) fun t17 =>
  .op (.bin .add t17 (.int .i64 1)) fun t18 =>
  .op (.build [(.int .i64 0), (.int .i64 0), (.int .i64 0), (.int .i64 0), (.int .i64 0), (.int .i64 0), (.int .i64 0), (.int .i64 0), (.bool false)] [(0, 1, t8), (1, 1, t12), (2, 1, t18)]) fun t19 =>
  .snap fun h12 =>
  .op (.store 9 (e 2) t19) fun _ =>
  .done e
theorem c12_r2_c1_run {CP : CProg} (e : Env) (t8 : Value) (t12 : Value) (t15 : Value) (h : Heap) (Q : Post) : RunR CP (c12_r2_c1 e t8 t12 t15) h Q ↔ RunR CP (
  .op (.mv (e 3)) fun t16 =>
  .op (.bin .rem t15 t16) fun t17 =>
  .op (.bin .add t17 (.int .i64 1)) fun t18 =>
  .op (.build [(.int .i64 0), (.int .i64 0), (.int .i64 0), (.int .i64 0), (.int .i64 0), (.int .i64 0), (.int .i64 0), (.int .i64 0), (.bool false)] [(0, 1, t8), (1, 1, t12), (2, 1, t18)]) fun t19 =>
  .snap fun h12 =>
  .op (.store 9 (e 2) t19) fun _ =>
  .done e) h Q := Iff.rfl
def c12_r2 : Env → Reg := fun e =>
  .op (.mv (e 3)) fun t8 =>
  .op (.fieldAddr 1 (e 1)) fun t9 =>
  .op (.load none t9) fun t10 =>
  .op (.bin .and t10 (.int .i64 255)) fun t11 =>
  .op (.bin .add t11 (.int .i64 1)) fun t12 =>
  .op (.fieldAddr 2 (e 1)) fun t13 =>
  .op (.load none t13) fun t14 =>
  .op (.bin .and t14 (.int .i64 31)) fun t15 =>
  c12_r2_c1 e t8 t12 t15
theorem c12_r2_run {CP : CProg} (e : Env) (h : Heap) (Q : Post) : RunR CP (c12_r2 e) h Q ↔ RunR CP (
  .op (.mv (e 3)) fun t8 =>
  .op (.fieldAddr 1 (e 1)) fun t9 =>
  .op (.load none t9) fun t10 =>
  .op (.bin .and t10 (.int .i64 255)) fun t11 =>
  .op (.bin .add t11 (.int .i64 1)) fun t12 =>
  .op (.fieldAddr 2 (e 1)) fun t13 =>
  .op (.load none t13) fun t14 =>
  .op (.bin .and t14 (.int .i64 31)) fun t15 =>
  c12_r2_c1 e t8 t12 t15) h Q := Iff.rfl
def c12 : CFn := ⟨(.seq (.region c12_r0) (.seq (.region c12_r1) (.seq (.region c12_r2) .ret))), [.c 2 (some 9)]⟩
def p12 : Pers := ⟨4, [], 20⟩
-- 13: weighbridge/cell.Of
def c13_r0 : Env → Reg := fun e =>
  .op (.box 28 (e 0)) fun t1 =>
  .op (.alloc 31 [(.int .i64 0), (.int .i64 0), (.int .i64 0), (.int .i64 0)]) fun t2 =>
  .done ((e.upd 1 t1).upd 2 t2)
theorem c13_r0_run {CP : CProg} (e : Env) (h : Heap) (Q : Post) : RunR CP (c13_r0 e) h Q ↔ RunR CP (
  .op (.box 28 (e 0)) fun t1 =>
  .op (.alloc 31 [(.int .i64 0), (.int .i64 0), (.int .i64 0), (.int .i64 0)]) fun t2 =>
  .done ((e.upd 1 t1).upd 2 t2)) h Q := Iff.rfl
def c13_r1_c2 (e : Env) (h8 : Heap) (t11 : Value) (t13 : Value) (t15 : Value) : Reg :=
  .op (.fieldAddr 0 (e 1)) fun t16 =>
  .op (.load none t16) fun t17 =>
  .chk none (some h8) (.load none t16) t17 <|
  .op (.build [(.int .i64 0), (.int .i64 0), (.int .i64 0), (.int .i64 0)] [(0, 1, t11), (1, 1, t13), (2, 1, t15), (3, 1, t17)]) fun t18 =>
  .snap fun h16 =>
  .op (.store 4 (e 2) t18) fun _ =>
  .done e
theorem c13_r1_c2_run {CP : CProg} (e : Env) (h8 : Heap) (t11 : Value) (t13 : Value) (t15 : Value) (h : Heap) (Q : Post) : RunR CP (c13_r1_c2 e h8 t11 t13 t15) h Q ↔ RunR CP (
  .op (.fieldAddr 0 (e 1)) fun t16 =>
  .op (.load none t16) fun t17 =>
  .chk none (some h8) (.load none t16) t17 <|
  .op (.build [(.int .i64 0), (.int .i64 0), (.int .i64 0), (.int .i64 0)] [(0, 1, t11), (1, 1, t13), (2, 1, t15), (3, 1, t17)]) fun t18 =>
  .snap fun h16 =>
  .op (.store 4 (e 2) t18) fun _ =>
  .done e) h Q := Iff.rfl
def c13_r1_c1 (e : Env) (t4 : Value) (t10 : Value) : Reg :=
  .snap fun h8 =>
  .op (.call 25 [t4, t10]) fun t11 =>
  .op (.fieldAddr 1 (e 1)) fun t12 =>
  .op (.load none t12) fun t13 =>
  .chk none (some h8) (.load none t12) t13 <|
  .op (.fieldAddr 2 (e 1)) fun t14 =>
  .op (.load none t14) fun t15 =>
  .chk none (some h8) (.load none t14) t15 <|
  c13_r1_c2 e h8 t11 t13 t15
theorem c13_r1_c1_run {CP : CProg} (e : Env) (t4 : Value) (t10 : Value) (h : Heap) (Q : Post) : RunR CP (c13_r1_c1 e t4 t10) h Q ↔ RunR CP (
  .snap fun h8 =>
  .op (.call 25 [t4, t10]) fun t11 =>
  .op (.fieldAddr 1 (e 1)) fun t12 =>
  .op (.load none t12) fun t13 =>
  .chk none (some h8) (.load none t12) t13 <|
  .op (.fieldAddr 2 (e 1)) fun t14 =>
  .op (.load none t14) fun t15 =>
  .chk none (some h8) (.load none t14) t15 <|
  c13_r1_c2 e h8 t11 t13 t15) h Q := Iff.rfl
def c13_r1 : Env → Reg := fun e =>
  .op (.fieldAddr 1 (e 1)) fun t3 =>
  .op (.load none t3) fun t4 =>
  .op (.fieldAddr 0 (e 1)) fun t5 =>
  .op (.load none t5) fun t6 =>
  .op (.bin .add t6 (.int .i64 1)) fun t7 =>
  .op (.fieldAddr 2 (e 1)) fun t8 =>
  .op (.load none t8) fun t9 =>
  .op (.bin .sub t7 t9) fun t10 =>
  c13_r1_c1 e t4 t10
theorem c13_r1_run {CP : CProg} (e : Env) (h : Heap) (Q : Post) : RunR CP (c13_r1 e) h Q ↔ RunR CP (
  .op (.fieldAddr 1 (e 1)) fun t3 =>
  .op (.load none t3) fun t4 =>
  .op (.fieldAddr 0 (e 1)) fun t5 =>
  .op (.load none t5) fun t6 =>
  .op (.bin .add t6 (.int .i64 1)) fun t7 =>
  .op (.fieldAddr 2 (e 1)) fun t8 =>
  .op (.load none t8) fun t9 =>
  .op (.bin .sub t7 t9) fun t10 =>
  c13_r1_c1 e t4 t10) h Q := Iff.rfl
def c13 : CFn := ⟨(.seq (.region c13_r0) (.seq (.region c13_r1) .ret)), [.c 2 (some 4)]⟩
def p13 : Pers := ⟨3, [], 19⟩
-- 14: weighbridge/weighbridgelaw09.start
def c14_r0 : Env → Reg := fun e =>
  .op (.mv (.int .i64 0)) fun t2 =>
  .done (e.upd 2 t2)
theorem c14_r0_run {CP : CProg} (e : Env) (h : Heap) (Q : Post) : RunR CP (c14_r0 e) h Q ↔ RunR CP (
  .op (.mv (.int .i64 0)) fun t2 =>
  .done (e.upd 2 t2)) h Q := Iff.rfl
def c14_r1 : Env → Reg := fun e =>
  .op (.mv (e 0)) fun t3 =>
  .op (.bin .and t3 (.int .i64 4611686018427387903)) fun t4 =>
  .op (.mv (e 0)) fun t5 =>
  .op (.conv .u64 t5) fun t6 =>
  .op (.bin .shr t6 (.int .u64 58)) fun t7 =>
  .op (.bin .and t7 (.int .u64 63)) fun t8 =>
  .op (.bin .shr t4 t8) fun t9 =>
  .op (.mv t9) fun t2 =>
  .done (e.upd 2 t2)
theorem c14_r1_run {CP : CProg} (e : Env) (h : Heap) (Q : Post) : RunR CP (c14_r1 e) h Q ↔ RunR CP (
  .op (.mv (e 0)) fun t3 =>
  .op (.bin .and t3 (.int .i64 4611686018427387903)) fun t4 =>
  .op (.mv (e 0)) fun t5 =>
  .op (.conv .u64 t5) fun t6 =>
  .op (.bin .shr t6 (.int .u64 58)) fun t7 =>
  .op (.bin .and t7 (.int .u64 63)) fun t8 =>
  .op (.bin .shr t4 t8) fun t9 =>
  .op (.mv t9) fun t2 =>
  .done (e.upd 2 t2)) h Q := Iff.rfl
def c14 : CFn := ⟨(.seq (.region c14_r0) (.seq (.region c14_r1) .ret)), [.t 2]⟩
def p14 : Pers := ⟨3, [], 10⟩
-- 15: weighbridge/cell.New
def c15_r0 : Env → Reg := fun e =>
  .op (.alloc 36 [(.int .i64 0), (.int .i64 0), (.int .i64 0), (.int .i64 0)]) fun t4 =>
  .done (e.upd 4 t4)
theorem c15_r0_run {CP : CProg} (e : Env) (h : Heap) (Q : Post) : RunR CP (c15_r0 e) h Q ↔ RunR CP (
  .op (.alloc 36 [(.int .i64 0), (.int .i64 0), (.int .i64 0), (.int .i64 0)]) fun t4 =>
  .done (e.upd 4 t4)) h Q := Iff.rfl
def c15_r1 : Env → Reg := fun e =>
  .op (.mv (e 0)) fun t5 =>
  .op (.mv (e 0)) fun t6 =>
  .op (.mv (e 1)) fun t7 =>
  .op (.build [(.int .i64 0), (.int .i64 0), (.int .i64 0), (.int .i64 0)] [(0, 1, t5), (1, 1, t6), (2, 1, t7)]) fun t8 =>
  .op (.store 4 (e 4) t8) fun _ =>
  .done e
theorem c15_r1_run {CP : CProg} (e : Env) (h : Heap) (Q : Post) : RunR CP (c15_r1 e) h Q ↔ RunR CP (
  .op (.mv (e 0)) fun t5 =>
  .op (.mv (e 0)) fun t6 =>
  .op (.mv (e 1)) fun t7 =>
  .op (.build [(.int .i64 0), (.int .i64 0), (.int .i64 0), (.int .i64 0)] [(0, 1, t5), (1, 1, t6), (2, 1, t7)]) fun t8 =>
  .op (.store 4 (e 4) t8) fun _ =>
  .done e) h Q := Iff.rfl
def c15 : CFn := ⟨(.seq (.region c15_r0) (.seq (.region c15_r1) .ret)), [.c 4 (some 4)]⟩
def p15 : Pers := ⟨5, [], 9⟩
-- 16: weighbridge/weighbridgelaw09.gap
def c16_r0 : Env → Reg := fun e =>
  .op (.mv (.int .i64 0)) fun t2 =>
  .done (e.upd 2 t2)
theorem c16_r0_run {CP : CProg} (e : Env) (h : Heap) (Q : Post) : RunR CP (c16_r0 e) h Q ↔ RunR CP (
  .op (.mv (.int .i64 0)) fun t2 =>
  .done (e.upd 2 t2)) h Q := Iff.rfl
def c16_r1 : Env → Reg := fun e =>
  .op (.mv (e 0)) fun t3 =>
  .op (.bin .and t3 (.int .i64 1)) fun t4 =>
  .op (.bin .eql t4 (.int .i64 1)) fun t5 =>
  .done (e.upd 5 t5)
theorem c16_r1_run {CP : CProg} (e : Env) (h : Heap) (Q : Post) : RunR CP (c16_r1 e) h Q ↔ RunR CP (
  .op (.mv (e 0)) fun t3 =>
  .op (.bin .and t3 (.int .i64 1)) fun t4 =>
  .op (.bin .eql t4 (.int .i64 1)) fun t5 =>
  .done (e.upd 5 t5)) h Q := Iff.rfl
def c16_r2 : Env → Reg := fun e =>
  .op (.mv (e 0)) fun t6 =>
  .op (.bin .shr t6 (.int .u64 1)) fun t7 =>
  .op (.bin .and t7 (.int .i64 4095)) fun t8 =>
  .op (.mv t8) fun t2 =>
  .done (e.upd 2 t2)
theorem c16_r2_run {CP : CProg} (e : Env) (h : Heap) (Q : Post) : RunR CP (c16_r2 e) h Q ↔ RunR CP (
  .op (.mv (e 0)) fun t6 =>
  .op (.bin .shr t6 (.int .u64 1)) fun t7 =>
  .op (.bin .and t7 (.int .i64 4095)) fun t8 =>
  .op (.mv t8) fun t2 =>
  .done (e.upd 2 t2)) h Q := Iff.rfl
def c16_r3 : Env → Reg := fun e =>
  .op (.mv (e 0)) fun t9 =>
  .op (.bin .shr t9 (.int .u64 1)) fun t10 =>
  .op (.bin .and t10 (.int .i64 31)) fun t11 =>
  .op (.mv t11) fun t2 =>
  .done (e.upd 2 t2)
theorem c16_r3_run {CP : CProg} (e : Env) (h : Heap) (Q : Post) : RunR CP (c16_r3 e) h Q ↔ RunR CP (
  .op (.mv (e 0)) fun t9 =>
  .op (.bin .shr t9 (.int .u64 1)) fun t10 =>
  .op (.bin .and t10 (.int .i64 31)) fun t11 =>
  .op (.mv t11) fun t2 =>
  .done (e.upd 2 t2)) h Q := Iff.rfl
def c16 : CFn := ⟨(.seq (.region c16_r0) (.seq (.seq (.region c16_r1) (.cond (fun e => e 5) (.seq (.region c16_r2) .ret) .skip)) (.seq (.region c16_r3) .ret))), [.t 2]⟩
def p16 : Pers := ⟨3, [5], 12⟩
-- 17: (weighbridge/cell.Cell).Room
def c17_r0 : Env → Reg := fun e =>
  .op (.box 36 (e 0)) fun t3 =>
  .op (.box 31 (e 1)) fun t4 =>
  .op (.mv (.int .i64 0)) fun t6 =>
  .done (((e.upd 3 t3).upd 4 t4).upd 6 t6)
theorem c17_r0_run {CP : CProg} (e : Env) (h : Heap) (Q : Post) : RunR CP (c17_r0 e) h Q ↔ RunR CP (
  .op (.box 36 (e 0)) fun t3 =>
  .op (.box 31 (e 1)) fun t4 =>
  .op (.mv (.int .i64 0)) fun t6 =>
  .done (((e.upd 3 t3).upd 4 t4).upd 6 t6)) h Q := Iff.rfl
def c17_r1 : Env → Reg := fun e =>
  .op (.fieldAddr 2 (e 4)) fun t9 =>
  .op (.load none t9) fun t10 =>
  .op (.mv t10) fun t7 =>
  .done (e.upd 7 t7)
theorem c17_r1_run {CP : CProg} (e : Env) (h : Heap) (Q : Post) : RunR CP (c17_r1 e) h Q ↔ RunR CP (
  .op (.fieldAddr 2 (e 4)) fun t9 =>
  .op (.load none t9) fun t10 =>
  .op (.mv t10) fun t7 =>
  .done (e.upd 7 t7)) h Q := Iff.rfl
def c17_r2 : Env → Reg := fun e =>
  .op (.fieldAddr 0 (e 3)) fun t11 =>
  .op (.load none t11) fun t12 =>
  .op (.mv (e 2)) fun t13 =>
  .op (.bin .sub t12 t13) fun t14 =>
  .op (.mv t14) fun t8 =>
  .done (e.upd 8 t8)
theorem c17_r2_run {CP : CProg} (e : Env) (h : Heap) (Q : Post) : RunR CP (c17_r2 e) h Q ↔ RunR CP (
  .op (.fieldAddr 0 (e 3)) fun t11 =>
  .op (.load none t11) fun t12 =>
  .op (.mv (e 2)) fun t13 =>
  .op (.bin .sub t12 t13) fun t14 =>
  .op (.mv t14) fun t8 =>
  .done (e.upd 8 t8)) h Q := Iff.rfl
def c17_r3 : Env → Reg := fun e =>
  .op (.mv (e 8)) fun t15 =>
  .op (.bin .gtr t15 (.int .i64 0)) fun t16 =>
  .done (e.upd 16 t16)
theorem c17_r3_run {CP : CProg} (e : Env) (h : Heap) (Q : Post) : RunR CP (c17_r3 e) h Q ↔ RunR CP (
  .op (.mv (e 8)) fun t15 =>
  .op (.bin .gtr t15 (.int .i64 0)) fun t16 =>
  .done (e.upd 16 t16)) h Q := Iff.rfl
def c17_r4_c1 (e : Env) (t23 : Value) (t24 : Value) : Reg :=
  .op (.load none t24) fun t25 =>
  .op (.bin .quo t23 t25) fun t26 =>
  .op (.minmax true [t26, (.int .i64 0)]) fun t27 =>
  .op (.mv t27) fun t7 =>
  .done (e.upd 7 t7)
theorem c17_r4_c1_run {CP : CProg} (e : Env) (t23 : Value) (t24 : Value) (h : Heap) (Q : Post) : RunR CP (c17_r4_c1 e t23 t24) h Q ↔ RunR CP (
  .op (.load none t24) fun t25 =>
  .op (.bin .quo t23 t25) fun t26 =>
  .op (.minmax true [t26, (.int .i64 0)]) fun t27 =>
  .op (.mv t27) fun t7 =>
  .done (e.upd 7 t7)) h Q := Iff.rfl
def c17_r4 : Env → Reg := fun e =>
  .op (.fieldAddr 2 (e 4)) fun t17 =>
  .op (.load none t17) fun t18 =>
  .op (.fieldAddr 0 (e 4)) fun t19 =>
  .op (.load none t19) fun t20 =>
  .op (.bin .mul t18 t20) fun t21 =>
  .op (.mv (e 8)) fun t22 =>
  .op (.bin .sub t21 t22) fun t23 =>
  .op (.fieldAddr 0 (e 4)) fun t24 =>
  c17_r4_c1 e t23 t24
theorem c17_r4_run {CP : CProg} (e : Env) (h : Heap) (Q : Post) : RunR CP (c17_r4 e) h Q ↔ RunR CP (
  .op (.fieldAddr 2 (e 4)) fun t17 =>
  .op (.load none t17) fun t18 =>
  .op (.fieldAddr 0 (e 4)) fun t19 =>
  .op (.load none t19) fun t20 =>
  .op (.bin .mul t18 t20) fun t21 =>
  .op (.mv (e 8)) fun t22 =>
  .op (.bin .sub t21 t22) fun t23 =>
  .op (.fieldAddr 0 (e 4)) fun t24 =>
  c17_r4_c1 e t23 t24) h Q := Iff.rfl
def c17_r5 : Env → Reg := fun e =>
  .op (.fieldAddr 2 (e 4)) fun t28 =>
  .op (.load none t28) fun t29 =>
  .op (.fieldAddr 0 (e 4)) fun t30 =>
  .op (.load none t30) fun t31 =>
  .op (.bin .mul t29 t31) fun t32 =>
  .op (.mv (e 8)) fun t33 =>
  .op (.bin .lss t32 t33) fun t34 =>
  .done (e.upd 34 t34)
theorem c17_r5_run {CP : CProg} (e : Env) (h : Heap) (Q : Post) : RunR CP (c17_r5 e) h Q ↔ RunR CP (
  .op (.fieldAddr 2 (e 4)) fun t28 =>
  .op (.load none t28) fun t29 =>
  .op (.fieldAddr 0 (e 4)) fun t30 =>
  .op (.load none t30) fun t31 =>
  .op (.bin .mul t29 t31) fun t32 =>
  .op (.mv (e 8)) fun t33 =>
  .op (.bin .lss t32 t33) fun t34 =>
  .done (e.upd 34 t34)) h Q := Iff.rfl
def c17_r6 : Env → Reg := fun e =>
  .op (.mv (.int .i64 0)) fun t7 =>
  .done (e.upd 7 t7)
theorem c17_r6_run {CP : CProg} (e : Env) (h : Heap) (Q : Post) : RunR CP (c17_r6 e) h Q ↔ RunR CP (
  .op (.mv (.int .i64 0)) fun t7 =>
  .done (e.upd 7 t7)) h Q := Iff.rfl
def c17_r7 : Env → Reg := fun e =>
  .op (.load (some 4) (e 3)) fun t35 =>
  .op (.load (some 4) (e 4)) fun t36 =>
  .op (.mv (e 2)) fun t37 =>
  .op (.call 26 [t35, t36, t37]) fun t38 =>
  .done (e.upd 38 t38)
theorem c17_r7_run {CP : CProg} (e : Env) (h : Heap) (Q : Post) : RunR CP (c17_r7 e) h Q ↔ RunR CP (
  .op (.load (some 4) (e 3)) fun t35 =>
  .op (.load (some 4) (e 4)) fun t36 =>
  .op (.mv (e 2)) fun t37 =>
  .op (.call 26 [t35, t36, t37]) fun t38 =>
  .done (e.upd 38 t38)) h Q := Iff.rfl
def c17_r8_c1 (e : Env) (t39 : Value) (t40 : Value) (t41 : Value) (t43 : Value) (t45 : Value) : Reg :=
  .op (.call 27 [t43, t45]) fun t46 =>
  .chk none none (.load none t40) t41 <|
  .op (.bin .sub t41 t46) fun t47 =>
  .op (.minmax true [t47, (.int .i64 0)]) fun t48 =>
  .op (.minmax false [t39, t48]) fun t49 =>
  .op (.mv t49) fun t7 =>
  .done (e.upd 7 t7)
theorem c17_r8_c1_run {CP : CProg} (e : Env) (t39 : Value) (t40 : Value) (t41 : Value) (t43 : Value) (t45 : Value) (h : Heap) (Q : Post) : RunR CP (c17_r8_c1 e t39 t40 t41 t43 t45) h Q ↔ RunR CP (
  .op (.call 27 [t43, t45]) fun t46 =>
  .chk none none (.load none t40) t41 <|
  .op (.bin .sub t41 t46) fun t47 =>
  .op (.minmax true [t47, (.int .i64 0)]) fun t48 =>
  .op (.minmax false [t39, t48]) fun t49 =>
  .op (.mv t49) fun t7 =>
  .done (e.upd 7 t7)) h Q := Iff.rfl
def c17_r8 : Env → Reg := fun e =>
  .op (.mv (e 7)) fun t39 =>
  .op (.fieldAddr 3 (e 4)) fun t40 =>
  .op (.load none t40) fun t41 =>
  .op (.fieldAddr 2 (e 3)) fun t42 =>
  .op (.load none t42) fun t43 =>
  .op (.fieldAddr 3 (e 3)) fun t44 =>
  .op (.load none t44) fun t45 =>
  .snap fun h7 =>
  c17_r8_c1 e t39 t40 t41 t43 t45
theorem c17_r8_run {CP : CProg} (e : Env) (h : Heap) (Q : Post) : RunR CP (c17_r8 e) h Q ↔ RunR CP (
  .op (.mv (e 7)) fun t39 =>
  .op (.fieldAddr 3 (e 4)) fun t40 =>
  .op (.load none t40) fun t41 =>
  .op (.fieldAddr 2 (e 3)) fun t42 =>
  .op (.load none t42) fun t43 =>
  .op (.fieldAddr 3 (e 3)) fun t44 =>
  .op (.load none t44) fun t45 =>
  .snap fun h7 =>
  c17_r8_c1 e t39 t40 t41 t43 t45) h Q := Iff.rfl
def c17_r9 : Env → Reg := fun e =>
  .op (.mv (e 7)) fun t50 =>
  .op (.mv t50) fun t6 =>
  .done (e.upd 6 t6)
theorem c17_r9_run {CP : CProg} (e : Env) (h : Heap) (Q : Post) : RunR CP (c17_r9 e) h Q ↔ RunR CP (
  .op (.mv (e 7)) fun t50 =>
  .op (.mv t50) fun t6 =>
  .done (e.upd 6 t6)) h Q := Iff.rfl
def c17 : CFn := ⟨(.seq (.region c17_r0) (.seq (.region c17_r1) (.seq (.seq (.region c17_r2) (.seq (.region c17_r3) (.cond (fun e => e 16) (.seq (.region c17_r4) (.seq (.region c17_r5) (.cond (fun e => e 34) (.region c17_r6) .skip))) .skip))) (.seq (.seq (.region c17_r7) (.cond (fun e => e 38) (.region c17_r8) .skip)) (.seq (.region c17_r9) .ret))))), [.t 6]⟩
def p17 : Pers := ⟨9, [16, 34, 38], 51⟩
-- 18: (weighbridge/weighbridgeref09.Cell).Room
def c18_r0 : Env → Reg := fun e =>
  .op (.box 38 (e 0)) fun t3 =>
  .op (.box 28 (e 1)) fun t4 =>
  .op (.mv (.int .i64 0)) fun t6 =>
  .done (((e.upd 3 t3).upd 4 t4).upd 6 t6)
theorem c18_r0_run {CP : CProg} (e : Env) (h : Heap) (Q : Post) : RunR CP (c18_r0 e) h Q ↔ RunR CP (
  .op (.box 38 (e 0)) fun t3 =>
  .op (.box 28 (e 1)) fun t4 =>
  .op (.mv (.int .i64 0)) fun t6 =>
  .done (((e.upd 3 t3).upd 4 t4).upd 6 t6)) h Q := Iff.rfl
def c18_r1 : Env → Reg := fun e =>
  .op (.mv (.int .i64 0)) fun t7 =>
  .done (e.upd 7 t7)
theorem c18_r1_run {CP : CProg} (e : Env) (h : Heap) (Q : Post) : RunR CP (c18_r1 e) h Q ↔ RunR CP (
  .op (.mv (.int .i64 0)) fun t7 =>
  .done (e.upd 7 t7)) h Q := Iff.rfl
def c18_r2 : Env → Reg := fun e =>
  .op (.load (some 4) (e 3)) fun t10 =>
  .op (.alloc 38 [(.int .i64 0), (.int .i64 0), (.int .i64 0), (.int .i64 0)]) fun t8 =>
  .op (.store 4 t8 t10) fun _ =>
  .done (e.upd 8 t8)
theorem c18_r2_run {CP : CProg} (e : Env) (h : Heap) (Q : Post) : RunR CP (c18_r2 e) h Q ↔ RunR CP (
  .op (.load (some 4) (e 3)) fun t10 =>
  .op (.alloc 38 [(.int .i64 0), (.int .i64 0), (.int .i64 0), (.int .i64 0)]) fun t8 =>
  .op (.store 4 t8 t10) fun _ =>
  .done (e.upd 8 t8)) h Q := Iff.rfl
def c18_r3 : Env → Reg := fun e =>
  .op (.mv (e 7)) fun t11 =>
  .op (.fieldAddr 2 (e 4)) fun t12 =>
  .op (.load none t12) fun t13 =>
  .op (.bin .lss t11 t13) fun t14 =>
  .op (.mv t14) fun t15 =>
  .opg t15 true (.load (some 9) (e 4)) fun t16 =>
  .opg t15 true (.mv (e 2)) fun t17 =>
  .opg t15 true (.call 28 [(e 8), t16, t17]) fun t18 =>
  .op (.pick t15 t18 (.bool false)) fun t19 =>
  .done (e.upd 19 t19)
theorem c18_r3_run {CP : CProg} (e : Env) (h : Heap) (Q : Post) : RunR CP (c18_r3 e) h Q ↔ RunR CP (
  .op (.mv (e 7)) fun t11 =>
  .op (.fieldAddr 2 (e 4)) fun t12 =>
  .op (.load none t12) fun t13 =>
  .op (.bin .lss t11 t13) fun t14 =>
  .op (.mv t14) fun t15 =>
  .opg t15 true (.load (some 9) (e 4)) fun t16 =>
  .opg t15 true (.mv (e 2)) fun t17 =>
  .opg t15 true (.call 28 [(e 8), t16, t17]) fun t18 =>
  .op (.pick t15 t18 (.bool false)) fun t19 =>
  .done (e.upd 19 t19)) h Q := Iff.rfl
def c18_r4 : Env → Reg := fun e =>
  .op (.mv (e 7)) fun t20 =>
  .op (.bin .add t20 (.int .i64 1)) fun t21 =>
  .op (.mv t21) fun t7 =>
  .done (e.upd 7 t7)
theorem c18_r4_run {CP : CProg} (e : Env) (h : Heap) (Q : Post) : RunR CP (c18_r4 e) h Q ↔ RunR CP (
  .op (.mv (e 7)) fun t20 =>
  .op (.bin .add t20 (.int .i64 1)) fun t21 =>
  .op (.mv t21) fun t7 =>
  .done (e.upd 7 t7)) h Q := Iff.rfl
def c18_l0 : CC := (.seq (.seq (.region c18_r3) (.cond (fun e => e 19) .skip (.exit 0))) (.block 1 (.region c18_r4)))
def c18_r5 : Env → Reg := fun e =>
  .op (.load (some 4) (e 3)) fun t22 =>
  .op (.load (some 9) (e 4)) fun t23 =>
  .op (.mv (e 2)) fun t24 =>
  .op (.call 29 [t22, t23, t24]) fun t25 =>
  .done (e.upd 25 t25)
theorem c18_r5_run {CP : CProg} (e : Env) (h : Heap) (Q : Post) : RunR CP (c18_r5 e) h Q ↔ RunR CP (
  .op (.load (some 4) (e 3)) fun t22 =>
  .op (.load (some 9) (e 4)) fun t23 =>
  .op (.mv (e 2)) fun t24 =>
  .op (.call 29 [t22, t23, t24]) fun t25 =>
  .done (e.upd 25 t25)) h Q := Iff.rfl
def c18_r6 : Env → Reg := fun e =>
  .op (.fieldAddr 0 (e 4)) fun t26 =>
  .op (.load none t26) fun t27 =>
  .op (.fieldAddr 2 (e 3)) fun t28 =>
  .op (.load none t28) fun t29 =>
  .op (.bin .sub t27 t29) fun t30 =>
  .op (.fieldAddr 3 (e 3)) fun t31 =>
  .op (.load none t31) fun t32 =>
  .op (.bin .sub t30 t32) fun t33 =>
  .op (.mv t33) fun t9 =>
  .done (e.upd 9 t9)
theorem c18_r6_run {CP : CProg} (e : Env) (h : Heap) (Q : Post) : RunR CP (c18_r6 e) h Q ↔ RunR CP (
  .op (.fieldAddr 0 (e 4)) fun t26 =>
  .op (.load none t26) fun t27 =>
  .op (.fieldAddr 2 (e 3)) fun t28 =>
  .op (.load none t28) fun t29 =>
  .op (.bin .sub t27 t29) fun t30 =>
  .op (.fieldAddr 3 (e 3)) fun t31 =>
  .op (.load none t31) fun t32 =>
  .op (.bin .sub t30 t32) fun t33 =>
  .op (.mv t33) fun t9 =>
  .done (e.upd 9 t9)) h Q := Iff.rfl
def c18_r7 : Env → Reg := fun e =>
  .op (.mv (e 9)) fun t34 =>
  .op (.bin .lss t34 (.int .i64 0)) fun t35 =>
  .done (e.upd 35 t35)
theorem c18_r7_run {CP : CProg} (e : Env) (h : Heap) (Q : Post) : RunR CP (c18_r7 e) h Q ↔ RunR CP (
  .op (.mv (e 9)) fun t34 =>
  .op (.bin .lss t34 (.int .i64 0)) fun t35 =>
  .done (e.upd 35 t35)) h Q := Iff.rfl
def c18_r8 : Env → Reg := fun e =>
  .op (.mv (.int .i64 0)) fun t9 =>
  .done (e.upd 9 t9)
theorem c18_r8_run {CP : CProg} (e : Env) (h : Heap) (Q : Post) : RunR CP (c18_r8 e) h Q ↔ RunR CP (
  .op (.mv (.int .i64 0)) fun t9 =>
  .done (e.upd 9 t9)) h Q := Iff.rfl
def c18_r9 : Env → Reg := fun e =>
  .op (.mv (e 9)) fun t36 =>
  .op (.mv (e 7)) fun t37 =>
  .op (.bin .lss t36 t37) fun t38 =>
  .done (e.upd 38 t38)
theorem c18_r9_run {CP : CProg} (e : Env) (h : Heap) (Q : Post) : RunR CP (c18_r9 e) h Q ↔ RunR CP (
  .op (.mv (e 9)) fun t36 =>
  .op (.mv (e 7)) fun t37 =>
  .op (.bin .lss t36 t37) fun t38 =>
  .done (e.upd 38 t38)) h Q := Iff.rfl
def c18_r10 : Env → Reg := fun e =>
  .op (.mv (e 9)) fun t39 =>
  .op (.mv t39) fun t7 =>
  .done (e.upd 7 t7)
theorem c18_r10_run {CP : CProg} (e : Env) (h : Heap) (Q : Post) : RunR CP (c18_r10 e) h Q ↔ RunR CP (
  .op (.mv (e 9)) fun t39 =>
  .op (.mv t39) fun t7 =>
  .done (e.upd 7 t7)) h Q := Iff.rfl
def c18_r11 : Env → Reg := fun e =>
  .op (.mv (e 7)) fun t40 =>
  .op (.mv t40) fun t6 =>
  .done (e.upd 6 t6)
theorem c18_r11_run {CP : CProg} (e : Env) (h : Heap) (Q : Post) : RunR CP (c18_r11 e) h Q ↔ RunR CP (
  .op (.mv (e 7)) fun t40 =>
  .op (.mv t40) fun t6 =>
  .done (e.upd 6 t6)) h Q := Iff.rfl
def c18 : CFn := ⟨(.seq (.region c18_r0) (.seq (.region c18_r1) (.seq (.region c18_r2) (.seq (.block 0 (.loop c18_l0)) (.seq (.seq (.region c18_r5) (.cond (fun e => e 25) (.seq (.region c18_r6) (.seq (.seq (.region c18_r7) (.cond (fun e => e 35) (.region c18_r8) .skip)) (.seq (.region c18_r9) (.cond (fun e => e 38) (.region c18_r10) .skip)))) .skip)) (.seq (.region c18_r11) .ret)))))), [.t 6]⟩
def p18 : Pers := ⟨10, [19, 25, 35, 38], 41⟩
-- 19: (weighbridge/cell.Cell).Wait
def c19_r0 : Env → Reg := fun e =>
  .op (.box 36 (e 0)) fun t4 =>
  .op (.box 31 (e 1)) fun t5 =>
  .op (.mv (.int .i64 0)) fun t8 =>
  .done (((e.upd 4 t4).upd 5 t5).upd 8 t8)
theorem c19_r0_run {CP : CProg} (e : Env) (h : Heap) (Q : Post) : RunR CP (c19_r0 e) h Q ↔ RunR CP (
  .op (.box 36 (e 0)) fun t4 =>
  .op (.box 31 (e 1)) fun t5 =>
  .op (.mv (.int .i64 0)) fun t8 =>
  .done (((e.upd 4 t4).upd 5 t5).upd 8 t8)) h Q := Iff.rfl
def c19_r1_c1 (e : Env) (t13 : Value) (t14 : Value) (t16 : Value) (t17 : Value) : Reg :=
  .op (.bin .sub t16 t17) fun t18 =>
  .op (.fieldAddr 0 (e 5)) fun t19 =>
  .op (.load none t19) fun t20 =>
  .op (.bin .mul t18 t20) fun t21 =>
  .op (.bin .add t14 t21) fun t22 =>
  .op (.bin .sub t13 t22) fun t23 =>
  .op (.minmax true [t23, (.int .i64 0)]) fun t24 =>
  .op (.mv t24) fun t9 =>
  .done (e.upd 9 t9)
theorem c19_r1_c1_run {CP : CProg} (e : Env) (t13 : Value) (t14 : Value) (t16 : Value) (t17 : Value) (h : Heap) (Q : Post) : RunR CP (c19_r1_c1 e t13 t14 t16 t17) h Q ↔ RunR CP (
  .op (.bin .sub t16 t17) fun t18 =>
  .op (.fieldAddr 0 (e 5)) fun t19 =>
  .op (.load none t19) fun t20 =>
  .op (.bin .mul t18 t20) fun t21 =>
  .op (.bin .add t14 t21) fun t22 =>
  .op (.bin .sub t13 t22) fun t23 =>
  .op (.minmax true [t23, (.int .i64 0)]) fun t24 =>
  .op (.mv t24) fun t9 =>
  .done (e.upd 9 t9)) h Q := Iff.rfl
def c19_r1 : Env → Reg := fun e =>
  .op (.fieldAddr 0 (e 4)) fun t10 =>
  .op (.load none t10) fun t11 =>
  .op (.mv (e 2)) fun t12 =>
  .op (.minmax true [t11, t12]) fun t13 =>
  .op (.mv (e 2)) fun t14 =>
  .op (.fieldAddr 2 (e 5)) fun t15 =>
  .op (.load none t15) fun t16 =>
  .op (.mv (e 3)) fun t17 =>
  c19_r1_c1 e t13 t14 t16 t17
theorem c19_r1_run {CP : CProg} (e : Env) (h : Heap) (Q : Post) : RunR CP (c19_r1 e) h Q ↔ RunR CP (
  .op (.fieldAddr 0 (e 4)) fun t10 =>
  .op (.load none t10) fun t11 =>
  .op (.mv (e 2)) fun t12 =>
  .op (.minmax true [t11, t12]) fun t13 =>
  .op (.mv (e 2)) fun t14 =>
  .op (.fieldAddr 2 (e 5)) fun t15 =>
  .op (.load none t15) fun t16 =>
  .op (.mv (e 3)) fun t17 =>
  c19_r1_c1 e t13 t14 t16 t17) h Q := Iff.rfl
def c19_r2_c2 (e : Env) (t29 : Value) (h9 : Heap) (h11 : Heap) (t36 : Value) (t37 : Value) : Reg :=
  .opg t29 true (.load none t37) fun t38 =>
  .chk (some (t29, true)) (some h11) (.load none t37) t38 <|
  .chk (some (t29, true)) (some h9) (.load none t37) t38 <|
  .opg t29 true (.bin .gtr t36 t38) fun t39 =>
  .op (.pick t29 t39 (.bool false)) fun t40 =>
  .done (e.upd 40 t40)
theorem c19_r2_c2_run {CP : CProg} (e : Env) (t29 : Value) (h9 : Heap) (h11 : Heap) (t36 : Value) (t37 : Value) (h : Heap) (Q : Post) : RunR CP (c19_r2_c2 e t29 h9 h11 t36 t37) h Q ↔ RunR CP (
  .opg t29 true (.load none t37) fun t38 =>
  .chk (some (t29, true)) (some h11) (.load none t37) t38 <|
  .chk (some (t29, true)) (some h9) (.load none t37) t38 <|
  .opg t29 true (.bin .gtr t36 t38) fun t39 =>
  .op (.pick t29 t39 (.bool false)) fun t40 =>
  .done (e.upd 40 t40)) h Q := Iff.rfl
def c19_r2_c1 (e : Env) (t29 : Value) (t31 : Value) : Reg :=
  .opg t29 true (.fieldAddr 3 (e 4)) fun t32 =>
  .opg t29 true (.load none t32) fun t33 =>
  .snap fun h9 =>
  .opg t29 true (.call 27 [t31, t33]) fun t34 =>
  .opg t29 true (.mv (e 3)) fun t35 =>
  .snap fun h11 =>
  .opg t29 true (.call 27 [t34, t35]) fun t36 =>
  .opg t29 true (.fieldAddr 3 (e 5)) fun t37 =>
  c19_r2_c2 e t29 h9 h11 t36 t37
theorem c19_r2_c1_run {CP : CProg} (e : Env) (t29 : Value) (t31 : Value) (h : Heap) (Q : Post) : RunR CP (c19_r2_c1 e t29 t31) h Q ↔ RunR CP (
  .opg t29 true (.fieldAddr 3 (e 4)) fun t32 =>
  .opg t29 true (.load none t32) fun t33 =>
  .snap fun h9 =>
  .opg t29 true (.call 27 [t31, t33]) fun t34 =>
  .opg t29 true (.mv (e 3)) fun t35 =>
  .snap fun h11 =>
  .opg t29 true (.call 27 [t34, t35]) fun t36 =>
  .opg t29 true (.fieldAddr 3 (e 5)) fun t37 =>
  c19_r2_c2 e t29 h9 h11 t36 t37) h Q := Iff.rfl
def c19_r2 : Env → Reg := fun e =>
  .op (.load (some 4) (e 4)) fun t25 =>
  .op (.load (some 4) (e 5)) fun t26 =>
  .op (.mv (e 2)) fun t27 =>
  .snap fun h3 =>
  .op (.call 26 [t25, t26, t27]) fun t28 =>
  .op (.mv t28) fun t29 =>
  .opg t29 true (.fieldAddr 2 (e 4)) fun t30 =>
  .opg t29 true (.load none t30) fun t31 =>
  c19_r2_c1 e t29 t31
theorem c19_r2_run {CP : CProg} (e : Env) (h : Heap) (Q : Post) : RunR CP (c19_r2 e) h Q ↔ RunR CP (
  .op (.load (some 4) (e 4)) fun t25 =>
  .op (.load (some 4) (e 5)) fun t26 =>
  .op (.mv (e 2)) fun t27 =>
  .snap fun h3 =>
  .op (.call 26 [t25, t26, t27]) fun t28 =>
  .op (.mv t28) fun t29 =>
  .opg t29 true (.fieldAddr 2 (e 4)) fun t30 =>
  .opg t29 true (.load none t30) fun t31 =>
  c19_r2_c1 e t29 t31) h Q := Iff.rfl
def c19_r3 : Env → Reg := fun e =>
  .op (.mv (e 9)) fun t41 =>
  .op (.fieldAddr 1 (e 4)) fun t42 =>
  .op (.load none t42) fun t43 =>
  .op (.fieldAddr 1 (e 5)) fun t44 =>
  .op (.load none t44) fun t45 =>
  .op (.bin .add t43 t45) fun t46 =>
  .op (.mv (e 2)) fun t47 =>
  .op (.bin .sub t46 t47) fun t48 =>
  .op (.minmax true [t41, t48]) fun t49 =>
  .op (.mv t49) fun t9 =>
  .done (e.upd 9 t9)
theorem c19_r3_run {CP : CProg} (e : Env) (h : Heap) (Q : Post) : RunR CP (c19_r3 e) h Q ↔ RunR CP (
  .op (.mv (e 9)) fun t41 =>
  .op (.fieldAddr 1 (e 4)) fun t42 =>
  .op (.load none t42) fun t43 =>
  .op (.fieldAddr 1 (e 5)) fun t44 =>
  .op (.load none t44) fun t45 =>
  .op (.bin .add t43 t45) fun t46 =>
  .op (.mv (e 2)) fun t47 =>
  .op (.bin .sub t46 t47) fun t48 =>
  .op (.minmax true [t41, t48]) fun t49 =>
  .op (.mv t49) fun t9 =>
  .done (e.upd 9 t9)) h Q := Iff.rfl
def c19_r4 : Env → Reg := fun e =>
  .op (.mv (e 9)) fun t50 =>
  .op (.mv t50) fun t8 =>
  .done (e.upd 8 t8)
theorem c19_r4_run {CP : CProg} (e : Env) (h : Heap) (Q : Post) : RunR CP (c19_r4 e) h Q ↔ RunR CP (
  .op (.mv (e 9)) fun t50 =>
  .op (.mv t50) fun t8 =>
  .done (e.upd 8 t8)) h Q := Iff.rfl
def c19 : CFn := ⟨(.seq (.region c19_r0) (.seq (.region c19_r1) (.seq (.seq (.region c19_r2) (.cond (fun e => e 40) (.region c19_r3) .skip)) (.seq (.region c19_r4) .ret)))), [.t 8]⟩
def p19 : Pers := ⟨10, [40], 51⟩
-- 20: (weighbridge/weighbridgeref09.Cell).Wait
def c20_r0 : Env → Reg := fun e =>
  .op (.box 38 (e 0)) fun t4 =>
  .op (.box 28 (e 1)) fun t5 =>
  .op (.mv (.int .i64 0)) fun t8 =>
  .done (((e.upd 4 t4).upd 5 t5).upd 8 t8)
theorem c20_r0_run {CP : CProg} (e : Env) (h : Heap) (Q : Post) : RunR CP (c20_r0 e) h Q ↔ RunR CP (
  .op (.box 38 (e 0)) fun t4 =>
  .op (.box 28 (e 1)) fun t5 =>
  .op (.mv (.int .i64 0)) fun t8 =>
  .done (((e.upd 4 t4).upd 5 t5).upd 8 t8)) h Q := Iff.rfl
def c20_r1 : Env → Reg := fun e =>
  .op (.mv (e 3)) fun t10 =>
  .op (.load (some 4) (e 4)) fun t11 =>
  .op (.load (some 9) (e 5)) fun t12 =>
  .op (.mv (e 2)) fun t13 =>
  .op (.call 18 [t11, t12, t13]) fun t14 =>
  .op (.bin .leq t10 t14) fun t15 =>
  .done (e.upd 15 t15)
theorem c20_r1_run {CP : CProg} (e : Env) (h : Heap) (Q : Post) : RunR CP (c20_r1 e) h Q ↔ RunR CP (
  .op (.mv (e 3)) fun t10 =>
  .op (.load (some 4) (e 4)) fun t11 =>
  .op (.load (some 9) (e 5)) fun t12 =>
  .op (.mv (e 2)) fun t13 =>
  .op (.call 18 [t11, t12, t13]) fun t14 =>
  .op (.bin .leq t10 t14) fun t15 =>
  .done (e.upd 15 t15)) h Q := Iff.rfl
def c20_r2 : Env → Reg := fun e =>
  .op (.mv (.int .i64 0)) fun t8 =>
  .done (e.upd 8 t8)
theorem c20_r2_run {CP : CProg} (e : Env) (h : Heap) (Q : Post) : RunR CP (c20_r2 e) h Q ↔ RunR CP (
  .op (.mv (.int .i64 0)) fun t8 =>
  .done (e.upd 8 t8)) h Q := Iff.rfl
def c20_r3_c1 (e : Env) (t16 : Value) (t17 : Value) (t18 : Value) (t19 : Value) (t21 : Value) (t22 : Value) : Reg :=
  .op (.call 30 [t22]) fun t23 =>
  .chk none none (.load none t18) t19 <|
  .chk none none (.load none t16) t17 <|
  .op (.bin .mul t21 t23) fun t24 =>
  .op (.bin .sub t17 t24) fun t25 =>
  .op (.mv t25) fun t9 =>
  .done (e.upd 9 t9)
theorem c20_r3_c1_run {CP : CProg} (e : Env) (t16 : Value) (t17 : Value) (t18 : Value) (t19 : Value) (t21 : Value) (t22 : Value) (h : Heap) (Q : Post) : RunR CP (c20_r3_c1 e t16 t17 t18 t19 t21 t22) h Q ↔ RunR CP (
  .op (.call 30 [t22]) fun t23 =>
  .chk none none (.load none t18) t19 <|
  .chk none none (.load none t16) t17 <|
  .op (.bin .mul t21 t23) fun t24 =>
  .op (.bin .sub t17 t24) fun t25 =>
  .op (.mv t25) fun t9 =>
  .done (e.upd 9 t9)) h Q := Iff.rfl
def c20_r3 : Env → Reg := fun e =>
  .op (.fieldAddr 0 (e 4)) fun t16 =>
  .op (.load none t16) fun t17 =>
  .op (.fieldAddr 2 (e 5)) fun t18 =>
  .op (.load none t18) fun t19 =>
  .op (.mv (e 3)) fun t20 =>
  .op (.bin .sub t19 t20) fun t21 =>
  .op (.load (some 9) (e 5)) fun t22 =>
  .snap fun h7 =>
  c20_r3_c1 e t16 t17 t18 t19 t21 t22
theorem c20_r3_run {CP : CProg} (e : Env) (h : Heap) (Q : Post) : RunR CP (c20_r3 e) h Q ↔ RunR CP (
  .op (.fieldAddr 0 (e 4)) fun t16 =>
  .op (.load none t16) fun t17 =>
  .op (.fieldAddr 2 (e 5)) fun t18 =>
  .op (.load none t18) fun t19 =>
  .op (.mv (e 3)) fun t20 =>
  .op (.bin .sub t19 t20) fun t21 =>
  .op (.load (some 9) (e 5)) fun t22 =>
  .snap fun h7 =>
  c20_r3_c1 e t16 t17 t18 t19 t21 t22) h Q := Iff.rfl
def c20_r4 : Env → Reg := fun e =>
  .op (.mv (e 9)) fun t26 =>
  .op (.mv (e 2)) fun t27 =>
  .op (.bin .lss t26 t27) fun t28 =>
  .done (e.upd 28 t28)
theorem c20_r4_run {CP : CProg} (e : Env) (h : Heap) (Q : Post) : RunR CP (c20_r4 e) h Q ↔ RunR CP (
  .op (.mv (e 9)) fun t26 =>
  .op (.mv (e 2)) fun t27 =>
  .op (.bin .lss t26 t27) fun t28 =>
  .done (e.upd 28 t28)) h Q := Iff.rfl
def c20_r5 : Env → Reg := fun e =>
  .op (.mv (e 2)) fun t29 =>
  .op (.mv t29) fun t9 =>
  .done (e.upd 9 t9)
theorem c20_r5_run {CP : CProg} (e : Env) (h : Heap) (Q : Post) : RunR CP (c20_r5 e) h Q ↔ RunR CP (
  .op (.mv (e 2)) fun t29 =>
  .op (.mv t29) fun t9 =>
  .done (e.upd 9 t9)) h Q := Iff.rfl
def c20_r6_c2 (e : Env) (t37 : Value) (t44 : Value) (t45 : Value) : Reg :=
  .opg t37 true (.load none t45) fun t46 =>
  .opg t37 true (.bin .gtr t44 t46) fun t47 =>
  .op (.pick t37 t47 (.bool false)) fun t48 =>
  .done (e.upd 48 t48)
theorem c20_r6_c2_run {CP : CProg} (e : Env) (t37 : Value) (t44 : Value) (t45 : Value) (h : Heap) (Q : Post) : RunR CP (c20_r6_c2 e t37 t44 t45) h Q ↔ RunR CP (
  .opg t37 true (.load none t45) fun t46 =>
  .opg t37 true (.bin .gtr t44 t46) fun t47 =>
  .op (.pick t37 t47 (.bool false)) fun t48 =>
  .done (e.upd 48 t48)) h Q := Iff.rfl
def c20_r6_c1 (e : Env) (t37 : Value) : Reg :=
  .opg t37 true (.fieldAddr 2 (e 4)) fun t38 =>
  .opg t37 true (.load none t38) fun t39 =>
  .opg t37 true (.fieldAddr 3 (e 4)) fun t40 =>
  .opg t37 true (.load none t40) fun t41 =>
  .opg t37 true (.bin .add t39 t41) fun t42 =>
  .opg t37 true (.mv (e 3)) fun t43 =>
  .opg t37 true (.bin .add t42 t43) fun t44 =>
  .opg t37 true (.fieldAddr 0 (e 5)) fun t45 =>
  c20_r6_c2 e t37 t44 t45
theorem c20_r6_c1_run {CP : CProg} (e : Env) (t37 : Value) (h : Heap) (Q : Post) : RunR CP (c20_r6_c1 e t37) h Q ↔ RunR CP (
  .opg t37 true (.fieldAddr 2 (e 4)) fun t38 =>
  .opg t37 true (.load none t38) fun t39 =>
  .opg t37 true (.fieldAddr 3 (e 4)) fun t40 =>
  .opg t37 true (.load none t40) fun t41 =>
  .opg t37 true (.bin .add t39 t41) fun t42 =>
  .opg t37 true (.mv (e 3)) fun t43 =>
  .opg t37 true (.bin .add t42 t43) fun t44 =>
  .opg t37 true (.fieldAddr 0 (e 5)) fun t45 =>
  c20_r6_c2 e t37 t44 t45) h Q := Iff.rfl
def c20_r6 : Env → Reg := fun e =>
  .op (.mv (e 9)) fun t30 =>
  .op (.fieldAddr 1 (e 4)) fun t31 =>
  .op (.load none t31) fun t32 =>
  .op (.bin .sub t30 t32) fun t33 =>
  .op (.fieldAddr 1 (e 5)) fun t34 =>
  .op (.load none t34) fun t35 =>
  .op (.bin .lss t33 t35) fun t36 =>
  .op (.mv t36) fun t37 =>
  c20_r6_c1 e t37
theorem c20_r6_run {CP : CProg} (e : Env) (h : Heap) (Q : Post) : RunR CP (c20_r6 e) h Q ↔ RunR CP (
  .op (.mv (e 9)) fun t30 =>
  .op (.fieldAddr 1 (e 4)) fun t31 =>
  .op (.load none t31) fun t32 =>
  .op (.bin .sub t30 t32) fun t33 =>
  .op (.fieldAddr 1 (e 5)) fun t34 =>
  .op (.load none t34) fun t35 =>
  .op (.bin .lss t33 t35) fun t36 =>
  .op (.mv t36) fun t37 =>
  c20_r6_c1 e t37) h Q := Iff.rfl
def c20_r7 : Env → Reg := fun e =>
  .op (.fieldAddr 1 (e 4)) fun t49 =>
  .op (.load none t49) fun t50 =>
  .op (.fieldAddr 1 (e 5)) fun t51 =>
  .op (.load none t51) fun t52 =>
  .op (.bin .add t50 t52) fun t53 =>
  .op (.mv t53) fun t9 =>
  .done (e.upd 9 t9)
theorem c20_r7_run {CP : CProg} (e : Env) (h : Heap) (Q : Post) : RunR CP (c20_r7 e) h Q ↔ RunR CP (
  .op (.fieldAddr 1 (e 4)) fun t49 =>
  .op (.load none t49) fun t50 =>
  .op (.fieldAddr 1 (e 5)) fun t51 =>
  .op (.load none t51) fun t52 =>
  .op (.bin .add t50 t52) fun t53 =>
  .op (.mv t53) fun t9 =>
  .done (e.upd 9 t9)) h Q := Iff.rfl
def c20_r8 : Env → Reg := fun e =>
  .op (.mv (e 9)) fun t54 =>
  .op (.mv (e 2)) fun t55 =>
  .op (.bin .sub t54 t55) fun t56 =>
  .op (.mv t56) fun t8 =>
  .done (e.upd 8 t8)
theorem c20_r8_run {CP : CProg} (e : Env) (h : Heap) (Q : Post) : RunR CP (c20_r8 e) h Q ↔ RunR CP (
  .op (.mv (e 9)) fun t54 =>
  .op (.mv (e 2)) fun t55 =>
  .op (.bin .sub t54 t55) fun t56 =>
  .op (.mv t56) fun t8 =>
  .done (e.upd 8 t8)) h Q := Iff.rfl
def c20 : CFn := ⟨(.seq (.region c20_r0) (.seq (.seq (.region c20_r1) (.cond (fun e => e 15) (.seq (.region c20_r2) .ret) .skip)) (.seq (.region c20_r3) (.seq (.seq (.region c20_r4) (.cond (fun e => e 28) (.region c20_r5) .skip)) (.seq (.seq (.region c20_r6) (.cond (fun e => e 48) (.region c20_r7) .skip)) (.seq (.region c20_r8) .ret)))))), [.t 8]⟩
def p20 : Pers := ⟨10, [15, 28, 48], 57⟩
-- 21: (*weighbridge/cell.Cell).Take
def c21_r0 : Env → Reg := fun e =>
  .op (.box 31 (e 1)) fun t5 =>
  .op (.mv (.bool false)) fun t8 =>
  .done ((e.upd 5 t5).upd 8 t8)
theorem c21_r0_run {CP : CProg} (e : Env) (h : Heap) (Q : Post) : RunR CP (c21_r0 e) h Q ↔ RunR CP (
  .op (.box 31 (e 1)) fun t5 =>
  .op (.mv (.bool false)) fun t8 =>
  .done ((e.upd 5 t5).upd 8 t8)) h Q := Iff.rfl
def c21_r1_c1 (e : Env) (t11 : Value) (t12 : Value) (t15 : Value) (t16 : Value) : Reg :=
  .opg t11 false (.mv (e 2)) fun t17 =>
  .snap fun h9 =>
  .opg t11 false (.call 17 [t15, t16, t17]) fun t18 =>
  .opg t11 false (.bin .gtr t12 t18) fun t19 =>
  .op (.pick t11 (.bool true) t19) fun t20 =>
  .done (e.upd 20 t20)
theorem c21_r1_c1_run {CP : CProg} (e : Env) (t11 : Value) (t12 : Value) (t15 : Value) (t16 : Value) (h : Heap) (Q : Post) : RunR CP (c21_r1_c1 e t11 t12 t15 t16) h Q ↔ RunR CP (
  .opg t11 false (.mv (e 2)) fun t17 =>
  .snap fun h9 =>
  .opg t11 false (.call 17 [t15, t16, t17]) fun t18 =>
  .opg t11 false (.bin .gtr t12 t18) fun t19 =>
  .op (.pick t11 (.bool true) t19) fun t20 =>
  .done (e.upd 20 t20)) h Q := Iff.rfl
def c21_r1 : Env → Reg := fun e =>
  .op (.mv (e 3)) fun t9 =>
  .op (.bin .lss t9 (.int .i64 1)) fun t10 =>
  .op (.mv t10) fun t11 =>
  .opg t11 false (.mv (e 3)) fun t12 =>
  .opg t11 false (.mv (e 0)) fun t13 =>
  .opg t11 false (.nilCheck t13) fun t14 =>
  .opg t11 false (.load (some 4) t14) fun t15 =>
  .opg t11 false (.load (some 4) (e 5)) fun t16 =>
  c21_r1_c1 e t11 t12 t15 t16
theorem c21_r1_run {CP : CProg} (e : Env) (h : Heap) (Q : Post) : RunR CP (c21_r1 e) h Q ↔ RunR CP (
  .op (.mv (e 3)) fun t9 =>
  .op (.bin .lss t9 (.int .i64 1)) fun t10 =>
  .op (.mv t10) fun t11 =>
  .opg t11 false (.mv (e 3)) fun t12 =>
  .opg t11 false (.mv (e 0)) fun t13 =>
  .opg t11 false (.nilCheck t13) fun t14 =>
  .opg t11 false (.load (some 4) t14) fun t15 =>
  .opg t11 false (.load (some 4) (e 5)) fun t16 =>
  c21_r1_c1 e t11 t12 t15 t16) h Q := Iff.rfl
def c21_r2 : Env → Reg := fun e =>
  .op (.mv (.bool false)) fun t8 =>
  .done (e.upd 8 t8)
theorem c21_r2_run {CP : CProg} (e : Env) (h : Heap) (Q : Post) : RunR CP (c21_r2 e) h Q ↔ RunR CP (
  .op (.mv (.bool false)) fun t8 =>
  .done (e.upd 8 t8)) h Q := Iff.rfl
def c21_r3_c1 (e : Env) (t21 : Value) (t27 : Value) (t28 : Value) : Reg :=
  .op (.fieldAddr 0 (e 5)) fun t29 =>
  .op (.load none t29) fun t30 =>
  .op (.bin .mul t28 t30) fun t31 =>
  .op (.bin .add t27 t31) fun t32 =>
  .op (.nilCheck t21) fun t33 =>
  .op (.fieldAddr 0 t33) fun t34 =>
  .snap fun h14 =>
  .op (.store 1 t34 t32) fun _ =>
  .done e
theorem c21_r3_c1_run {CP : CProg} (e : Env) (t21 : Value) (t27 : Value) (t28 : Value) (h : Heap) (Q : Post) : RunR CP (c21_r3_c1 e t21 t27 t28) h Q ↔ RunR CP (
  .op (.fieldAddr 0 (e 5)) fun t29 =>
  .op (.load none t29) fun t30 =>
  .op (.bin .mul t28 t30) fun t31 =>
  .op (.bin .add t27 t31) fun t32 =>
  .op (.nilCheck t21) fun t33 =>
  .op (.fieldAddr 0 t33) fun t34 =>
  .snap fun h14 =>
  .op (.store 1 t34 t32) fun _ =>
  .done e) h Q := Iff.rfl
def c21_r3 : Env → Reg := fun e =>
  .op (.mv (e 0)) fun t21 =>
  .op (.mv (e 0)) fun t22 =>
  .op (.nilCheck t22) fun t23 =>
  .op (.fieldAddr 0 t23) fun t24 =>
  .op (.load none t24) fun t25 =>
  .op (.mv (e 2)) fun t26 =>
  .op (.minmax true [t25, t26]) fun t27 =>
  .op (.mv (e 3)) fun t28 =>
  c21_r3_c1 e t21 t27 t28
theorem c21_r3_run {CP : CProg} (e : Env) (h : Heap) (Q : Post) : RunR CP (c21_r3 e) h Q ↔ RunR CP (
  .op (.mv (e 0)) fun t21 =>
  .op (.mv (e 0)) fun t22 =>
  .op (.nilCheck t22) fun t23 =>
  .op (.fieldAddr 0 t23) fun t24 =>
  .op (.load none t24) fun t25 =>
  .op (.mv (e 2)) fun t26 =>
  .op (.minmax true [t25, t26]) fun t27 =>
  .op (.mv (e 3)) fun t28 =>
  c21_r3_c1 e t21 t27 t28) h Q := Iff.rfl
def c21_r4 : Env → Reg := fun e =>
  .op (.mv (e 0)) fun t35 =>
  .op (.mv (e 0)) fun t36 =>
  .op (.nilCheck t36) fun t37 =>
  .op (.fieldAddr 3 t37) fun t38 =>
  .op (.load none t38) fun t39 =>
  .op (.mv (e 3)) fun t40 =>
  .op (.call 27 [t39, t40]) fun t41 =>
  .op (.nilCheck t35) fun t42 =>
  .op (.fieldAddr 3 t42) fun t43 =>
  .op (.store 1 t43 t41) fun _ =>
  .done e
theorem c21_r4_run {CP : CProg} (e : Env) (h : Heap) (Q : Post) : RunR CP (c21_r4 e) h Q ↔ RunR CP (
  .op (.mv (e 0)) fun t35 =>
  .op (.mv (e 0)) fun t36 =>
  .op (.nilCheck t36) fun t37 =>
  .op (.fieldAddr 3 t37) fun t38 =>
  .op (.load none t38) fun t39 =>
  .op (.mv (e 3)) fun t40 =>
  .op (.call 27 [t39, t40]) fun t41 =>
  .op (.nilCheck t35) fun t42 =>
  .op (.fieldAddr 3 t42) fun t43 =>
  .op (.store 1 t43 t41) fun _ =>
  .done e) h Q := Iff.rfl
def c21_r5 : Env → Reg := fun e =>
  .op (.mv (.bool true)) fun t8 =>
  .done (e.upd 8 t8)
theorem c21_r5_run {CP : CProg} (e : Env) (h : Heap) (Q : Post) : RunR CP (c21_r5 e) h Q ↔ RunR CP (
  .op (.mv (.bool true)) fun t8 =>
  .done (e.upd 8 t8)) h Q := Iff.rfl
def c21 : CFn := ⟨(.seq (.region c21_r0) (.seq (.seq (.region c21_r1) (.cond (fun e => e 20) (.seq (.region c21_r2) .ret) .skip)) (.seq (.region c21_r3) (.seq (.region c21_r4) (.seq (.region c21_r5) .ret))))), [.t 8]⟩
def p21 : Pers := ⟨9, [20], 44⟩
-- 22: (*weighbridge/weighbridgeref09.Cell).Take
def c22_r0 : Env → Reg := fun e =>
  .op (.box 28 (e 1)) fun t5 =>
  .op (.mv (.bool false)) fun t8 =>
  .done ((e.upd 5 t5).upd 8 t8)
theorem c22_r0_run {CP : CProg} (e : Env) (h : Heap) (Q : Post) : RunR CP (c22_r0 e) h Q ↔ RunR CP (
  .op (.box 28 (e 1)) fun t5 =>
  .op (.mv (.bool false)) fun t8 =>
  .done ((e.upd 5 t5).upd 8 t8)) h Q := Iff.rfl
def c22_r1_c1 (e : Env) (t12 : Value) (t13 : Value) (t16 : Value) (t17 : Value) : Reg :=
  .opg t12 false (.mv (e 2)) fun t18 =>
  .snap fun h9 =>
  .opg t12 false (.call 18 [t16, t17, t18]) fun t19 =>
  .opg t12 false (.bin .gtr t13 t19) fun t20 =>
  .op (.pick t12 (.bool true) t20) fun t21 =>
  .done (e.upd 21 t21)
theorem c22_r1_c1_run {CP : CProg} (e : Env) (t12 : Value) (t13 : Value) (t16 : Value) (t17 : Value) (h : Heap) (Q : Post) : RunR CP (c22_r1_c1 e t12 t13 t16 t17) h Q ↔ RunR CP (
  .opg t12 false (.mv (e 2)) fun t18 =>
  .snap fun h9 =>
  .opg t12 false (.call 18 [t16, t17, t18]) fun t19 =>
  .opg t12 false (.bin .gtr t13 t19) fun t20 =>
  .op (.pick t12 (.bool true) t20) fun t21 =>
  .done (e.upd 21 t21)) h Q := Iff.rfl
def c22_r1 : Env → Reg := fun e =>
  .op (.mv (e 3)) fun t10 =>
  .op (.bin .lss t10 (.int .i64 1)) fun t11 =>
  .op (.mv t11) fun t12 =>
  .opg t12 false (.mv (e 3)) fun t13 =>
  .opg t12 false (.mv (e 0)) fun t14 =>
  .opg t12 false (.nilCheck t14) fun t15 =>
  .opg t12 false (.load (some 4) t15) fun t16 =>
  .opg t12 false (.load (some 9) (e 5)) fun t17 =>
  c22_r1_c1 e t12 t13 t16 t17
theorem c22_r1_run {CP : CProg} (e : Env) (h : Heap) (Q : Post) : RunR CP (c22_r1 e) h Q ↔ RunR CP (
  .op (.mv (e 3)) fun t10 =>
  .op (.bin .lss t10 (.int .i64 1)) fun t11 =>
  .op (.mv t11) fun t12 =>
  .opg t12 false (.mv (e 3)) fun t13 =>
  .opg t12 false (.mv (e 0)) fun t14 =>
  .opg t12 false (.nilCheck t14) fun t15 =>
  .opg t12 false (.load (some 4) t15) fun t16 =>
  .opg t12 false (.load (some 9) (e 5)) fun t17 =>
  c22_r1_c1 e t12 t13 t16 t17) h Q := Iff.rfl
def c22_r2 : Env → Reg := fun e =>
  .op (.mv (.bool false)) fun t8 =>
  .done (e.upd 8 t8)
theorem c22_r2_run {CP : CProg} (e : Env) (h : Heap) (Q : Post) : RunR CP (c22_r2 e) h Q ↔ RunR CP (
  .op (.mv (.bool false)) fun t8 =>
  .done (e.upd 8 t8)) h Q := Iff.rfl
def c22_r3 : Env → Reg := fun e =>
  .op (.mv (.int .i64 0)) fun t9 =>
  .done (e.upd 9 t9)
theorem c22_r3_run {CP : CProg} (e : Env) (h : Heap) (Q : Post) : RunR CP (c22_r3 e) h Q ↔ RunR CP (
  .op (.mv (.int .i64 0)) fun t9 =>
  .done (e.upd 9 t9)) h Q := Iff.rfl
def c22_r4 : Env → Reg := fun e =>
  .op (.mv (e 9)) fun t22 =>
  .op (.mv (e 3)) fun t23 =>
  .op (.bin .lss t22 t23) fun t24 =>
  .done (e.upd 24 t24)
theorem c22_r4_run {CP : CProg} (e : Env) (h : Heap) (Q : Post) : RunR CP (c22_r4 e) h Q ↔ RunR CP (
  .op (.mv (e 9)) fun t22 =>
  .op (.mv (e 3)) fun t23 =>
  .op (.bin .lss t22 t23) fun t24 =>
  .done (e.upd 24 t24)) h Q := Iff.rfl
def c22_r6 : Env → Reg := fun e =>
  .op (.mv (e 0)) fun t27 =>
  .op (.load (some 9) (e 5)) fun t28 =>
  .op (.mv (e 2)) fun t29 =>
  .op (.call 28 [t27, t28, t29]) fun t30 =>
  .done e
theorem c22_r6_run {CP : CProg} (e : Env) (h : Heap) (Q : Post) : RunR CP (c22_r6 e) h Q ↔ RunR CP (
  .op (.mv (e 0)) fun t27 =>
  .op (.load (some 9) (e 5)) fun t28 =>
  .op (.mv (e 2)) fun t29 =>
  .op (.call 28 [t27, t28, t29]) fun t30 =>
  .done e) h Q := Iff.rfl
def c22_r5 : Env → Reg := fun e =>
  .op (.mv (e 9)) fun t25 =>
  .op (.bin .add t25 (.int .i64 1)) fun t26 =>
  .op (.mv t26) fun t9 =>
  .done (e.upd 9 t9)
theorem c22_r5_run {CP : CProg} (e : Env) (h : Heap) (Q : Post) : RunR CP (c22_r5 e) h Q ↔ RunR CP (
  .op (.mv (e 9)) fun t25 =>
  .op (.bin .add t25 (.int .i64 1)) fun t26 =>
  .op (.mv t26) fun t9 =>
  .done (e.upd 9 t9)) h Q := Iff.rfl
def c22_l0 : CC := (.seq (.seq (.region c22_r4) (.cond (fun e => e 24) .skip (.exit 0))) (.seq (.block 1 (.region c22_r6)) (.region c22_r5)))
def c22_r7 : Env → Reg := fun e =>
  .op (.mv (e 0)) fun t31 =>
  .op (.nilCheck t31) fun t32 =>
  .op (.fieldAddr 3 t32) fun t33 =>
  .op (.load none t33) fun t34 =>
  .op (.mv (e 3)) fun t35 =>
  .op (.bin .add t34 t35) fun t36 =>
  .op (.nilCheck t31) fun t37 =>
  .op (.fieldAddr 3 t37) fun t38 =>
  .op (.store 1 t38 t36) fun _ =>
  .done e
theorem c22_r7_run {CP : CProg} (e : Env) (h : Heap) (Q : Post) : RunR CP (c22_r7 e) h Q ↔ RunR CP (
  .op (.mv (e 0)) fun t31 =>
  .op (.nilCheck t31) fun t32 =>
  .op (.fieldAddr 3 t32) fun t33 =>
  .op (.load none t33) fun t34 =>
  .op (.mv (e 3)) fun t35 =>
  .op (.bin .add t34 t35) fun t36 =>
  .op (.nilCheck t31) fun t37 =>
  .op (.fieldAddr 3 t37) fun t38 =>
  .op (.store 1 t38 t36) fun _ =>
  .done e) h Q := Iff.rfl
def c22_r8 : Env → Reg := fun e =>
  .op (.mv (.bool true)) fun t8 =>
  .done (e.upd 8 t8)
theorem c22_r8_run {CP : CProg} (e : Env) (h : Heap) (Q : Post) : RunR CP (c22_r8 e) h Q ↔ RunR CP (
  .op (.mv (.bool true)) fun t8 =>
  .done (e.upd 8 t8)) h Q := Iff.rfl
def c22 : CFn := ⟨(.seq (.region c22_r0) (.seq (.seq (.region c22_r1) (.cond (fun e => e 21) (.seq (.region c22_r2) .ret) .skip)) (.seq (.seq (.region c22_r3) (.block 0 (.loop c22_l0))) (.seq (.region c22_r7) (.seq (.region c22_r8) .ret))))), [.t 8]⟩
def p22 : Pers := ⟨10, [21, 24], 39⟩
-- 23: (weighbridge/cell.Cell).Bound
def c23_r0 : Env → Reg := fun e =>
  .op (.box 36 (e 0)) fun t3 =>
  .op (.box 31 (e 1)) fun t4 =>
  .op (.mv (.int .i64 0)) fun t6 =>
  .done (((e.upd 3 t3).upd 4 t4).upd 6 t6)
theorem c23_r0_run {CP : CProg} (e : Env) (h : Heap) (Q : Post) : RunR CP (c23_r0 e) h Q ↔ RunR CP (
  .op (.box 36 (e 0)) fun t3 =>
  .op (.box 31 (e 1)) fun t4 =>
  .op (.mv (.int .i64 0)) fun t6 =>
  .done (((e.upd 3 t3).upd 4 t4).upd 6 t6)) h Q := Iff.rfl
def c23_r1 : Env → Reg := fun e =>
  .op (.load (some 4) (e 3)) fun t7 =>
  .op (.load (some 4) (e 4)) fun t8 =>
  .op (.mv (e 2)) fun t9 =>
  .op (.call 26 [t7, t8, t9]) fun t10 =>
  .done (e.upd 10 t10)
theorem c23_r1_run {CP : CProg} (e : Env) (h : Heap) (Q : Post) : RunR CP (c23_r1 e) h Q ↔ RunR CP (
  .op (.load (some 4) (e 3)) fun t7 =>
  .op (.load (some 4) (e 4)) fun t8 =>
  .op (.mv (e 2)) fun t9 =>
  .op (.call 26 [t7, t8, t9]) fun t10 =>
  .done (e.upd 10 t10)) h Q := Iff.rfl
def c23_r2 : Env → Reg := fun e =>
  .op (.fieldAddr 3 (e 3)) fun t11 =>
  .op (.load none t11) fun t12 =>
  .op (.fieldAddr 3 (e 4)) fun t13 =>
  .op (.load none t13) fun t14 =>
  .op (.minmax false [t12, t14]) fun t15 =>
  .op (.mv t15) fun t6 =>
  .done (e.upd 6 t6)
theorem c23_r2_run {CP : CProg} (e : Env) (h : Heap) (Q : Post) : RunR CP (c23_r2 e) h Q ↔ RunR CP (
  .op (.fieldAddr 3 (e 3)) fun t11 =>
  .op (.load none t11) fun t12 =>
  .op (.fieldAddr 3 (e 4)) fun t13 =>
  .op (.load none t13) fun t14 =>
  .op (.minmax false [t12, t14]) fun t15 =>
  .op (.mv t15) fun t6 =>
  .done (e.upd 6 t6)) h Q := Iff.rfl
def c23_r3_c1 (e : Env) (t22 : Value) (t23 : Value) : Reg :=
  .op (.load none t23) fun t24 =>
  .op (.bin .quo t22 t24) fun t25 =>
  .op (.minmax true [t25, (.int .i64 0)]) fun t26 =>
  .op (.fieldAddr 3 (e 4)) fun t27 =>
  .op (.load none t27) fun t28 =>
  .op (.minmax false [t26, t28]) fun t29 =>
  .op (.mv t29) fun t6 =>
  .done (e.upd 6 t6)
theorem c23_r3_c1_run {CP : CProg} (e : Env) (t22 : Value) (t23 : Value) (h : Heap) (Q : Post) : RunR CP (c23_r3_c1 e t22 t23) h Q ↔ RunR CP (
  .op (.load none t23) fun t24 =>
  .op (.bin .quo t22 t24) fun t25 =>
  .op (.minmax true [t25, (.int .i64 0)]) fun t26 =>
  .op (.fieldAddr 3 (e 4)) fun t27 =>
  .op (.load none t27) fun t28 =>
  .op (.minmax false [t26, t28]) fun t29 =>
  .op (.mv t29) fun t6 =>
  .done (e.upd 6 t6)) h Q := Iff.rfl
def c23_r3 : Env → Reg := fun e =>
  .op (.fieldAddr 0 (e 3)) fun t16 =>
  .op (.load none t16) fun t17 =>
  .op (.mv (e 2)) fun t18 =>
  .op (.fieldAddr 1 (e 4)) fun t19 =>
  .op (.load none t19) fun t20 =>
  .op (.bin .sub t18 t20) fun t21 =>
  .op (.bin .sub t17 t21) fun t22 =>
  .op (.fieldAddr 0 (e 4)) fun t23 =>
  c23_r3_c1 e t22 t23
theorem c23_r3_run {CP : CProg} (e : Env) (h : Heap) (Q : Post) : RunR CP (c23_r3 e) h Q ↔ RunR CP (
  .op (.fieldAddr 0 (e 3)) fun t16 =>
  .op (.load none t16) fun t17 =>
  .op (.mv (e 2)) fun t18 =>
  .op (.fieldAddr 1 (e 4)) fun t19 =>
  .op (.load none t19) fun t20 =>
  .op (.bin .sub t18 t20) fun t21 =>
  .op (.bin .sub t17 t21) fun t22 =>
  .op (.fieldAddr 0 (e 4)) fun t23 =>
  c23_r3_c1 e t22 t23) h Q := Iff.rfl
def c23 : CFn := ⟨(.seq (.region c23_r0) (.seq (.seq (.region c23_r1) (.cond (fun e => e 10) (.seq (.region c23_r2) .ret) .skip)) (.seq (.region c23_r3) .ret))), [.t 6]⟩
def p23 : Pers := ⟨7, [10], 30⟩
-- 24: (weighbridge/cell.Cell).Idle
def c24_r0 : Env → Reg := fun e =>
  .op (.box 36 (e 0)) fun t3 =>
  .op (.box 31 (e 1)) fun t4 =>
  .op (.mv (.bool false)) fun t6 =>
  .done (((e.upd 3 t3).upd 4 t4).upd 6 t6)
theorem c24_r0_run {CP : CProg} (e : Env) (h : Heap) (Q : Post) : RunR CP (c24_r0 e) h Q ↔ RunR CP (
  .op (.box 36 (e 0)) fun t3 =>
  .op (.box 31 (e 1)) fun t4 =>
  .op (.mv (.bool false)) fun t6 =>
  .done (((e.upd 3 t3).upd 4 t4).upd 6 t6)) h Q := Iff.rfl
def c24_r1_c1 (e : Env) (t12 : Value) (t14 : Value) : Reg :=
  .opg t12 true (.mv (e 2)) fun t15 =>
  .opg t12 true (.fieldAddr 1 (e 4)) fun t16 =>
  .opg t12 true (.load none t16) fun t17 =>
  .opg t12 true (.bin .sub t15 t17) fun t18 =>
  .opg t12 true (.bin .leq t14 t18) fun t19 =>
  .op (.pick t12 t19 (.bool false)) fun t20 =>
  .op (.mv t20) fun t6 =>
  .done (e.upd 6 t6)
theorem c24_r1_c1_run {CP : CProg} (e : Env) (t12 : Value) (t14 : Value) (h : Heap) (Q : Post) : RunR CP (c24_r1_c1 e t12 t14) h Q ↔ RunR CP (
  .opg t12 true (.mv (e 2)) fun t15 =>
  .opg t12 true (.fieldAddr 1 (e 4)) fun t16 =>
  .opg t12 true (.load none t16) fun t17 =>
  .opg t12 true (.bin .sub t15 t17) fun t18 =>
  .opg t12 true (.bin .leq t14 t18) fun t19 =>
  .op (.pick t12 t19 (.bool false)) fun t20 =>
  .op (.mv t20) fun t6 =>
  .done (e.upd 6 t6)) h Q := Iff.rfl
def c24_r1 : Env → Reg := fun e =>
  .op (.load (some 4) (e 3)) fun t7 =>
  .op (.load (some 4) (e 4)) fun t8 =>
  .op (.mv (e 2)) fun t9 =>
  .op (.call 26 [t7, t8, t9]) fun t10 =>
  .op (.un .not t10) fun t11 =>
  .op (.mv t11) fun t12 =>
  .opg t12 true (.fieldAddr 0 (e 3)) fun t13 =>
  .opg t12 true (.load none t13) fun t14 =>
  c24_r1_c1 e t12 t14
theorem c24_r1_run {CP : CProg} (e : Env) (h : Heap) (Q : Post) : RunR CP (c24_r1 e) h Q ↔ RunR CP (
  .op (.load (some 4) (e 3)) fun t7 =>
  .op (.load (some 4) (e 4)) fun t8 =>
  .op (.mv (e 2)) fun t9 =>
  .op (.call 26 [t7, t8, t9]) fun t10 =>
  .op (.un .not t10) fun t11 =>
  .op (.mv t11) fun t12 =>
  .opg t12 true (.fieldAddr 0 (e 3)) fun t13 =>
  .opg t12 true (.load none t13) fun t14 =>
  c24_r1_c1 e t12 t14) h Q := Iff.rfl
def c24 : CFn := ⟨(.seq (.region c24_r0) (.seq (.region c24_r1) .ret)), [.t 6]⟩
def p24 : Pers := ⟨7, [], 21⟩
-- 25: weighbridge/arith.Ceil
def c25_r0 : Env → Reg := fun e =>
  .op (.mv (.int .i64 0)) fun t4 =>
  .done (e.upd 4 t4)
theorem c25_r0_run {CP : CProg} (e : Env) (h : Heap) (Q : Post) : RunR CP (c25_r0 e) h Q ↔ RunR CP (
  .op (.mv (.int .i64 0)) fun t4 =>
  .done (e.upd 4 t4)) h Q := Iff.rfl
def c25_r1 : Env → Reg := fun e =>
  .op (.mv (e 0)) fun t6 =>
  .op (.bin .lss t6 (.int .i64 0)) fun t7 =>
  .op (.mv t7) fun t8 =>
  .opg t8 false (.mv (e 1)) fun t9 =>
  .opg t8 false (.bin .lss t9 (.int .i64 1)) fun t10 =>
  .op (.pick t8 (.bool true) t10) fun t11 =>
  .done (e.upd 11 t11)
theorem c25_r1_run {CP : CProg} (e : Env) (h : Heap) (Q : Post) : RunR CP (c25_r1 e) h Q ↔ RunR CP (
  .op (.mv (e 0)) fun t6 =>
  .op (.bin .lss t6 (.int .i64 0)) fun t7 =>
  .op (.mv t7) fun t8 =>
  .opg t8 false (.mv (e 1)) fun t9 =>
  .opg t8 false (.bin .lss t9 (.int .i64 1)) fun t10 =>
  .op (.pick t8 (.bool true) t10) fun t11 =>
  .done (e.upd 11 t11)) h Q := Iff.rfl
def c25_r2 : Env → Reg := fun e =>
  .op (.mv (.int .i64 0)) fun t4 =>
  .done (e.upd 4 t4)
theorem c25_r2_run {CP : CProg} (e : Env) (h : Heap) (Q : Post) : RunR CP (c25_r2 e) h Q ↔ RunR CP (
  .op (.mv (.int .i64 0)) fun t4 =>
  .done (e.upd 4 t4)) h Q := Iff.rfl
def c25_r3 : Env → Reg := fun e =>
  .op (.mv (e 0)) fun t12 =>
  .op (.mv (e 1)) fun t13 =>
  .op (.bin .quo t12 t13) fun t14 =>
  .op (.mv t14) fun t5 =>
  .done (e.upd 5 t5)
theorem c25_r3_run {CP : CProg} (e : Env) (h : Heap) (Q : Post) : RunR CP (c25_r3 e) h Q ↔ RunR CP (
  .op (.mv (e 0)) fun t12 =>
  .op (.mv (e 1)) fun t13 =>
  .op (.bin .quo t12 t13) fun t14 =>
  .op (.mv t14) fun t5 =>
  .done (e.upd 5 t5)) h Q := Iff.rfl
def c25_r4 : Env → Reg := fun e =>
  .op (.mv (e 0)) fun t15 =>
  .op (.mv (e 1)) fun t16 =>
  .op (.bin .rem t15 t16) fun t17 =>
  .op (.bin .gtr t17 (.int .i64 0)) fun t18 =>
  .done (e.upd 18 t18)
theorem c25_r4_run {CP : CProg} (e : Env) (h : Heap) (Q : Post) : RunR CP (c25_r4 e) h Q ↔ RunR CP (
  .op (.mv (e 0)) fun t15 =>
  .op (.mv (e 1)) fun t16 =>
  .op (.bin .rem t15 t16) fun t17 =>
  .op (.bin .gtr t17 (.int .i64 0)) fun t18 =>
  .done (e.upd 18 t18)) h Q := Iff.rfl
def c25_r5 : Env → Reg := fun e =>
  .op (.mv (e 5)) fun t19 =>
  .op (.bin .add t19 (.int .i64 1)) fun t20 =>
  .op (.mv t20) fun t5 =>
  .done (e.upd 5 t5)
theorem c25_r5_run {CP : CProg} (e : Env) (h : Heap) (Q : Post) : RunR CP (c25_r5 e) h Q ↔ RunR CP (
  .op (.mv (e 5)) fun t19 =>
  .op (.bin .add t19 (.int .i64 1)) fun t20 =>
  .op (.mv t20) fun t5 =>
  .done (e.upd 5 t5)) h Q := Iff.rfl
def c25_r6 : Env → Reg := fun e =>
  .op (.mv (e 5)) fun t21 =>
  .op (.mv t21) fun t4 =>
  .done (e.upd 4 t4)
theorem c25_r6_run {CP : CProg} (e : Env) (h : Heap) (Q : Post) : RunR CP (c25_r6 e) h Q ↔ RunR CP (
  .op (.mv (e 5)) fun t21 =>
  .op (.mv t21) fun t4 =>
  .done (e.upd 4 t4)) h Q := Iff.rfl
def c25 : CFn := ⟨(.seq (.region c25_r0) (.seq (.seq (.region c25_r1) (.cond (fun e => e 11) (.seq (.region c25_r2) .ret) .skip)) (.seq (.region c25_r3) (.seq (.seq (.region c25_r4) (.cond (fun e => e 18) (.region c25_r5) .skip)) (.seq (.region c25_r6) .ret))))), [.t 4]⟩
def p25 : Pers := ⟨6, [11, 18], 22⟩
-- 26: (weighbridge/cell.Cell).young
def c26_r0 : Env → Reg := fun e =>
  .op (.box 36 (e 0)) fun t3 =>
  .op (.box 31 (e 1)) fun t4 =>
  .op (.mv (.bool false)) fun t6 =>
  .done (((e.upd 3 t3).upd 4 t4).upd 6 t6)
theorem c26_r0_run {CP : CProg} (e : Env) (h : Heap) (Q : Post) : RunR CP (c26_r0 e) h Q ↔ RunR CP (
  .op (.box 36 (e 0)) fun t3 =>
  .op (.box 31 (e 1)) fun t4 =>
  .op (.mv (.bool false)) fun t6 =>
  .done (((e.upd 3 t3).upd 4 t4).upd 6 t6)) h Q := Iff.rfl
def c26_r1 : Env → Reg := fun e =>
  .op (.mv (e 2)) fun t7 =>
  .op (.fieldAddr 1 (e 3)) fun t8 =>
  .op (.load none t8) fun t9 =>
  .op (.fieldAddr 1 (e 4)) fun t10 =>
  .op (.load none t10) fun t11 =>
  .op (.call 27 [t9, t11]) fun t12 =>
  .op (.bin .lss t7 t12) fun t13 =>
  .op (.mv t13) fun t6 =>
  .done (e.upd 6 t6)
theorem c26_r1_run {CP : CProg} (e : Env) (h : Heap) (Q : Post) : RunR CP (c26_r1 e) h Q ↔ RunR CP (
  .op (.mv (e 2)) fun t7 =>
  .op (.fieldAddr 1 (e 3)) fun t8 =>
  .op (.load none t8) fun t9 =>
  .op (.fieldAddr 1 (e 4)) fun t10 =>
  .op (.load none t10) fun t11 =>
  .op (.call 27 [t9, t11]) fun t12 =>
  .op (.bin .lss t7 t12) fun t13 =>
  .op (.mv t13) fun t6 =>
  .done (e.upd 6 t6)) h Q := Iff.rfl
def c26 : CFn := ⟨(.seq (.region c26_r0) (.seq (.region c26_r1) .ret)), [.t 6]⟩
def p26 : Pers := ⟨7, [], 14⟩
-- 27: weighbridge/arith.Sum
def c27_r0 : Env → Reg := fun e =>
  .op (.mv (.int .i64 0)) fun t4 =>
  .done (e.upd 4 t4)
theorem c27_r0_run {CP : CProg} (e : Env) (h : Heap) (Q : Post) : RunR CP (c27_r0 e) h Q ↔ RunR CP (
  .op (.mv (.int .i64 0)) fun t4 =>
  .done (e.upd 4 t4)) h Q := Iff.rfl
def c27_r1 : Env → Reg := fun e =>
  .op (.mv (e 0)) fun t8 =>
  .op (.mv (e 1)) fun t9 =>
  .op (.call 31 [t8, t9]) fun t10 =>
  .op (.mv t10) fun t7 =>
  .op (.extract t7 0) fun t11 =>
  .op (.extract t7 1) fun t12 =>
  .op (.mv t11) fun t5 =>
  .op (.mv t12) fun t6 =>
  .done ((e.upd 5 t5).upd 6 t6)
theorem c27_r1_run {CP : CProg} (e : Env) (h : Heap) (Q : Post) : RunR CP (c27_r1 e) h Q ↔ RunR CP (
  .op (.mv (e 0)) fun t8 =>
  .op (.mv (e 1)) fun t9 =>
  .op (.call 31 [t8, t9]) fun t10 =>
  .op (.mv t10) fun t7 =>
  .op (.extract t7 0) fun t11 =>
  .op (.extract t7 1) fun t12 =>
  .op (.mv t11) fun t5 =>
  .op (.mv t12) fun t6 =>
  .done ((e.upd 5 t5).upd 6 t6)) h Q := Iff.rfl
def c27_r2 : Env → Reg := fun e =>
  .op (.mv (e 6)) fun t13 =>
  .op (.un .not t13) fun t14 =>
  .done (e.upd 14 t14)
theorem c27_r2_run {CP : CProg} (e : Env) (h : Heap) (Q : Post) : RunR CP (c27_r2 e) h Q ↔ RunR CP (
  .op (.mv (e 6)) fun t13 =>
  .op (.un .not t13) fun t14 =>
  .done (e.upd 14 t14)) h Q := Iff.rfl
def c27_r3 : Env → Reg := fun e =>
  .op (.mv (e 0)) fun t15 =>
  .op (.bin .lss t15 (.int .i64 0)) fun t16 =>
  .op (.call 32 [t16]) fun t17 =>
  .op (.mv t17) fun t4 =>
  .done (e.upd 4 t4)
theorem c27_r3_run {CP : CProg} (e : Env) (h : Heap) (Q : Post) : RunR CP (c27_r3 e) h Q ↔ RunR CP (
  .op (.mv (e 0)) fun t15 =>
  .op (.bin .lss t15 (.int .i64 0)) fun t16 =>
  .op (.call 32 [t16]) fun t17 =>
  .op (.mv t17) fun t4 =>
  .done (e.upd 4 t4)) h Q := Iff.rfl
def c27_r4 : Env → Reg := fun e =>
  .op (.mv (e 5)) fun t18 =>
  .op (.mv t18) fun t4 =>
  .done (e.upd 4 t4)
theorem c27_r4_run {CP : CProg} (e : Env) (h : Heap) (Q : Post) : RunR CP (c27_r4 e) h Q ↔ RunR CP (
  .op (.mv (e 5)) fun t18 =>
  .op (.mv t18) fun t4 =>
  .done (e.upd 4 t4)) h Q := Iff.rfl
def c27 : CFn := ⟨(.seq (.region c27_r0) (.seq (.region c27_r1) (.seq (.seq (.region c27_r2) (.cond (fun e => e 14) (.seq (.region c27_r3) .ret) .skip)) (.seq (.region c27_r4) .ret)))), [.t 4]⟩
def p27 : Pers := ⟨7, [14], 19⟩
-- 28: (*weighbridge/weighbridgeref09.Cell).one
def c28_r0 : Env → Reg := fun e =>
  .op (.box 28 (e 1)) fun t4 =>
  .op (.mv (.bool false)) fun t6 =>
  .done ((e.upd 4 t4).upd 6 t6)
theorem c28_r0_run {CP : CProg} (e : Env) (h : Heap) (Q : Post) : RunR CP (c28_r0 e) h Q ↔ RunR CP (
  .op (.box 28 (e 1)) fun t4 =>
  .op (.mv (.bool false)) fun t6 =>
  .done ((e.upd 4 t4).upd 6 t6)) h Q := Iff.rfl
def c28_r1 : Env → Reg := fun e =>
  .op (.fieldAddr 2 (e 4)) fun t9 =>
  .op (.load none t9) fun t10 =>
  .op (.bin .sub t10 (.int .i64 1)) fun t11 =>
  .op (.load (some 9) (e 4)) fun t12 =>
  .snap fun h4 =>
  .op (.call 30 [t12]) fun t13 =>
  .chk none none (.load none t9) t10 <|
  .op (.bin .mul t11 t13) fun t14 =>
  .op (.mv t14) fun t7 =>
  .done (e.upd 7 t7)
theorem c28_r1_run {CP : CProg} (e : Env) (h : Heap) (Q : Post) : RunR CP (c28_r1 e) h Q ↔ RunR CP (
  .op (.fieldAddr 2 (e 4)) fun t9 =>
  .op (.load none t9) fun t10 =>
  .op (.bin .sub t10 (.int .i64 1)) fun t11 =>
  .op (.load (some 9) (e 4)) fun t12 =>
  .snap fun h4 =>
  .op (.call 30 [t12]) fun t13 =>
  .chk none none (.load none t9) t10 <|
  .op (.bin .mul t11 t13) fun t14 =>
  .op (.mv t14) fun t7 =>
  .done (e.upd 7 t7)) h Q := Iff.rfl
def c28_r2 : Env → Reg := fun e =>
  .op (.mv (e 0)) fun t15 =>
  .op (.nilCheck t15) fun t16 =>
  .op (.fieldAddr 0 t16) fun t17 =>
  .op (.load none t17) fun t18 =>
  .op (.mv t18) fun t8 =>
  .done (e.upd 8 t8)
theorem c28_r2_run {CP : CProg} (e : Env) (h : Heap) (Q : Post) : RunR CP (c28_r2 e) h Q ↔ RunR CP (
  .op (.mv (e 0)) fun t15 =>
  .op (.nilCheck t15) fun t16 =>
  .op (.fieldAddr 0 t16) fun t17 =>
  .op (.load none t17) fun t18 =>
  .op (.mv t18) fun t8 =>
  .done (e.upd 8 t8)) h Q := Iff.rfl
def c28_r3 : Env → Reg := fun e =>
  .op (.mv (e 8)) fun t19 =>
  .op (.mv (e 2)) fun t20 =>
  .op (.bin .lss t19 t20) fun t21 =>
  .done (e.upd 21 t21)
theorem c28_r3_run {CP : CProg} (e : Env) (h : Heap) (Q : Post) : RunR CP (c28_r3 e) h Q ↔ RunR CP (
  .op (.mv (e 8)) fun t19 =>
  .op (.mv (e 2)) fun t20 =>
  .op (.bin .lss t19 t20) fun t21 =>
  .done (e.upd 21 t21)) h Q := Iff.rfl
def c28_r4 : Env → Reg := fun e =>
  .op (.mv (e 2)) fun t22 =>
  .op (.mv t22) fun t8 =>
  .done (e.upd 8 t8)
theorem c28_r4_run {CP : CProg} (e : Env) (h : Heap) (Q : Post) : RunR CP (c28_r4 e) h Q ↔ RunR CP (
  .op (.mv (e 2)) fun t22 =>
  .op (.mv t22) fun t8 =>
  .done (e.upd 8 t8)) h Q := Iff.rfl
def c28_r5 : Env → Reg := fun e =>
  .op (.mv (e 8)) fun t23 =>
  .op (.mv (e 2)) fun t24 =>
  .op (.mv (e 7)) fun t25 =>
  .op (.bin .add t24 t25) fun t26 =>
  .op (.bin .gtr t23 t26) fun t27 =>
  .done (e.upd 27 t27)
theorem c28_r5_run {CP : CProg} (e : Env) (h : Heap) (Q : Post) : RunR CP (c28_r5 e) h Q ↔ RunR CP (
  .op (.mv (e 8)) fun t23 =>
  .op (.mv (e 2)) fun t24 =>
  .op (.mv (e 7)) fun t25 =>
  .op (.bin .add t24 t25) fun t26 =>
  .op (.bin .gtr t23 t26) fun t27 =>
  .done (e.upd 27 t27)) h Q := Iff.rfl
def c28_r6 : Env → Reg := fun e =>
  .op (.mv (.bool false)) fun t6 =>
  .done (e.upd 6 t6)
theorem c28_r6_run {CP : CProg} (e : Env) (h : Heap) (Q : Post) : RunR CP (c28_r6 e) h Q ↔ RunR CP (
  .op (.mv (.bool false)) fun t6 =>
  .done (e.upd 6 t6)) h Q := Iff.rfl
def c28_r7 : Env → Reg := fun e =>
  .op (.mv (e 0)) fun t28 =>
  .op (.mv (e 8)) fun t29 =>
  .op (.load (some 9) (e 4)) fun t30 =>
  .op (.call 30 [t30]) fun t31 =>
  .op (.bin .add t29 t31) fun t32 =>
  .op (.nilCheck t28) fun t33 =>
  .op (.fieldAddr 0 t33) fun t34 =>
  .op (.store 1 t34 t32) fun _ =>
  .done e
theorem c28_r7_run {CP : CProg} (e : Env) (h : Heap) (Q : Post) : RunR CP (c28_r7 e) h Q ↔ RunR CP (
  .op (.mv (e 0)) fun t28 =>
  .op (.mv (e 8)) fun t29 =>
  .op (.load (some 9) (e 4)) fun t30 =>
  .op (.call 30 [t30]) fun t31 =>
  .op (.bin .add t29 t31) fun t32 =>
  .op (.nilCheck t28) fun t33 =>
  .op (.fieldAddr 0 t33) fun t34 =>
  .op (.store 1 t34 t32) fun _ =>
  .done e) h Q := Iff.rfl
def c28_r8 : Env → Reg := fun e =>
  .op (.mv (.bool true)) fun t6 =>
  .done (e.upd 6 t6)
theorem c28_r8_run {CP : CProg} (e : Env) (h : Heap) (Q : Post) : RunR CP (c28_r8 e) h Q ↔ RunR CP (
  .op (.mv (.bool true)) fun t6 =>
  .done (e.upd 6 t6)) h Q := Iff.rfl
def c28 : CFn := ⟨(.seq (.region c28_r0) (.seq (.region c28_r1) (.seq (.region c28_r2) (.seq (.seq (.region c28_r3) (.cond (fun e => e 21) (.region c28_r4) .skip)) (.seq (.seq (.region c28_r5) (.cond (fun e => e 27) (.seq (.region c28_r6) .ret) .skip)) (.seq (.region c28_r7) (.seq (.region c28_r8) .ret))))))), [.t 6]⟩
def p28 : Pers := ⟨9, [21, 27], 35⟩
-- 29: (weighbridge/weighbridgeref09.Cell).young
def c29_r0 : Env → Reg := fun e =>
  .op (.box 38 (e 0)) fun t3 =>
  .op (.box 28 (e 1)) fun t4 =>
  .op (.mv (.bool false)) fun t6 =>
  .done (((e.upd 3 t3).upd 4 t4).upd 6 t6)
theorem c29_r0_run {CP : CProg} (e : Env) (h : Heap) (Q : Post) : RunR CP (c29_r0 e) h Q ↔ RunR CP (
  .op (.box 38 (e 0)) fun t3 =>
  .op (.box 28 (e 1)) fun t4 =>
  .op (.mv (.bool false)) fun t6 =>
  .done (((e.upd 3 t3).upd 4 t4).upd 6 t6)) h Q := Iff.rfl
def c29_r1 : Env → Reg := fun e =>
  .op (.mv (e 2)) fun t7 =>
  .op (.fieldAddr 1 (e 3)) fun t8 =>
  .op (.load none t8) fun t9 =>
  .op (.bin .sub t7 t9) fun t10 =>
  .op (.fieldAddr 1 (e 4)) fun t11 =>
  .op (.load none t11) fun t12 =>
  .op (.bin .lss t10 t12) fun t13 =>
  .op (.mv t13) fun t6 =>
  .done (e.upd 6 t6)
theorem c29_r1_run {CP : CProg} (e : Env) (h : Heap) (Q : Post) : RunR CP (c29_r1 e) h Q ↔ RunR CP (
  .op (.mv (e 2)) fun t7 =>
  .op (.fieldAddr 1 (e 3)) fun t8 =>
  .op (.load none t8) fun t9 =>
  .op (.bin .sub t7 t9) fun t10 =>
  .op (.fieldAddr 1 (e 4)) fun t11 =>
  .op (.load none t11) fun t12 =>
  .op (.bin .lss t10 t12) fun t13 =>
  .op (.mv t13) fun t6 =>
  .done (e.upd 6 t6)) h Q := Iff.rfl
def c29 : CFn := ⟨(.seq (.region c29_r0) (.seq (.region c29_r1) .ret)), [.t 6]⟩
def p29 : Pers := ⟨7, [], 14⟩
-- 30: weighbridge/weighbridgeref09.Unit
def c30_r0 : Env → Reg := fun e =>
  .op (.box 28 (e 0)) fun t1 =>
  .op (.mv (.int .i64 0)) fun t2 =>
  .done ((e.upd 1 t1).upd 2 t2)
theorem c30_r0_run {CP : CProg} (e : Env) (h : Heap) (Q : Post) : RunR CP (c30_r0 e) h Q ↔ RunR CP (
  .op (.box 28 (e 0)) fun t1 =>
  .op (.mv (.int .i64 0)) fun t2 =>
  .done ((e.upd 1 t1).upd 2 t2)) h Q := Iff.rfl
def c30_r1 : Env → Reg := fun e =>
  .op (.fieldAddr 0 (e 1)) fun t5 =>
  .op (.load none t5) fun t6 =>
  .op (.bin .add t6 (.int .i64 1)) fun t7 =>
  .op (.fieldAddr 2 (e 1)) fun t8 =>
  .op (.load none t8) fun t9 =>
  .op (.bin .sub t7 t9) fun t10 =>
  .op (.mv t10) fun t3 =>
  .done (e.upd 3 t3)
theorem c30_r1_run {CP : CProg} (e : Env) (h : Heap) (Q : Post) : RunR CP (c30_r1 e) h Q ↔ RunR CP (
  .op (.fieldAddr 0 (e 1)) fun t5 =>
  .op (.load none t5) fun t6 =>
  .op (.bin .add t6 (.int .i64 1)) fun t7 =>
  .op (.fieldAddr 2 (e 1)) fun t8 =>
  .op (.load none t8) fun t9 =>
  .op (.bin .sub t7 t9) fun t10 =>
  .op (.mv t10) fun t3 =>
  .done (e.upd 3 t3)) h Q := Iff.rfl
def c30_r2 : Env → Reg := fun e =>
  .op (.fieldAddr 1 (e 1)) fun t11 =>
  .op (.load none t11) fun t12 =>
  .op (.mv (e 3)) fun t13 =>
  .op (.bin .quo t12 t13) fun t14 =>
  .op (.mv t14) fun t4 =>
  .done (e.upd 4 t4)
theorem c30_r2_run {CP : CProg} (e : Env) (h : Heap) (Q : Post) : RunR CP (c30_r2 e) h Q ↔ RunR CP (
  .op (.fieldAddr 1 (e 1)) fun t11 =>
  .op (.load none t11) fun t12 =>
  .op (.mv (e 3)) fun t13 =>
  .op (.bin .quo t12 t13) fun t14 =>
  .op (.mv t14) fun t4 =>
  .done (e.upd 4 t4)) h Q := Iff.rfl
def c30_r3 : Env → Reg := fun e =>
  .op (.mv (e 4)) fun t15 =>
  .op (.mv (e 3)) fun t16 =>
  .op (.bin .mul t15 t16) fun t17 =>
  .op (.fieldAddr 1 (e 1)) fun t18 =>
  .op (.load none t18) fun t19 =>
  .op (.bin .lss t17 t19) fun t20 =>
  .done (e.upd 20 t20)
theorem c30_r3_run {CP : CProg} (e : Env) (h : Heap) (Q : Post) : RunR CP (c30_r3 e) h Q ↔ RunR CP (
  .op (.mv (e 4)) fun t15 =>
  .op (.mv (e 3)) fun t16 =>
  .op (.bin .mul t15 t16) fun t17 =>
  .op (.fieldAddr 1 (e 1)) fun t18 =>
  .op (.load none t18) fun t19 =>
  .op (.bin .lss t17 t19) fun t20 =>
  .done (e.upd 20 t20)) h Q := Iff.rfl
def c30_r4 : Env → Reg := fun e =>
  .op (.mv (e 4)) fun t21 =>
  .op (.bin .add t21 (.int .i64 1)) fun t22 =>
  .op (.mv t22) fun t4 =>
  .done (e.upd 4 t4)
theorem c30_r4_run {CP : CProg} (e : Env) (h : Heap) (Q : Post) : RunR CP (c30_r4 e) h Q ↔ RunR CP (
  .op (.mv (e 4)) fun t21 =>
  .op (.bin .add t21 (.int .i64 1)) fun t22 =>
  .op (.mv t22) fun t4 =>
  .done (e.upd 4 t4)) h Q := Iff.rfl
def c30_r5 : Env → Reg := fun e =>
  .op (.mv (e 4)) fun t23 =>
  .op (.mv t23) fun t2 =>
  .done (e.upd 2 t2)
theorem c30_r5_run {CP : CProg} (e : Env) (h : Heap) (Q : Post) : RunR CP (c30_r5 e) h Q ↔ RunR CP (
  .op (.mv (e 4)) fun t23 =>
  .op (.mv t23) fun t2 =>
  .done (e.upd 2 t2)) h Q := Iff.rfl
def c30 : CFn := ⟨(.seq (.region c30_r0) (.seq (.region c30_r1) (.seq (.region c30_r2) (.seq (.seq (.region c30_r3) (.cond (fun e => e 20) (.region c30_r4) .skip)) (.seq (.region c30_r5) .ret))))), [.t 2]⟩
def p30 : Pers := ⟨5, [20], 24⟩
-- 31: weighbridge/arith.Add
def c31_r0 : Env → Reg := fun e =>
  .op (.mv (.int .i64 0)) fun t4 =>
  .op (.mv (.bool false)) fun t5 =>
  .done ((e.upd 4 t4).upd 5 t5)
theorem c31_r0_run {CP : CProg} (e : Env) (h : Heap) (Q : Post) : RunR CP (c31_r0 e) h Q ↔ RunR CP (
  .op (.mv (.int .i64 0)) fun t4 =>
  .op (.mv (.bool false)) fun t5 =>
  .done ((e.upd 4 t4).upd 5 t5)) h Q := Iff.rfl
def c31_r1 : Env → Reg := fun e =>
  .op (.mv (e 0)) fun t7 =>
  .op (.mv (e 1)) fun t8 =>
  .op (.bin .add t7 t8) fun t9 =>
  .op (.mv t9) fun t6 =>
  .done (e.upd 6 t6)
theorem c31_r1_run {CP : CProg} (e : Env) (h : Heap) (Q : Post) : RunR CP (c31_r1 e) h Q ↔ RunR CP (
  .op (.mv (e 0)) fun t7 =>
  .op (.mv (e 1)) fun t8 =>
  .op (.bin .add t7 t8) fun t9 =>
  .op (.mv t9) fun t6 =>
  .done (e.upd 6 t6)) h Q := Iff.rfl
def c31_r2 : Env → Reg := fun e =>
  .op (.mv (e 6)) fun t10 =>
  .op (.mv (e 6)) fun t11 =>
  .op (.mv (e 0)) fun t12 =>
  .op (.bin .gtr t11 t12) fun t13 =>
  .op (.mv (e 1)) fun t14 =>
  .op (.bin .gtr t14 (.int .i64 0)) fun t15 =>
  .op (.eqK .bool false t13 t15) fun t16 =>
  .op (.mv t10) fun t4 =>
  .op (.mv t16) fun t5 =>
  .done ((e.upd 4 t4).upd 5 t5)
theorem c31_r2_run {CP : CProg} (e : Env) (h : Heap) (Q : Post) : RunR CP (c31_r2 e) h Q ↔ RunR CP (
  .op (.mv (e 6)) fun t10 =>
  .op (.mv (e 6)) fun t11 =>
  .op (.mv (e 0)) fun t12 =>
  .op (.bin .gtr t11 t12) fun t13 =>
  .op (.mv (e 1)) fun t14 =>
  .op (.bin .gtr t14 (.int .i64 0)) fun t15 =>
  .op (.eqK .bool false t13 t15) fun t16 =>
  .op (.mv t10) fun t4 =>
  .op (.mv t16) fun t5 =>
  .done ((e.upd 4 t4).upd 5 t5)) h Q := Iff.rfl
def c31 : CFn := ⟨(.seq (.region c31_r0) (.seq (.region c31_r1) (.seq (.region c31_r2) .ret))), [.t 4, .t 5]⟩
def p31 : Pers := ⟨7, [], 17⟩
-- 32: weighbridge/arith.end
def c32_r0 : Env → Reg := fun e =>
  .op (.mv (.int .i64 0)) fun t2 =>
  .done (e.upd 2 t2)
theorem c32_r0_run {CP : CProg} (e : Env) (h : Heap) (Q : Post) : RunR CP (c32_r0 e) h Q ↔ RunR CP (
  .op (.mv (.int .i64 0)) fun t2 =>
  .done (e.upd 2 t2)) h Q := Iff.rfl
def c32_r1 : Env → Reg := fun e =>
  .op (.mv (e 0)) fun t3 =>
  .done (e.upd 3 t3)
theorem c32_r1_run {CP : CProg} (e : Env) (h : Heap) (Q : Post) : RunR CP (c32_r1 e) h Q ↔ RunR CP (
  .op (.mv (e 0)) fun t3 =>
  .done (e.upd 3 t3)) h Q := Iff.rfl
def c32_r2 : Env → Reg := fun e =>
  .op (.mv (.int .i64 (-9223372036854775808))) fun t2 =>
  .done (e.upd 2 t2)
theorem c32_r2_run {CP : CProg} (e : Env) (h : Heap) (Q : Post) : RunR CP (c32_r2 e) h Q ↔ RunR CP (
  .op (.mv (.int .i64 (-9223372036854775808))) fun t2 =>
  .done (e.upd 2 t2)) h Q := Iff.rfl
def c32_r3 : Env → Reg := fun e =>
  .op (.mv (.int .i64 9223372036854775807)) fun t2 =>
  .done (e.upd 2 t2)
theorem c32_r3_run {CP : CProg} (e : Env) (h : Heap) (Q : Post) : RunR CP (c32_r3 e) h Q ↔ RunR CP (
  .op (.mv (.int .i64 9223372036854775807)) fun t2 =>
  .done (e.upd 2 t2)) h Q := Iff.rfl
def c32 : CFn := ⟨(.seq (.region c32_r0) (.seq (.seq (.region c32_r1) (.cond (fun e => e 3) (.seq (.region c32_r2) .ret) .skip)) (.seq (.region c32_r3) .ret))), [.t 2]⟩
def p32 : Pers := ⟨3, [3], 4⟩
def cp : CProg
  | 3 => some c3
  | 9 => some c9
  | 11 => some c11
  | 12 => some c12
  | 13 => some c13
  | 14 => some c14
  | 15 => some c15
  | 16 => some c16
  | 17 => some c17
  | 18 => some c18
  | 19 => some c19
  | 20 => some c20
  | 21 => some c21
  | 22 => some c22
  | 23 => some c23
  | 24 => some c24
  | 25 => some c25
  | 26 => some c26
  | 27 => some c27
  | 28 => some c28
  | 29 => some c29
  | 30 => some c30
  | 31 => some c31
  | 32 => some c32
  | _ => none
theorem cp3 : cp 3 = some c3 := rfl
theorem cp9 : cp 9 = some c9 := rfl
theorem cp11 : cp 11 = some c11 := rfl
theorem cp12 : cp 12 = some c12 := rfl
theorem cp13 : cp 13 = some c13 := rfl
theorem cp14 : cp 14 = some c14 := rfl
theorem cp15 : cp 15 = some c15 := rfl
theorem cp16 : cp 16 = some c16 := rfl
theorem cp17 : cp 17 = some c17 := rfl
theorem cp18 : cp 18 = some c18 := rfl
theorem cp19 : cp 19 = some c19 := rfl
theorem cp20 : cp 20 = some c20 := rfl
theorem cp21 : cp 21 = some c21 := rfl
theorem cp22 : cp 22 = some c22 := rfl
theorem cp23 : cp 23 = some c23 := rfl
theorem cp24 : cp 24 = some c24 := rfl
theorem cp25 : cp 25 = some c25 := rfl
theorem cp26 : cp 26 = some c26 := rfl
theorem cp27 : cp 27 = some c27 := rfl
theorem cp28 : cp 28 = some c28 := rfl
theorem cp29 : cp 29 = some c29 := rfl
theorem cp30 : cp 30 = some c30 := rfl
theorem cp31 : cp 31 = some c31 := rfl
theorem cp32 : cp 32 = some c32 := rfl
end Go.Proofs.Ytdnimnlnicnjnaa.Can
