/- The canonical code of functions of the program, written by a program of this session (wip/can/res.py). No condition. -/
import Derived.Test.YtcmdehfbidgoeaaCanWp
namespace Go.Proofs.Ytcmdehfbidgoeaa.Can
open Go
set_option linter.unusedVariables false
def big0 : ByteArray := ⟨#[0, 1, 2, 2, 3, 3, 3, 3, 4, 4, 4, 4, 4, 4, 4, 4, 5, 5, 5, 5, 5, 5, 5, 5, 5, 5, 5, 5, 5, 5, 5, 5, 6, 6, 6, 6, 6, 6, 6, 6, 6, 6, 6, 6, 6, 6, 6, 6, 6, 6, 6, 6, 6, 6, 6, 6, 6, 6, 6, 6, 6, 6, 6, 6, 7, 7, 7, 7, 7, 7, 7, 7, 7, 7, 7, 7, 7, 7, 7, 7, 7, 7, 7, 7, 7, 7, 7, 7, 7, 7, 7, 7, 7, 7, 7, 7, 7, 7, 7, 7, 7, 7, 7, 7, 7, 7, 7, 7, 7, 7, 7, 7, 7, 7, 7, 7, 7, 7, 7, 7, 7, 7, 7, 7, 7, 7, 7, 7, 8, 8, 8, 8, 8, 8, 8, 8, 8, 8, 8, 8, 8, 8, 8, 8, 8, 8, 8, 8, 8, 8, 8, 8, 8, 8, 8, 8, 8, 8, 8, 8, 8, 8, 8, 8, 8, 8, 8, 8, 8, 8, 8, 8, 8, 8, 8, 8, 8, 8, 8, 8, 8, 8, 8, 8, 8, 8, 8, 8, 8, 8, 8, 8, 8, 8, 8, 8, 8, 8, 8, 8, 8, 8, 8, 8, 8, 8, 8, 8, 8, 8, 8, 8, 8, 8, 8, 8, 8, 8, 8, 8, 8, 8, 8, 8, 8, 8, 8, 8, 8, 8, 8, 8, 8, 8, 8, 8, 8, 8, 8, 8, 8, 8, 8, 8, 8, 8, 8, 8, 8, 8, 8, 8, 8, 8, 8, 8]⟩
-- 3: weighbridge/weighbridgelaw07.RingSlots
def c3_r0 : Env → Reg := fun e =>
  .op (.box 23 (e 0)) fun t2 =>
  .op (.mv (.bool false)) fun t4 =>
  .done ((e.upd 2 t2).upd 4 t4)
theorem c3_r0_run {CP : CProg} (e : Env) (h : Heap) (Q : Post) : RunR CP (c3_r0 e) h Q ↔ RunR CP (
  .op (.box 23 (e 0)) fun t2 =>
  .op (.mv (.bool false)) fun t4 =>
  .done ((e.upd 2 t2).upd 4 t4)) h Q := Iff.rfl
def c3_r1 : Env → Reg := fun e =>
  .op (.call 10 []) fun t9 =>
  .op (.un .not t9) fun t10 =>
  .done (e.upd 10 t10)
theorem c3_r1_run {CP : CProg} (e : Env) (h : Heap) (Q : Post) : RunR CP (c3_r1 e) h Q ↔ RunR CP (
  .op (.call 10 []) fun t9 =>
  .op (.un .not t9) fun t10 =>
  .done (e.upd 10 t10)) h Q := Iff.rfl
def c3_r2 : Env → Reg := fun e =>
  .op (.mv (.bool false)) fun t4 =>
  .done (e.upd 4 t4)
theorem c3_r2_run {CP : CProg} (e : Env) (h : Heap) (Q : Post) : RunR CP (c3_r2 e) h Q ↔ RunR CP (
  .op (.mv (.bool false)) fun t4 =>
  .done (e.upd 4 t4)) h Q := Iff.rfl
def c3_r3 : Env → Reg := fun e =>
  .op (.load (some 5) (e 2)) fun t11 =>
  .op (.call 11 [t11]) fun t12 =>
  .op (.alloc 26 [(.int .i64 0), (.int .i64 0), (.int .i64 0), (.int .i64 0), (.int .i64 0), (.int .i64 0), (.int .i64 0), (.int .i64 0), (.bool false)]) fun t5 =>
  .op (.store 9 t5 t12) fun _ =>
  .done (e.upd 5 t5)
theorem c3_r3_run {CP : CProg} (e : Env) (h : Heap) (Q : Post) : RunR CP (c3_r3 e) h Q ↔ RunR CP (
  .op (.load (some 5) (e 2)) fun t11 =>
  .op (.call 11 [t11]) fun t12 =>
  .op (.alloc 26 [(.int .i64 0), (.int .i64 0), (.int .i64 0), (.int .i64 0), (.int .i64 0), (.int .i64 0), (.int .i64 0), (.int .i64 0), (.bool false)]) fun t5 =>
  .op (.store 9 t5 t12) fun _ =>
  .done (e.upd 5 t5)) h Q := Iff.rfl
def c3_r4 : Env → Reg := fun e =>
  .op (.load (some 9) (e 5)) fun t13 =>
  .snap fun h1 =>
  .op (.call 13 [(.slice none 0 0), (.int .i64 1)]) fun t14 =>
  .chk none none (.load (some 9) (e 5)) t13 <|
  .snap fun h2 =>
  .op (.call 12 [t13, t14]) fun t15 =>
  .op (.mv t15) fun t6 =>
  .done (e.upd 6 t6)
theorem c3_r4_run {CP : CProg} (e : Env) (h : Heap) (Q : Post) : RunR CP (c3_r4 e) h Q ↔ RunR CP (
  .op (.load (some 9) (e 5)) fun t13 =>
  .snap fun h1 =>
  .op (.call 13 [(.slice none 0 0), (.int .i64 1)]) fun t14 =>
  .chk none none (.load (some 9) (e 5)) t13 <|
  .snap fun h2 =>
  .op (.call 12 [t13, t14]) fun t15 =>
  .op (.mv t15) fun t6 =>
  .done (e.upd 6 t6)) h Q := Iff.rfl
def c3_r5 : Env → Reg := fun e =>
  .op (.fieldAddr 1 (e 5)) fun t16 =>
  .op (.load none t16) fun t17 =>
  .op (.fieldAddr 3 (e 5)) fun t18 =>
  .op (.load none t18) fun t19 =>
  .op (.bin .quo t17 t19) fun t20 =>
  .op (.mv t20) fun t7 =>
  .done (e.upd 7 t7)
theorem c3_r5_run {CP : CProg} (e : Env) (h : Heap) (Q : Post) : RunR CP (c3_r5 e) h Q ↔ RunR CP (
  .op (.fieldAddr 1 (e 5)) fun t16 =>
  .op (.load none t16) fun t17 =>
  .op (.fieldAddr 3 (e 5)) fun t18 =>
  .op (.load none t18) fun t19 =>
  .op (.bin .quo t17 t19) fun t20 =>
  .op (.mv t20) fun t7 =>
  .done (e.upd 7 t7)) h Q := Iff.rfl
def c3_r6 : Env → Reg := fun e =>
  .op (.mv (e 1)) fun t21 =>
  .op (.bin .and t21 (.int .i64 2305843009213693951)) fun t22 =>
  .op (.mv t22) fun t1 =>
  .done (e.upd 1 t1)
theorem c3_r6_run {CP : CProg} (e : Env) (h : Heap) (Q : Post) : RunR CP (c3_r6 e) h Q ↔ RunR CP (
  .op (.mv (e 1)) fun t21 =>
  .op (.bin .and t21 (.int .i64 2305843009213693951)) fun t22 =>
  .op (.mv t22) fun t1 =>
  .done (e.upd 1 t1)) h Q := Iff.rfl
def c3_r7 : Env → Reg := fun e =>
  .op (.mv (e 6)) fun t23 =>
  .op (.mv (e 1)) fun t24 =>
  .op (.call 14 [t23, t24]) fun t25 =>
  .op (.mv t25) fun t8 =>
  .done (e.upd 8 t8)
theorem c3_r7_run {CP : CProg} (e : Env) (h : Heap) (Q : Post) : RunR CP (c3_r7 e) h Q ↔ RunR CP (
  .op (.mv (e 6)) fun t23 =>
  .op (.mv (e 1)) fun t24 =>
  .op (.call 14 [t23, t24]) fun t25 =>
  .op (.mv t25) fun t8 =>
  .done (e.upd 8 t8)) h Q := Iff.rfl
def c3_r8_c8 (e : Env) (t78 : Value) (t82 : Value) (t84 : Value) : Reg :=
  .opg t78 true (.bin .add t84 (.int .i64 1)) fun t85 =>
  .opg t78 true (.bin .mul t85 (.int .i64 64)) fun t86 =>
  .opg t78 true (.bin .eql t82 t86) fun t87 =>
  .op (.pick t78 t87 (.bool false)) fun t88 =>
  .op (.mv t88) fun t4 =>
  .done (e.upd 4 t4)
theorem c3_r8_c8_run {CP : CProg} (e : Env) (t78 : Value) (t82 : Value) (t84 : Value) (h : Heap) (Q : Post) : RunR CP (c3_r8_c8 e t78 t82 t84) h Q ↔ RunR CP (
  .opg t78 true (.bin .add t84 (.int .i64 1)) fun t85 =>
  .opg t78 true (.bin .mul t85 (.int .i64 64)) fun t86 =>
  .opg t78 true (.bin .eql t82 t86) fun t87 =>
  .op (.pick t78 t87 (.bool false)) fun t88 =>
  .op (.mv t88) fun t4 =>
  .done (e.upd 4 t4)) h Q := Iff.rfl
def c3_r8_c7 (e : Env) (t78 : Value) : Reg :=
  .opg t78 true (.fieldAddr 3 (e 5)) fun t79 =>
  .opg t78 true (.load none t79) fun t80 =>
  .opg t78 true (.build [(.int .i64 0), (.int .i64 0), (.int .i64 0), (.int .i64 0), (.int .i64 0), (.int .i64 0), (.int .i64 0), (.int .i64 0), (.bool false)] [(3, 1, t80), (5, 1, (.int .i64 2)), (6, 1, (.int .i64 3))]) fun t81 =>
  .snap fun h56 =>
  .opg t78 true (.call 15 [t81]) fun t82 =>
  .opg t78 true (.fieldAddr 3 (e 5)) fun t83 =>
  .opg t78 true (.load none t83) fun t84 =>
  .chk (some (t78, true)) (some h56) (.load none t83) t84 <|
  c3_r8_c8 e t78 t82 t84
theorem c3_r8_c7_run {CP : CProg} (e : Env) (t78 : Value) (h : Heap) (Q : Post) : RunR CP (c3_r8_c7 e t78) h Q ↔ RunR CP (
  .opg t78 true (.fieldAddr 3 (e 5)) fun t79 =>
  .opg t78 true (.load none t79) fun t80 =>
  .opg t78 true (.build [(.int .i64 0), (.int .i64 0), (.int .i64 0), (.int .i64 0), (.int .i64 0), (.int .i64 0), (.int .i64 0), (.int .i64 0), (.bool false)] [(3, 1, t80), (5, 1, (.int .i64 2)), (6, 1, (.int .i64 3))]) fun t81 =>
  .snap fun h56 =>
  .opg t78 true (.call 15 [t81]) fun t82 =>
  .opg t78 true (.fieldAddr 3 (e 5)) fun t83 =>
  .opg t78 true (.load none t83) fun t84 =>
  .chk (some (t78, true)) (some h56) (.load none t83) t84 <|
  c3_r8_c8 e t78 t82 t84) h Q := Iff.rfl
def c3_r8_c6 (e : Env) (t63 : Value) (t66 : Value) (t67 : Value) (t71 : Value) : Reg :=
  .snap fun h46 =>
  .opg t66 false (.call 14 [t67, t71]) fun t72 =>
  .opg t66 false (.mv (e 8)) fun t73 =>
  .opg t66 false (.bin .sub t73 (.int .i64 1)) fun t74 =>
  .opg t66 false (.bin .eql t72 t74) fun t75 =>
  .opg t63 true (.pick t66 (.bool true) t75) fun t76 =>
  .op (.pick t63 t76 (.bool false)) fun t77 =>
  .op (.mv t77) fun t78 =>
  c3_r8_c7 e t78
theorem c3_r8_c6_run {CP : CProg} (e : Env) (t63 : Value) (t66 : Value) (t67 : Value) (t71 : Value) (h : Heap) (Q : Post) : RunR CP (c3_r8_c6 e t63 t66 t67 t71) h Q ↔ RunR CP (
  .snap fun h46 =>
  .opg t66 false (.call 14 [t67, t71]) fun t72 =>
  .opg t66 false (.mv (e 8)) fun t73 =>
  .opg t66 false (.bin .sub t73 (.int .i64 1)) fun t74 =>
  .opg t66 false (.bin .eql t72 t74) fun t75 =>
  .opg t63 true (.pick t66 (.bool true) t75) fun t76 =>
  .op (.pick t63 t76 (.bool false)) fun t77 =>
  .op (.mv t77) fun t78 =>
  c3_r8_c7 e t78) h Q := Iff.rfl
def c3_r8_c5 (e : Env) (t63 : Value) : Reg :=
  .opg t63 true (.mv (e 8)) fun t64 =>
  .opg t63 true (.bin .eql t64 (.int .i64 0)) fun t65 =>
  .opg t63 true (.mv t65) fun t66 =>
  .opg t66 false (.mv (e 6)) fun t67 =>
  .opg t66 false (.mv (e 8)) fun t68 =>
  .opg t66 false (.mv (e 7)) fun t69 =>
  .opg t66 false (.bin .mul t68 t69) fun t70 =>
  .opg t66 false (.bin .sub t70 (.int .i64 1)) fun t71 =>
  c3_r8_c6 e t63 t66 t67 t71
theorem c3_r8_c5_run {CP : CProg} (e : Env) (t63 : Value) (h : Heap) (Q : Post) : RunR CP (c3_r8_c5 e t63) h Q ↔ RunR CP (
  .opg t63 true (.mv (e 8)) fun t64 =>
  .opg t63 true (.bin .eql t64 (.int .i64 0)) fun t65 =>
  .opg t63 true (.mv t65) fun t66 =>
  .opg t66 false (.mv (e 6)) fun t67 =>
  .opg t66 false (.mv (e 8)) fun t68 =>
  .opg t66 false (.mv (e 7)) fun t69 =>
  .opg t66 false (.bin .mul t68 t69) fun t70 =>
  .opg t66 false (.bin .sub t70 (.int .i64 1)) fun t71 =>
  c3_r8_c6 e t63 t66 t67 t71) h Q := Iff.rfl
def c3_r8_c4 (e : Env) (t54 : Value) (t55 : Value) (t56 : Value) : Reg :=
  .opg t54 true (.mv (e 7)) fun t57 =>
  .opg t54 true (.bin .mul t56 t57) fun t58 =>
  .snap fun h33 =>
  .opg t54 true (.call 14 [t55, t58]) fun t59 =>
  .opg t54 true (.mv (e 8)) fun t60 =>
  .opg t54 true (.bin .eql t59 t60) fun t61 =>
  .op (.pick t54 t61 (.bool false)) fun t62 =>
  .op (.mv t62) fun t63 =>
  c3_r8_c5 e t63
theorem c3_r8_c4_run {CP : CProg} (e : Env) (t54 : Value) (t55 : Value) (t56 : Value) (h : Heap) (Q : Post) : RunR CP (c3_r8_c4 e t54 t55 t56) h Q ↔ RunR CP (
  .opg t54 true (.mv (e 7)) fun t57 =>
  .opg t54 true (.bin .mul t56 t57) fun t58 =>
  .snap fun h33 =>
  .opg t54 true (.call 14 [t55, t58]) fun t59 =>
  .opg t54 true (.mv (e 8)) fun t60 =>
  .opg t54 true (.bin .eql t59 t60) fun t61 =>
  .op (.pick t54 t61 (.bool false)) fun t62 =>
  .op (.mv t62) fun t63 =>
  c3_r8_c5 e t63) h Q := Iff.rfl
def c3_r8_c3 (e : Env) (t44 : Value) (t45 : Value) (t48 : Value) : Reg :=
  .opg t44 true (.call 14 [t45, t48]) fun t49 =>
  .opg t44 true (.mv (e 8)) fun t50 =>
  .opg t44 true (.bin .add t50 (.int .i64 1)) fun t51 =>
  .opg t44 true (.bin .eql t49 t51) fun t52 =>
  .op (.pick t44 t52 (.bool false)) fun t53 =>
  .op (.mv t53) fun t54 =>
  .opg t54 true (.mv (e 6)) fun t55 =>
  .opg t54 true (.mv (e 8)) fun t56 =>
  c3_r8_c4 e t54 t55 t56
theorem c3_r8_c3_run {CP : CProg} (e : Env) (t44 : Value) (t45 : Value) (t48 : Value) (h : Heap) (Q : Post) : RunR CP (c3_r8_c3 e t44 t45 t48) h Q ↔ RunR CP (
  .opg t44 true (.call 14 [t45, t48]) fun t49 =>
  .opg t44 true (.mv (e 8)) fun t50 =>
  .opg t44 true (.bin .add t50 (.int .i64 1)) fun t51 =>
  .opg t44 true (.bin .eql t49 t51) fun t52 =>
  .op (.pick t44 t52 (.bool false)) fun t53 =>
  .op (.mv t53) fun t54 =>
  .opg t54 true (.mv (e 6)) fun t55 =>
  .opg t54 true (.mv (e 8)) fun t56 =>
  c3_r8_c4 e t54 t55 t56) h Q := Iff.rfl
def c3_r8_c2 (e : Env) (t35 : Value) (t40 : Value) (t41 : Value) : Reg :=
  .opg t35 true (.bin .lss t40 t41) fun t42 =>
  .op (.pick t35 t42 (.bool false)) fun t43 =>
  .op (.mv t43) fun t44 =>
  .opg t44 true (.mv (e 6)) fun t45 =>
  .opg t44 true (.mv (e 1)) fun t46 =>
  .opg t44 true (.mv (e 7)) fun t47 =>
  .opg t44 true (.bin .add t46 t47) fun t48 =>
  .snap fun h23 =>
  c3_r8_c3 e t44 t45 t48
theorem c3_r8_c2_run {CP : CProg} (e : Env) (t35 : Value) (t40 : Value) (t41 : Value) (h : Heap) (Q : Post) : RunR CP (c3_r8_c2 e t35 t40 t41) h Q ↔ RunR CP (
  .opg t35 true (.bin .lss t40 t41) fun t42 =>
  .op (.pick t35 t42 (.bool false)) fun t43 =>
  .op (.mv t43) fun t44 =>
  .opg t44 true (.mv (e 6)) fun t45 =>
  .opg t44 true (.mv (e 1)) fun t46 =>
  .opg t44 true (.mv (e 7)) fun t47 =>
  .opg t44 true (.bin .add t46 t47) fun t48 =>
  .snap fun h23 =>
  c3_r8_c3 e t44 t45 t48) h Q := Iff.rfl
def c3_r8_c1 (e : Env) (t28 : Value) (t33 : Value) : Reg :=
  .op (.pick t28 t33 (.bool false)) fun t34 =>
  .op (.mv t34) fun t35 =>
  .opg t35 true (.mv (e 1)) fun t36 =>
  .opg t35 true (.mv (e 8)) fun t37 =>
  .opg t35 true (.mv (e 7)) fun t38 =>
  .opg t35 true (.bin .mul t37 t38) fun t39 =>
  .opg t35 true (.bin .sub t36 t39) fun t40 =>
  .opg t35 true (.mv (e 7)) fun t41 =>
  c3_r8_c2 e t35 t40 t41
theorem c3_r8_c1_run {CP : CProg} (e : Env) (t28 : Value) (t33 : Value) (h : Heap) (Q : Post) : RunR CP (c3_r8_c1 e t28 t33) h Q ↔ RunR CP (
  .op (.pick t28 t33 (.bool false)) fun t34 =>
  .op (.mv t34) fun t35 =>
  .opg t35 true (.mv (e 1)) fun t36 =>
  .opg t35 true (.mv (e 8)) fun t37 =>
  .opg t35 true (.mv (e 7)) fun t38 =>
  .opg t35 true (.bin .mul t37 t38) fun t39 =>
  .opg t35 true (.bin .sub t36 t39) fun t40 =>
  .opg t35 true (.mv (e 7)) fun t41 =>
  c3_r8_c2 e t35 t40 t41) h Q := Iff.rfl
def c3_r8 : Env → Reg := fun e =>
  .op (.mv (e 8)) fun t26 =>
  .op (.bin .geq t26 (.int .i64 0)) fun t27 =>
  .op (.mv t27) fun t28 =>
  .opg t28 true (.mv (e 8)) fun t29 =>
  .opg t28 true (.mv (e 7)) fun t30 =>
  .opg t28 true (.bin .mul t29 t30) fun t31 =>
  .opg t28 true (.mv (e 1)) fun t32 =>
  .opg t28 true (.bin .leq t31 t32) fun t33 =>
  c3_r8_c1 e t28 t33
theorem c3_r8_run {CP : CProg} (e : Env) (h : Heap) (Q : Post) : RunR CP (c3_r8 e) h Q ↔ RunR CP (
  .op (.mv (e 8)) fun t26 =>
  .op (.bin .geq t26 (.int .i64 0)) fun t27 =>
  .op (.mv t27) fun t28 =>
  .opg t28 true (.mv (e 8)) fun t29 =>
  .opg t28 true (.mv (e 7)) fun t30 =>
  .opg t28 true (.bin .mul t29 t30) fun t31 =>
  .opg t28 true (.mv (e 1)) fun t32 =>
  .opg t28 true (.bin .leq t31 t32) fun t33 =>
  c3_r8_c1 e t28 t33) h Q := Iff.rfl
def c3 : CFn := ⟨(.seq (.region c3_r0) (.seq (.seq (.region c3_r1) (.cond (fun e => e 10) (.seq (.region c3_r2) .ret) .skip)) (.seq (.region c3_r3) (.seq (.region c3_r4) (.seq (.region c3_r5) (.seq (.region c3_r6) (.seq (.region c3_r7) (.seq (.region c3_r8) .ret)))))))), [.t 4]⟩
def p3 : Pers := ⟨9, [10], 89⟩
-- 4: weighbridge/weighbridgelaw07.RingOver
def c4_r0 : Env → Reg := fun e =>
  .op (.box 23 (e 0)) fun t3 =>
  .op (.mv (.bool false)) fun t6 =>
  .done ((e.upd 3 t3).upd 6 t6)
theorem c4_r0_run {CP : CProg} (e : Env) (h : Heap) (Q : Post) : RunR CP (c4_r0 e) h Q ↔ RunR CP (
  .op (.box 23 (e 0)) fun t3 =>
  .op (.mv (.bool false)) fun t6 =>
  .done ((e.upd 3 t3).upd 6 t6)) h Q := Iff.rfl
def c4_r1 : Env → Reg := fun e =>
  .op (.call 10 []) fun t20 =>
  .op (.un .not t20) fun t21 =>
  .done (e.upd 21 t21)
theorem c4_r1_run {CP : CProg} (e : Env) (h : Heap) (Q : Post) : RunR CP (c4_r1 e) h Q ↔ RunR CP (
  .op (.call 10 []) fun t20 =>
  .op (.un .not t20) fun t21 =>
  .done (e.upd 21 t21)) h Q := Iff.rfl
def c4_r2 : Env → Reg := fun e =>
  .op (.mv (.bool false)) fun t6 =>
  .done (e.upd 6 t6)
theorem c4_r2_run {CP : CProg} (e : Env) (h : Heap) (Q : Post) : RunR CP (c4_r2 e) h Q ↔ RunR CP (
  .op (.mv (.bool false)) fun t6 =>
  .done (e.upd 6 t6)) h Q := Iff.rfl
def c4_r3 : Env → Reg := fun e =>
  .op (.mv (e 1)) fun t22 =>
  .op (.lenSl t22) fun t23 =>
  .op (.bin .gtr t23 (.int .i64 60)) fun t24 =>
  .op (.mv t24) fun t25 =>
  .opg t25 false (.mv (e 2)) fun t26 =>
  .opg t25 false (.call 16 [t26]) fun t27 =>
  .opg t25 false (.un .not t27) fun t28 =>
  .op (.pick t25 (.bool true) t28) fun t29 =>
  .done (e.upd 29 t29)
theorem c4_r3_run {CP : CProg} (e : Env) (h : Heap) (Q : Post) : RunR CP (c4_r3 e) h Q ↔ RunR CP (
  .op (.mv (e 1)) fun t22 =>
  .op (.lenSl t22) fun t23 =>
  .op (.bin .gtr t23 (.int .i64 60)) fun t24 =>
  .op (.mv t24) fun t25 =>
  .opg t25 false (.mv (e 2)) fun t26 =>
  .opg t25 false (.call 16 [t26]) fun t27 =>
  .opg t25 false (.un .not t27) fun t28 =>
  .op (.pick t25 (.bool true) t28) fun t29 =>
  .done (e.upd 29 t29)) h Q := Iff.rfl
def c4_r4 : Env → Reg := fun e =>
  .op (.mv (.bool true)) fun t6 =>
  .done (e.upd 6 t6)
theorem c4_r4_run {CP : CProg} (e : Env) (h : Heap) (Q : Post) : RunR CP (c4_r4 e) h Q ↔ RunR CP (
  .op (.mv (.bool true)) fun t6 =>
  .done (e.upd 6 t6)) h Q := Iff.rfl
def c4_r5 : Env → Reg := fun e =>
  .op (.load (some 5) (e 3)) fun t30 =>
  .op (.call 11 [t30]) fun t31 =>
  .op (.alloc 26 [(.int .i64 0), (.int .i64 0), (.int .i64 0), (.int .i64 0), (.int .i64 0), (.int .i64 0), (.int .i64 0), (.int .i64 0), (.bool false)]) fun t7 =>
  .op (.store 9 t7 t31) fun _ =>
  .done (e.upd 7 t7)
theorem c4_r5_run {CP : CProg} (e : Env) (h : Heap) (Q : Post) : RunR CP (c4_r5 e) h Q ↔ RunR CP (
  .op (.load (some 5) (e 3)) fun t30 =>
  .op (.call 11 [t30]) fun t31 =>
  .op (.alloc 26 [(.int .i64 0), (.int .i64 0), (.int .i64 0), (.int .i64 0), (.int .i64 0), (.int .i64 0), (.int .i64 0), (.int .i64 0), (.bool false)]) fun t7 =>
  .op (.store 9 t7 t31) fun _ =>
  .done (e.upd 7 t7)) h Q := Iff.rfl
def c4_r6 : Env → Reg := fun e =>
  .op (.load (some 9) (e 7)) fun t32 =>
  .op (.mv (e 1)) fun t33 =>
  .snap fun h2 =>
  .op (.call 13 [t33, (.int .i64 3)]) fun t34 =>
  .chk none none (.load (some 9) (e 7)) t32 <|
  .snap fun h3 =>
  .op (.call 12 [t32, t34]) fun t35 =>
  .op (.mv t35) fun t8 =>
  .done (e.upd 8 t8)
theorem c4_r6_run {CP : CProg} (e : Env) (h : Heap) (Q : Post) : RunR CP (c4_r6 e) h Q ↔ RunR CP (
  .op (.load (some 9) (e 7)) fun t32 =>
  .op (.mv (e 1)) fun t33 =>
  .snap fun h2 =>
  .op (.call 13 [t33, (.int .i64 3)]) fun t34 =>
  .chk none none (.load (some 9) (e 7)) t32 <|
  .snap fun h3 =>
  .op (.call 12 [t32, t34]) fun t35 =>
  .op (.mv t35) fun t8 =>
  .done (e.upd 8 t8)) h Q := Iff.rfl
def c4_r7 : Env → Reg := fun e =>
  .op (.mv (.int .i64 0)) fun t9 =>
  .done (e.upd 9 t9)
theorem c4_r7_run {CP : CProg} (e : Env) (h : Heap) (Q : Post) : RunR CP (c4_r7 e) h Q ↔ RunR CP (
  .op (.mv (.int .i64 0)) fun t9 =>
  .done (e.upd 9 t9)) h Q := Iff.rfl
def c4_r8 : Env → Reg := fun e =>
  .op (.mv (.slice none 0 0)) fun t10 =>
  .done (e.upd 10 t10)
theorem c4_r8_run {CP : CProg} (e : Env) (h : Heap) (Q : Post) : RunR CP (c4_r8 e) h Q ↔ RunR CP (
  .op (.mv (.slice none 0 0)) fun t10 =>
  .done (e.upd 10 t10)) h Q := Iff.rfl
def c4_r9 : Env → Reg := fun e =>
  .op (.mv (e 2)) fun t36 =>
  .op (.lenSl t36) fun t37 =>
  .op (.mv (.int .i64 0)) fun t38 =>
  .done (((e.upd 36 t36).upd 37 t37).upd 38 t38)
theorem c4_r9_run {CP : CProg} (e : Env) (h : Heap) (Q : Post) : RunR CP (c4_r9 e) h Q ↔ RunR CP (
  .op (.mv (e 2)) fun t36 =>
  .op (.lenSl t36) fun t37 =>
  .op (.mv (.int .i64 0)) fun t38 =>
  .done (((e.upd 36 t36).upd 37 t37).upd 38 t38)) h Q := Iff.rfl
def c4_r10 : Env → Reg := fun e =>
  .op (.bin .lss (e 38) (e 37)) fun t39 =>
  .done (e.upd 39 t39)
theorem c4_r10_run {CP : CProg} (e : Env) (h : Heap) (Q : Post) : RunR CP (c4_r10 e) h Q ↔ RunR CP (
  .op (.bin .lss (e 38) (e 37)) fun t39 =>
  .done (e.upd 39 t39)) h Q := Iff.rfl
def c4_r11 : Env → Reg := fun e =>
  .op (.indexSl 3 (e 36) (e 38)) fun t40 =>
  .op (.load (some 3) t40) fun t41 =>
  .op (.alloc 40 [(.int .i64 0), (.int .i64 0), (.string ⟨#[]⟩)]) fun t12 =>
  .op (.store 3 t12 t41) fun _ =>
  .done (e.upd 12 t12)
theorem c4_r11_run {CP : CProg} (e : Env) (h : Heap) (Q : Post) : RunR CP (c4_r11 e) h Q ↔ RunR CP (
  .op (.indexSl 3 (e 36) (e 38)) fun t40 =>
  .op (.load (some 3) t40) fun t41 =>
  .op (.alloc 40 [(.int .i64 0), (.int .i64 0), (.string ⟨#[]⟩)]) fun t12 =>
  .op (.store 3 t12 t41) fun _ =>
  .done (e.upd 12 t12)) h Q := Iff.rfl
def c4_r12 : Env → Reg := fun e =>
  .op (.mv (e 9)) fun t42 =>
  .op (.fieldAddr 0 (e 12)) fun t43 =>
  .op (.load none t43) fun t44 =>
  .op (.call 17 [t44]) fun t45 =>
  .op (.bin .add t42 t45) fun t46 =>
  .op (.mv t46) fun t9 =>
  .done (e.upd 9 t9)
theorem c4_r12_run {CP : CProg} (e : Env) (h : Heap) (Q : Post) : RunR CP (c4_r12 e) h Q ↔ RunR CP (
  .op (.mv (e 9)) fun t42 =>
  .op (.fieldAddr 0 (e 12)) fun t43 =>
  .op (.load none t43) fun t44 =>
  .op (.call 17 [t44]) fun t45 =>
  .op (.bin .add t42 t45) fun t46 =>
  .op (.mv t46) fun t9 =>
  .done (e.upd 9 t9)) h Q := Iff.rfl
def c4_r13 : Env → Reg := fun e =>
  .op (.fieldAddr 1 (e 12)) fun t47 =>
  .op (.load none t47) fun t48 =>
  .op (.bin .and t48 (.int .i64 255)) fun t49 =>
  .op (.mv t49) fun t13 =>
  .done (e.upd 13 t13)
theorem c4_r13_run {CP : CProg} (e : Env) (h : Heap) (Q : Post) : RunR CP (c4_r13 e) h Q ↔ RunR CP (
  .op (.fieldAddr 1 (e 12)) fun t47 =>
  .op (.load none t47) fun t48 =>
  .op (.bin .and t48 (.int .i64 255)) fun t49 =>
  .op (.mv t49) fun t13 =>
  .done (e.upd 13 t13)) h Q := Iff.rfl
def c4_r14 : Env → Reg := fun e =>
  .op (.mv (e 8)) fun t50 =>
  .op (.mv (e 9)) fun t51 =>
  .op (.call 18 [t50, t51]) fun t52 =>
  .done e
theorem c4_r14_run {CP : CProg} (e : Env) (h : Heap) (Q : Post) : RunR CP (c4_r14 e) h Q ↔ RunR CP (
  .op (.mv (e 8)) fun t50 =>
  .op (.mv (e 9)) fun t51 =>
  .op (.call 18 [t50, t51]) fun t52 =>
  .done e) h Q := Iff.rfl
def c4_r15 : Env → Reg := fun e =>
  .op (.mv (e 8)) fun t53 =>
  .op (.fieldAddr 2 (e 12)) fun t54 =>
  .op (.load none t54) fun t55 =>
  .op (.mv (e 13)) fun t56 =>
  .op (.call 19 [t53, t55, t56]) fun t57 =>
  .done e
theorem c4_r15_run {CP : CProg} (e : Env) (h : Heap) (Q : Post) : RunR CP (c4_r15 e) h Q ↔ RunR CP (
  .op (.mv (e 8)) fun t53 =>
  .op (.fieldAddr 2 (e 12)) fun t54 =>
  .op (.load none t54) fun t55 =>
  .op (.mv (e 13)) fun t56 =>
  .op (.call 19 [t53, t55, t56]) fun t57 =>
  .done e) h Q := Iff.rfl
def c4_r16 : Env → Reg := fun e =>
  .op (.mv (e 10)) fun t58 =>
  .op (.mv (e 9)) fun t59 =>
  .op (.mv (e 13)) fun t60 =>
  .op (.fieldAddr 2 (e 12)) fun t61 =>
  .op (.load none t61) fun t62 =>
  .op (.build [(.int .i64 0), (.int .i64 0), (.string ⟨#[]⟩)] [(0, 1, t59), (1, 1, t60), (2, 1, t62)]) fun t63 =>
  .op (.buildSlice 44 1 [(.int .i64 0), (.int .i64 0), (.string ⟨#[]⟩)] [(0, 3, t63)]) fun t64 =>
  .op (.append 44 3 32 t58 t64) fun t65 =>
  .op (.mv t65) fun t10 =>
  .done (e.upd 10 t10)
theorem c4_r16_run {CP : CProg} (e : Env) (h : Heap) (Q : Post) : RunR CP (c4_r16 e) h Q ↔ RunR CP (
  .op (.mv (e 10)) fun t58 =>
  .op (.mv (e 9)) fun t59 =>
  .op (.mv (e 13)) fun t60 =>
  .op (.fieldAddr 2 (e 12)) fun t61 =>
  .op (.load none t61) fun t62 =>
  .op (.build [(.int .i64 0), (.int .i64 0), (.string ⟨#[]⟩)] [(0, 1, t59), (1, 1, t60), (2, 1, t62)]) fun t63 =>
  .op (.buildSlice 44 1 [(.int .i64 0), (.int .i64 0), (.string ⟨#[]⟩)] [(0, 3, t63)]) fun t64 =>
  .op (.append 44 3 32 t58 t64) fun t65 =>
  .op (.mv t65) fun t10 =>
  .done (e.upd 10 t10)) h Q := Iff.rfl
def c4_r17 : Env → Reg := fun e =>
  .op (.fieldAddr 1 (e 7)) fun t66 =>
  .op (.load none t66) fun t67 =>
  .op (.mv t67) fun t14 =>
  .done (e.upd 14 t14)
theorem c4_r17_run {CP : CProg} (e : Env) (h : Heap) (Q : Post) : RunR CP (c4_r17 e) h Q ↔ RunR CP (
  .op (.fieldAddr 1 (e 7)) fun t66 =>
  .op (.load none t66) fun t67 =>
  .op (.mv t67) fun t14 =>
  .done (e.upd 14 t14)) h Q := Iff.rfl
def c4_r18 : Env → Reg := fun e =>
  .op (.fieldAddr 8 (e 7)) fun t68 =>
  .op (.load none t68) fun t69 =>
  .done (e.upd 69 t69)
theorem c4_r18_run {CP : CProg} (e : Env) (h : Heap) (Q : Post) : RunR CP (c4_r18 e) h Q ↔ RunR CP (
  .op (.fieldAddr 8 (e 7)) fun t68 =>
  .op (.load none t68) fun t69 =>
  .done (e.upd 69 t69)) h Q := Iff.rfl
def c4_r19 : Env → Reg := fun e =>
  .op (.mv (e 14)) fun t70 =>
  .op (.fieldAddr 1 (e 7)) fun t71 =>
  .op (.load none t71) fun t72 =>
  .op (.fieldAddr 3 (e 7)) fun t73 =>
  .op (.load none t73) fun t74 =>
  .op (.bin .quo t72 t74) fun t75 =>
  .op (.bin .sub t70 t75) fun t76 =>
  .op (.mv t76) fun t14 =>
  .done (e.upd 14 t14)
theorem c4_r19_run {CP : CProg} (e : Env) (h : Heap) (Q : Post) : RunR CP (c4_r19 e) h Q ↔ RunR CP (
  .op (.mv (e 14)) fun t70 =>
  .op (.fieldAddr 1 (e 7)) fun t71 =>
  .op (.load none t71) fun t72 =>
  .op (.fieldAddr 3 (e 7)) fun t73 =>
  .op (.load none t73) fun t74 =>
  .op (.bin .quo t72 t74) fun t75 =>
  .op (.bin .sub t70 t75) fun t76 =>
  .op (.mv t76) fun t14 =>
  .done (e.upd 14 t14)) h Q := Iff.rfl
def c4_r20 : Env → Reg := fun e =>
  .op (.mv (.int .i64 0)) fun t15 =>
  .done (e.upd 15 t15)
theorem c4_r20_run {CP : CProg} (e : Env) (h : Heap) (Q : Post) : RunR CP (c4_r20 e) h Q ↔ RunR CP (
  .op (.mv (.int .i64 0)) fun t15 =>
  .done (e.upd 15 t15)) h Q := Iff.rfl
def c4_r21 : Env → Reg := fun e =>
  .op (.mv (e 10)) fun t77 =>
  .op (.lenSl t77) fun t78 =>
  .op (.mv (.int .i64 0)) fun t79 =>
  .done (((e.upd 77 t77).upd 78 t78).upd 79 t79)
theorem c4_r21_run {CP : CProg} (e : Env) (h : Heap) (Q : Post) : RunR CP (c4_r21 e) h Q ↔ RunR CP (
  .op (.mv (e 10)) fun t77 =>
  .op (.lenSl t77) fun t78 =>
  .op (.mv (.int .i64 0)) fun t79 =>
  .done (((e.upd 77 t77).upd 78 t78).upd 79 t79)) h Q := Iff.rfl
def c4_r22 : Env → Reg := fun e =>
  .op (.bin .lss (e 79) (e 78)) fun t80 =>
  .done (e.upd 80 t80)
theorem c4_r22_run {CP : CProg} (e : Env) (h : Heap) (Q : Post) : RunR CP (c4_r22 e) h Q ↔ RunR CP (
  .op (.bin .lss (e 79) (e 78)) fun t80 =>
  .done (e.upd 80 t80)) h Q := Iff.rfl
def c4_r23 : Env → Reg := fun e =>
  .op (.indexSl 3 (e 77) (e 79)) fun t81 =>
  .op (.load (some 3) t81) fun t82 =>
  .op (.alloc 44 [(.int .i64 0), (.int .i64 0), (.string ⟨#[]⟩)]) fun t17 =>
  .op (.store 3 t17 t82) fun _ =>
  .done (e.upd 17 t17)
theorem c4_r23_run {CP : CProg} (e : Env) (h : Heap) (Q : Post) : RunR CP (c4_r23 e) h Q ↔ RunR CP (
  .op (.indexSl 3 (e 77) (e 79)) fun t81 =>
  .op (.load (some 3) t81) fun t82 =>
  .op (.alloc 44 [(.int .i64 0), (.int .i64 0), (.string ⟨#[]⟩)]) fun t17 =>
  .op (.store 3 t17 t82) fun _ =>
  .done (e.upd 17 t17)) h Q := Iff.rfl
def c4_r24_c1 (e : Env) (t88 : Value) (t90 : Value) : Reg :=
  .opg t88 true (.mv (e 9)) fun t91 =>
  .opg t88 true (.mv (e 14)) fun t92 =>
  .opg t88 true (.bin .sub t91 t92) fun t93 =>
  .opg t88 true (.bin .gtr t90 t93) fun t94 =>
  .op (.pick t88 t94 (.bool false)) fun t95 =>
  .done (e.upd 95 t95)
theorem c4_r24_c1_run {CP : CProg} (e : Env) (t88 : Value) (t90 : Value) (h : Heap) (Q : Post) : RunR CP (c4_r24_c1 e t88 t90) h Q ↔ RunR CP (
  .opg t88 true (.mv (e 9)) fun t91 =>
  .opg t88 true (.mv (e 14)) fun t92 =>
  .opg t88 true (.bin .sub t91 t92) fun t93 =>
  .opg t88 true (.bin .gtr t90 t93) fun t94 =>
  .op (.pick t88 t94 (.bool false)) fun t95 =>
  .done (e.upd 95 t95)) h Q := Iff.rfl
def c4_r24 : Env → Reg := fun e =>
  .op (.fieldAddr 2 (e 17)) fun t83 =>
  .op (.load none t83) fun t84 =>
  .op (.fieldAddr 2 (e 12)) fun t85 =>
  .op (.load none t85) fun t86 =>
  .op (.bin .eql t84 t86) fun t87 =>
  .op (.mv t87) fun t88 =>
  .opg t88 true (.fieldAddr 0 (e 17)) fun t89 =>
  .opg t88 true (.load none t89) fun t90 =>
  c4_r24_c1 e t88 t90
theorem c4_r24_run {CP : CProg} (e : Env) (h : Heap) (Q : Post) : RunR CP (c4_r24 e) h Q ↔ RunR CP (
  .op (.fieldAddr 2 (e 17)) fun t83 =>
  .op (.load none t83) fun t84 =>
  .op (.fieldAddr 2 (e 12)) fun t85 =>
  .op (.load none t85) fun t86 =>
  .op (.bin .eql t84 t86) fun t87 =>
  .op (.mv t87) fun t88 =>
  .opg t88 true (.fieldAddr 0 (e 17)) fun t89 =>
  .opg t88 true (.load none t89) fun t90 =>
  c4_r24_c1 e t88 t90) h Q := Iff.rfl
def c4_r25 : Env → Reg := fun e =>
  .op (.mv (e 15)) fun t96 =>
  .op (.fieldAddr 1 (e 17)) fun t97 =>
  .op (.load none t97) fun t98 =>
  .op (.bin .add t96 t98) fun t99 =>
  .op (.mv t99) fun t15 =>
  .done (e.upd 15 t15)
theorem c4_r25_run {CP : CProg} (e : Env) (h : Heap) (Q : Post) : RunR CP (c4_r25 e) h Q ↔ RunR CP (
  .op (.mv (e 15)) fun t96 =>
  .op (.fieldAddr 1 (e 17)) fun t97 =>
  .op (.load none t97) fun t98 =>
  .op (.bin .add t96 t98) fun t99 =>
  .op (.mv t99) fun t15 =>
  .done (e.upd 15 t15)) h Q := Iff.rfl
def c4_r26 : Env → Reg := fun e =>
  .op (.bin .add (e 79) (.int .i64 1)) fun t100 =>
  .op (.mv t100) fun t79 =>
  .done (e.upd 79 t79)
theorem c4_r26_run {CP : CProg} (e : Env) (h : Heap) (Q : Post) : RunR CP (c4_r26 e) h Q ↔ RunR CP (
  .op (.bin .add (e 79) (.int .i64 1)) fun t100 =>
  .op (.mv t100) fun t79 =>
  .done (e.upd 79 t79)) h Q := Iff.rfl
def c4_l0 : CC := (.seq (.region c4_r22) (.seq (.cond (fun e => e 80) .skip (.exit 2)) (.seq (.block 3 (.seq (.region c4_r23) (.seq (.region c4_r24) (.cond (fun e => e 95) (.region c4_r25) .skip)))) (.region c4_r26))))
def c4_r27 : Env → Reg := fun e =>
  .op (.mv (e 8)) fun t101 =>
  .op (.fieldAddr 2 (e 12)) fun t102 =>
  .op (.load none t102) fun t103 =>
  .op (.call 20 [t101, t103]) fun t104 =>
  .op (.mv t104) fun t18 =>
  .done (e.upd 18 t18)
theorem c4_r27_run {CP : CProg} (e : Env) (h : Heap) (Q : Post) : RunR CP (c4_r27 e) h Q ↔ RunR CP (
  .op (.mv (e 8)) fun t101 =>
  .op (.fieldAddr 2 (e 12)) fun t102 =>
  .op (.load none t102) fun t103 =>
  .op (.call 20 [t101, t103]) fun t104 =>
  .op (.mv t104) fun t18 =>
  .done (e.upd 18 t18)) h Q := Iff.rfl
def c4_r28 : Env → Reg := fun e =>
  .op (.mv (e 18)) fun t105 =>
  .op (.mv (e 15)) fun t106 =>
  .op (.bin .lss t105 t106) fun t107 =>
  .done (e.upd 107 t107)
theorem c4_r28_run {CP : CProg} (e : Env) (h : Heap) (Q : Post) : RunR CP (c4_r28 e) h Q ↔ RunR CP (
  .op (.mv (e 18)) fun t105 =>
  .op (.mv (e 15)) fun t106 =>
  .op (.bin .lss t105 t106) fun t107 =>
  .done (e.upd 107 t107)) h Q := Iff.rfl
def c4_r29 : Env → Reg := fun e =>
  .op (.mv (.bool false)) fun t6 =>
  .done (e.upd 6 t6)
theorem c4_r29_run {CP : CProg} (e : Env) (h : Heap) (Q : Post) : RunR CP (c4_r29 e) h Q ↔ RunR CP (
  .op (.mv (.bool false)) fun t6 =>
  .done (e.upd 6 t6)) h Q := Iff.rfl
def c4_r30 : Env → Reg := fun e =>
  .op (.mv (.int .i64 0)) fun t108 =>
  .done (e.upd 108 t108)
theorem c4_r30_run {CP : CProg} (e : Env) (h : Heap) (Q : Post) : RunR CP (c4_r30 e) h Q ↔ RunR CP (
  .op (.mv (.int .i64 0)) fun t108 =>
  .done (e.upd 108 t108)) h Q := Iff.rfl
def c4_r31 : Env → Reg := fun e =>
  .op (.bin .lss (e 108) (.int .i64 3)) fun t109 =>
  .done (e.upd 109 t109)
theorem c4_r31_run {CP : CProg} (e : Env) (h : Heap) (Q : Post) : RunR CP (c4_r31 e) h Q ↔ RunR CP (
  .op (.bin .lss (e 108) (.int .i64 3)) fun t109 =>
  .done (e.upd 109 t109)) h Q := Iff.rfl
def c4_r32 : Env → Reg := fun e =>
  .op (.mv (e 108)) fun t110 =>
  .op (.mv t110) fun t19 =>
  .done (e.upd 19 t19)
theorem c4_r32_run {CP : CProg} (e : Env) (h : Heap) (Q : Post) : RunR CP (c4_r32 e) h Q ↔ RunR CP (
  .op (.mv (e 108)) fun t110 =>
  .op (.mv t110) fun t19 =>
  .done (e.upd 19 t19)) h Q := Iff.rfl
def c4_r33 : Env → Reg := fun e =>
  .op (.mv (e 8)) fun t111 =>
  .op (.mv (e 19)) fun t112 =>
  .op (.fieldAddr 2 (e 12)) fun t113 =>
  .op (.load none t113) fun t114 =>
  .op (.call 21 [t111, t112, t114]) fun t115 =>
  .op (.mv (e 18)) fun t116 =>
  .op (.bin .lss t115 t116) fun t117 =>
  .done (e.upd 117 t117)
theorem c4_r33_run {CP : CProg} (e : Env) (h : Heap) (Q : Post) : RunR CP (c4_r33 e) h Q ↔ RunR CP (
  .op (.mv (e 8)) fun t111 =>
  .op (.mv (e 19)) fun t112 =>
  .op (.fieldAddr 2 (e 12)) fun t113 =>
  .op (.load none t113) fun t114 =>
  .op (.call 21 [t111, t112, t114]) fun t115 =>
  .op (.mv (e 18)) fun t116 =>
  .op (.bin .lss t115 t116) fun t117 =>
  .done (e.upd 117 t117)) h Q := Iff.rfl
def c4_r34 : Env → Reg := fun e =>
  .op (.mv (.bool false)) fun t6 =>
  .done (e.upd 6 t6)
theorem c4_r34_run {CP : CProg} (e : Env) (h : Heap) (Q : Post) : RunR CP (c4_r34 e) h Q ↔ RunR CP (
  .op (.mv (.bool false)) fun t6 =>
  .done (e.upd 6 t6)) h Q := Iff.rfl
def c4_r35 : Env → Reg := fun e =>
  .op (.bin .add (e 108) (.int .i64 1)) fun t118 =>
  .op (.mv t118) fun t108 =>
  .done (e.upd 108 t108)
theorem c4_r35_run {CP : CProg} (e : Env) (h : Heap) (Q : Post) : RunR CP (c4_r35 e) h Q ↔ RunR CP (
  .op (.bin .add (e 108) (.int .i64 1)) fun t118 =>
  .op (.mv t118) fun t108 =>
  .done (e.upd 108 t108)) h Q := Iff.rfl
def c4_l1 : CC := (.seq (.region c4_r31) (.seq (.cond (fun e => e 109) .skip (.exit 4)) (.seq (.block 5 (.seq (.region c4_r32) (.seq (.region c4_r33) (.cond (fun e => e 117) (.seq (.region c4_r34) .ret) .skip)))) (.region c4_r35))))
def c4_r36 : Env → Reg := fun e =>
  .op (.bin .add (e 38) (.int .i64 1)) fun t119 =>
  .op (.mv t119) fun t38 =>
  .done (e.upd 38 t38)
theorem c4_r36_run {CP : CProg} (e : Env) (h : Heap) (Q : Post) : RunR CP (c4_r36 e) h Q ↔ RunR CP (
  .op (.bin .add (e 38) (.int .i64 1)) fun t119 =>
  .op (.mv t119) fun t38 =>
  .done (e.upd 38 t38)) h Q := Iff.rfl
def c4_l2 : CC := (.seq (.region c4_r10) (.seq (.cond (fun e => e 39) .skip (.exit 0)) (.seq (.block 1 (.seq (.region c4_r11) (.seq (.region c4_r12) (.seq (.region c4_r13) (.seq (.region c4_r14) (.seq (.region c4_r15) (.seq (.region c4_r16) (.seq (.region c4_r17) (.seq (.seq (.region c4_r18) (.cond (fun e => e 69) (.region c4_r19) .skip)) (.seq (.region c4_r20) (.seq (.seq (.region c4_r21) (.block 2 (.loop c4_l0))) (.seq (.region c4_r27) (.seq (.seq (.region c4_r28) (.cond (fun e => e 107) (.seq (.region c4_r29) .ret) .skip)) (.seq (.region c4_r30) (.block 4 (.loop c4_l1)))))))))))))))) (.region c4_r36))))
def c4_r37_c1 (e : Env) (h2 : Heap) (t122 : Value) (t123 : Value) (t125 : Value) : Reg :=
  .op (.fieldAddr 3 (e 7)) fun t126 =>
  .op (.load none t126) fun t127 =>
  .chk none (some h2) (.load none t126) t127 <|
  .op (.bin .quo t125 t127) fun t128 =>
  .op (.bin .quo t123 t128) fun t129 =>
  .op (.bin .eql t122 t129) fun t130 =>
  .op (.mv t130) fun t6 =>
  .done (e.upd 6 t6)
theorem c4_r37_c1_run {CP : CProg} (e : Env) (h2 : Heap) (t122 : Value) (t123 : Value) (t125 : Value) (h : Heap) (Q : Post) : RunR CP (c4_r37_c1 e h2 t122 t123 t125) h Q ↔ RunR CP (
  .op (.fieldAddr 3 (e 7)) fun t126 =>
  .op (.load none t126) fun t127 =>
  .chk none (some h2) (.load none t126) t127 <|
  .op (.bin .quo t125 t127) fun t128 =>
  .op (.bin .quo t123 t128) fun t129 =>
  .op (.bin .eql t122 t129) fun t130 =>
  .op (.mv t130) fun t6 =>
  .done (e.upd 6 t6)) h Q := Iff.rfl
def c4_r37 : Env → Reg := fun e =>
  .op (.mv (e 8)) fun t120 =>
  .op (.mv (e 9)) fun t121 =>
  .snap fun h2 =>
  .op (.call 14 [t120, t121]) fun t122 =>
  .op (.mv (e 9)) fun t123 =>
  .op (.fieldAddr 1 (e 7)) fun t124 =>
  .op (.load none t124) fun t125 =>
  .chk none (some h2) (.load none t124) t125 <|
  c4_r37_c1 e h2 t122 t123 t125
theorem c4_r37_run {CP : CProg} (e : Env) (h : Heap) (Q : Post) : RunR CP (c4_r37 e) h Q ↔ RunR CP (
  .op (.mv (e 8)) fun t120 =>
  .op (.mv (e 9)) fun t121 =>
  .snap fun h2 =>
  .op (.call 14 [t120, t121]) fun t122 =>
  .op (.mv (e 9)) fun t123 =>
  .op (.fieldAddr 1 (e 7)) fun t124 =>
  .op (.load none t124) fun t125 =>
  .chk none (some h2) (.load none t124) t125 <|
  c4_r37_c1 e h2 t122 t123 t125) h Q := Iff.rfl
def c4 : CFn := ⟨(.seq (.region c4_r0) (.seq (.seq (.region c4_r1) (.cond (fun e => e 21) (.seq (.region c4_r2) .ret) .skip)) (.seq (.seq (.region c4_r3) (.cond (fun e => e 29) (.seq (.region c4_r4) .ret) .skip)) (.seq (.region c4_r5) (.seq (.region c4_r6) (.seq (.region c4_r7) (.seq (.region c4_r8) (.seq (.seq (.region c4_r9) (.block 0 (.loop c4_l2))) (.seq (.region c4_r37) .ret))))))))), [.t 6]⟩
def p4 : Pers := ⟨20, [21, 29, 36, 37, 38, 39, 69, 77, 78, 79, 80, 95, 107, 108, 109, 117], 131⟩
-- 5: weighbridge/weighbridgelaw07.RingExact
def c5_r0 : Env → Reg := fun e =>
  .op (.box 23 (e 0)) fun t3 =>
  .op (.mv (.bool false)) fun t6 =>
  .done ((e.upd 3 t3).upd 6 t6)
theorem c5_r0_run {CP : CProg} (e : Env) (h : Heap) (Q : Post) : RunR CP (c5_r0 e) h Q ↔ RunR CP (
  .op (.box 23 (e 0)) fun t3 =>
  .op (.mv (.bool false)) fun t6 =>
  .done ((e.upd 3 t3).upd 6 t6)) h Q := Iff.rfl
def c5_r1 : Env → Reg := fun e =>
  .op (.call 10 []) fun t18 =>
  .op (.un .not t18) fun t19 =>
  .done (e.upd 19 t19)
theorem c5_r1_run {CP : CProg} (e : Env) (h : Heap) (Q : Post) : RunR CP (c5_r1 e) h Q ↔ RunR CP (
  .op (.call 10 []) fun t18 =>
  .op (.un .not t18) fun t19 =>
  .done (e.upd 19 t19)) h Q := Iff.rfl
def c5_r2 : Env → Reg := fun e =>
  .op (.mv (.bool false)) fun t6 =>
  .done (e.upd 6 t6)
theorem c5_r2_run {CP : CProg} (e : Env) (h : Heap) (Q : Post) : RunR CP (c5_r2 e) h Q ↔ RunR CP (
  .op (.mv (.bool false)) fun t6 =>
  .done (e.upd 6 t6)) h Q := Iff.rfl
def c5_r3 : Env → Reg := fun e =>
  .op (.mv (e 1)) fun t20 =>
  .op (.call 16 [t20]) fun t21 =>
  .op (.un .not t21) fun t22 =>
  .done (e.upd 22 t22)
theorem c5_r3_run {CP : CProg} (e : Env) (h : Heap) (Q : Post) : RunR CP (c5_r3 e) h Q ↔ RunR CP (
  .op (.mv (e 1)) fun t20 =>
  .op (.call 16 [t20]) fun t21 =>
  .op (.un .not t21) fun t22 =>
  .done (e.upd 22 t22)) h Q := Iff.rfl
def c5_r4 : Env → Reg := fun e =>
  .op (.mv (.bool true)) fun t6 =>
  .done (e.upd 6 t6)
theorem c5_r4_run {CP : CProg} (e : Env) (h : Heap) (Q : Post) : RunR CP (c5_r4 e) h Q ↔ RunR CP (
  .op (.mv (.bool true)) fun t6 =>
  .done (e.upd 6 t6)) h Q := Iff.rfl
def c5_r5 : Env → Reg := fun e =>
  .op (.load (some 5) (e 3)) fun t23 =>
  .op (.call 11 [t23]) fun t24 =>
  .op (.alloc 26 [(.int .i64 0), (.int .i64 0), (.int .i64 0), (.int .i64 0), (.int .i64 0), (.int .i64 0), (.int .i64 0), (.int .i64 0), (.bool false)]) fun t7 =>
  .op (.store 9 t7 t24) fun _ =>
  .done (e.upd 7 t7)
theorem c5_r5_run {CP : CProg} (e : Env) (h : Heap) (Q : Post) : RunR CP (c5_r5 e) h Q ↔ RunR CP (
  .op (.load (some 5) (e 3)) fun t23 =>
  .op (.call 11 [t23]) fun t24 =>
  .op (.alloc 26 [(.int .i64 0), (.int .i64 0), (.int .i64 0), (.int .i64 0), (.int .i64 0), (.int .i64 0), (.int .i64 0), (.int .i64 0), (.bool false)]) fun t7 =>
  .op (.store 9 t7 t24) fun _ =>
  .done (e.upd 7 t7)) h Q := Iff.rfl
def c5_r6 : Env → Reg := fun e =>
  .op (.load (some 9) (e 7)) fun t25 =>
  .snap fun h1 =>
  .op (.call 13 [(.slice none 0 0), (.int .i64 2)]) fun t26 =>
  .chk none none (.load (some 9) (e 7)) t25 <|
  .snap fun h2 =>
  .op (.call 12 [t25, t26]) fun t27 =>
  .op (.mv t27) fun t8 =>
  .done (e.upd 8 t8)
theorem c5_r6_run {CP : CProg} (e : Env) (h : Heap) (Q : Post) : RunR CP (c5_r6 e) h Q ↔ RunR CP (
  .op (.load (some 9) (e 7)) fun t25 =>
  .snap fun h1 =>
  .op (.call 13 [(.slice none 0 0), (.int .i64 2)]) fun t26 =>
  .chk none none (.load (some 9) (e 7)) t25 <|
  .snap fun h2 =>
  .op (.call 12 [t25, t26]) fun t27 =>
  .op (.mv t27) fun t8 =>
  .done (e.upd 8 t8)) h Q := Iff.rfl
def c5_r7 : Env → Reg := fun e =>
  .op (.fieldAddr 1 (e 7)) fun t28 =>
  .op (.load none t28) fun t29 =>
  .op (.fieldAddr 3 (e 7)) fun t30 =>
  .op (.load none t30) fun t31 =>
  .op (.bin .quo t29 t31) fun t32 =>
  .op (.mv t32) fun t9 =>
  .done (e.upd 9 t9)
theorem c5_r7_run {CP : CProg} (e : Env) (h : Heap) (Q : Post) : RunR CP (c5_r7 e) h Q ↔ RunR CP (
  .op (.fieldAddr 1 (e 7)) fun t28 =>
  .op (.load none t28) fun t29 =>
  .op (.fieldAddr 3 (e 7)) fun t30 =>
  .op (.load none t30) fun t31 =>
  .op (.bin .quo t29 t31) fun t32 =>
  .op (.mv t32) fun t9 =>
  .done (e.upd 9 t9)) h Q := Iff.rfl
def c5_r8 : Env → Reg := fun e =>
  .op (.makeMap) fun t33 =>
  .op (.mv t33) fun t10 =>
  .done (e.upd 10 t10)
theorem c5_r8_run {CP : CProg} (e : Env) (h : Heap) (Q : Post) : RunR CP (c5_r8 e) h Q ↔ RunR CP (
  .op (.makeMap) fun t33 =>
  .op (.mv t33) fun t10 =>
  .done (e.upd 10 t10)) h Q := Iff.rfl
def c5_r9 : Env → Reg := fun e =>
  .op (.mv (.int .i64 0)) fun t11 =>
  .done (e.upd 11 t11)
theorem c5_r9_run {CP : CProg} (e : Env) (h : Heap) (Q : Post) : RunR CP (c5_r9 e) h Q ↔ RunR CP (
  .op (.mv (.int .i64 0)) fun t11 =>
  .done (e.upd 11 t11)) h Q := Iff.rfl
def c5_r10 : Env → Reg := fun e =>
  .op (.mv (e 1)) fun t34 =>
  .op (.lenSl t34) fun t35 =>
  .op (.mv (.int .i64 0)) fun t36 =>
  .done (((e.upd 34 t34).upd 35 t35).upd 36 t36)
theorem c5_r10_run {CP : CProg} (e : Env) (h : Heap) (Q : Post) : RunR CP (c5_r10 e) h Q ↔ RunR CP (
  .op (.mv (e 1)) fun t34 =>
  .op (.lenSl t34) fun t35 =>
  .op (.mv (.int .i64 0)) fun t36 =>
  .done (((e.upd 34 t34).upd 35 t35).upd 36 t36)) h Q := Iff.rfl
def c5_r11 : Env → Reg := fun e =>
  .op (.bin .lss (e 36) (e 35)) fun t37 =>
  .done (e.upd 37 t37)
theorem c5_r11_run {CP : CProg} (e : Env) (h : Heap) (Q : Post) : RunR CP (c5_r11 e) h Q ↔ RunR CP (
  .op (.bin .lss (e 36) (e 35)) fun t37 =>
  .done (e.upd 37 t37)) h Q := Iff.rfl
def c5_r12 : Env → Reg := fun e =>
  .op (.indexSl 3 (e 34) (e 36)) fun t38 =>
  .op (.load (some 3) t38) fun t39 =>
  .op (.alloc 40 [(.int .i64 0), (.int .i64 0), (.string ⟨#[]⟩)]) fun t13 =>
  .op (.store 3 t13 t39) fun _ =>
  .done (e.upd 13 t13)
theorem c5_r12_run {CP : CProg} (e : Env) (h : Heap) (Q : Post) : RunR CP (c5_r12 e) h Q ↔ RunR CP (
  .op (.indexSl 3 (e 34) (e 36)) fun t38 =>
  .op (.load (some 3) t38) fun t39 =>
  .op (.alloc 40 [(.int .i64 0), (.int .i64 0), (.string ⟨#[]⟩)]) fun t13 =>
  .op (.store 3 t13 t39) fun _ =>
  .done (e.upd 13 t13)) h Q := Iff.rfl
def c5_r13 : Env → Reg := fun e =>
  .op (.mv (e 11)) fun t40 =>
  .op (.fieldAddr 0 (e 13)) fun t41 =>
  .op (.load none t41) fun t42 =>
  .op (.call 17 [t42]) fun t43 =>
  .op (.bin .add t40 t43) fun t44 =>
  .op (.mv t44) fun t11 =>
  .done (e.upd 11 t11)
theorem c5_r13_run {CP : CProg} (e : Env) (h : Heap) (Q : Post) : RunR CP (c5_r13 e) h Q ↔ RunR CP (
  .op (.mv (e 11)) fun t40 =>
  .op (.fieldAddr 0 (e 13)) fun t41 =>
  .op (.load none t41) fun t42 =>
  .op (.call 17 [t42]) fun t43 =>
  .op (.bin .add t40 t43) fun t44 =>
  .op (.mv t44) fun t11 =>
  .done (e.upd 11 t11)) h Q := Iff.rfl
def c5_r14 : Env → Reg := fun e =>
  .op (.mv (e 8)) fun t45 =>
  .op (.mv (e 11)) fun t46 =>
  .op (.call 18 [t45, t46]) fun t47 =>
  .done e
theorem c5_r14_run {CP : CProg} (e : Env) (h : Heap) (Q : Post) : RunR CP (c5_r14 e) h Q ↔ RunR CP (
  .op (.mv (e 8)) fun t45 =>
  .op (.mv (e 11)) fun t46 =>
  .op (.call 18 [t45, t46]) fun t47 =>
  .done e) h Q := Iff.rfl
def c5_r15 : Env → Reg := fun e =>
  .op (.mv (e 8)) fun t48 =>
  .op (.fieldAddr 1 (e 13)) fun t49 =>
  .op (.load none t49) fun t50 =>
  .op (.bin .and t50 (.int .i64 255)) fun t51 =>
  .op (.call 19 [t48, (.string ⟨#[107]⟩), t51]) fun t52 =>
  .done e
theorem c5_r15_run {CP : CProg} (e : Env) (h : Heap) (Q : Post) : RunR CP (c5_r15 e) h Q ↔ RunR CP (
  .op (.mv (e 8)) fun t48 =>
  .op (.fieldAddr 1 (e 13)) fun t49 =>
  .op (.load none t49) fun t50 =>
  .op (.bin .and t50 (.int .i64 255)) fun t51 =>
  .op (.call 19 [t48, (.string ⟨#[107]⟩), t51]) fun t52 =>
  .done e) h Q := Iff.rfl
def c5_r16_c1 (e : Env) (t53 : Value) (t56 : Value) (t57 : Value) (t60 : Value) : Reg :=
  .op (.bin .add t57 t60) fun t61 =>
  .snap fun h9 =>
  .op (.mapUpdate (.one .int) t53 t56 t61) fun _ =>
  .done e
theorem c5_r16_c1_run {CP : CProg} (e : Env) (t53 : Value) (t56 : Value) (t57 : Value) (t60 : Value) (h : Heap) (Q : Post) : RunR CP (c5_r16_c1 e t53 t56 t57 t60) h Q ↔ RunR CP (
  .op (.bin .add t57 t60) fun t61 =>
  .snap fun h9 =>
  .op (.mapUpdate (.one .int) t53 t56 t61) fun _ =>
  .done e) h Q := Iff.rfl
def c5_r16 : Env → Reg := fun e =>
  .op (.mv (e 10)) fun t53 =>
  .op (.mv (e 11)) fun t54 =>
  .op (.mv (e 9)) fun t55 =>
  .op (.bin .quo t54 t55) fun t56 =>
  .op (.lookup (.one .int) (.int .i64 0) false t53 t56) fun t57 =>
  .op (.fieldAddr 1 (e 13)) fun t58 =>
  .op (.load none t58) fun t59 =>
  .op (.bin .and t59 (.int .i64 255)) fun t60 =>
  c5_r16_c1 e t53 t56 t57 t60
theorem c5_r16_run {CP : CProg} (e : Env) (h : Heap) (Q : Post) : RunR CP (c5_r16 e) h Q ↔ RunR CP (
  .op (.mv (e 10)) fun t53 =>
  .op (.mv (e 11)) fun t54 =>
  .op (.mv (e 9)) fun t55 =>
  .op (.bin .quo t54 t55) fun t56 =>
  .op (.lookup (.one .int) (.int .i64 0) false t53 t56) fun t57 =>
  .op (.fieldAddr 1 (e 13)) fun t58 =>
  .op (.load none t58) fun t59 =>
  .op (.bin .and t59 (.int .i64 255)) fun t60 =>
  c5_r16_c1 e t53 t56 t57 t60) h Q := Iff.rfl
def c5_r17 : Env → Reg := fun e =>
  .op (.bin .add (e 36) (.int .i64 1)) fun t62 =>
  .op (.mv t62) fun t36 =>
  .done (e.upd 36 t36)
theorem c5_r17_run {CP : CProg} (e : Env) (h : Heap) (Q : Post) : RunR CP (c5_r17 e) h Q ↔ RunR CP (
  .op (.bin .add (e 36) (.int .i64 1)) fun t62 =>
  .op (.mv t62) fun t36 =>
  .done (e.upd 36 t36)) h Q := Iff.rfl
def c5_l0 : CC := (.seq (.region c5_r11) (.seq (.cond (fun e => e 37) .skip (.exit 0)) (.seq (.block 1 (.seq (.region c5_r12) (.seq (.region c5_r13) (.seq (.region c5_r14) (.seq (.region c5_r15) (.region c5_r16)))))) (.region c5_r17))))
def c5_r18 : Env → Reg := fun e =>
  .op (.mv (e 11)) fun t63 =>
  .op (.mv (e 2)) fun t64 =>
  .op (.call 17 [t64]) fun t65 =>
  .op (.bin .add t63 t65) fun t66 =>
  .op (.mv t66) fun t11 =>
  .done (e.upd 11 t11)
theorem c5_r18_run {CP : CProg} (e : Env) (h : Heap) (Q : Post) : RunR CP (c5_r18 e) h Q ↔ RunR CP (
  .op (.mv (e 11)) fun t63 =>
  .op (.mv (e 2)) fun t64 =>
  .op (.call 17 [t64]) fun t65 =>
  .op (.bin .add t63 t65) fun t66 =>
  .op (.mv t66) fun t11 =>
  .done (e.upd 11 t11)) h Q := Iff.rfl
def c5_r19 : Env → Reg := fun e =>
  .op (.mv (e 8)) fun t67 =>
  .op (.mv (e 11)) fun t68 =>
  .op (.call 18 [t67, t68]) fun t69 =>
  .done e
theorem c5_r19_run {CP : CProg} (e : Env) (h : Heap) (Q : Post) : RunR CP (c5_r19 e) h Q ↔ RunR CP (
  .op (.mv (e 8)) fun t67 =>
  .op (.mv (e 11)) fun t68 =>
  .op (.call 18 [t67, t68]) fun t69 =>
  .done e) h Q := Iff.rfl
def c5_r20 : Env → Reg := fun e =>
  .op (.mv (e 8)) fun t70 =>
  .op (.call 18 [t70, (.int .i64 0)]) fun t71 =>
  .done e
theorem c5_r20_run {CP : CProg} (e : Env) (h : Heap) (Q : Post) : RunR CP (c5_r20 e) h Q ↔ RunR CP (
  .op (.mv (e 8)) fun t70 =>
  .op (.call 18 [t70, (.int .i64 0)]) fun t71 =>
  .done e) h Q := Iff.rfl
def c5_r21 : Env → Reg := fun e =>
  .op (.mv (.int .i64 0)) fun t14 =>
  .op (.mv (.int .i64 0)) fun t15 =>
  .done ((e.upd 14 t14).upd 15 t15)
theorem c5_r21_run {CP : CProg} (e : Env) (h : Heap) (Q : Post) : RunR CP (c5_r21 e) h Q ↔ RunR CP (
  .op (.mv (.int .i64 0)) fun t14 =>
  .op (.mv (.int .i64 0)) fun t15 =>
  .done ((e.upd 14 t14).upd 15 t15)) h Q := Iff.rfl
def c5_r22 : Env → Reg := fun e =>
  .op (.mv (e 11)) fun t72 =>
  .op (.mv (e 9)) fun t73 =>
  .op (.bin .quo t72 t73) fun t74 =>
  .op (.fieldAddr 3 (e 7)) fun t75 =>
  .op (.load none t75) fun t76 =>
  .op (.bin .sub t74 t76) fun t77 =>
  .op (.mv t77) fun t16 =>
  .done (e.upd 16 t16)
theorem c5_r22_run {CP : CProg} (e : Env) (h : Heap) (Q : Post) : RunR CP (c5_r22 e) h Q ↔ RunR CP (
  .op (.mv (e 11)) fun t72 =>
  .op (.mv (e 9)) fun t73 =>
  .op (.bin .quo t72 t73) fun t74 =>
  .op (.fieldAddr 3 (e 7)) fun t75 =>
  .op (.load none t75) fun t76 =>
  .op (.bin .sub t74 t76) fun t77 =>
  .op (.mv t77) fun t16 =>
  .done (e.upd 16 t16)) h Q := Iff.rfl
def c5_r23 : Env → Reg := fun e =>
  .op (.mv (e 16)) fun t78 =>
  .op (.mv (e 11)) fun t79 =>
  .op (.mv (e 9)) fun t80 =>
  .op (.bin .quo t79 t80) fun t81 =>
  .op (.bin .leq t78 t81) fun t82 =>
  .done (e.upd 82 t82)
theorem c5_r23_run {CP : CProg} (e : Env) (h : Heap) (Q : Post) : RunR CP (c5_r23 e) h Q ↔ RunR CP (
  .op (.mv (e 16)) fun t78 =>
  .op (.mv (e 11)) fun t79 =>
  .op (.mv (e 9)) fun t80 =>
  .op (.bin .quo t79 t80) fun t81 =>
  .op (.bin .leq t78 t81) fun t82 =>
  .done (e.upd 82 t82)) h Q := Iff.rfl
def c5_r25 : Env → Reg := fun e =>
  .op (.mv (e 10)) fun t85 =>
  .op (.mv (e 16)) fun t86 =>
  .op (.lookup (.one .int) (.int .i64 0) false t85 t86) fun t87 =>
  .op (.mv t87) fun t17 =>
  .done (e.upd 17 t17)
theorem c5_r25_run {CP : CProg} (e : Env) (h : Heap) (Q : Post) : RunR CP (c5_r25 e) h Q ↔ RunR CP (
  .op (.mv (e 10)) fun t85 =>
  .op (.mv (e 16)) fun t86 =>
  .op (.lookup (.one .int) (.int .i64 0) false t85 t86) fun t87 =>
  .op (.mv t87) fun t17 =>
  .done (e.upd 17 t17)) h Q := Iff.rfl
def c5_r26 : Env → Reg := fun e =>
  .op (.mv (e 15)) fun t88 =>
  .op (.mv (e 17)) fun t89 =>
  .op (.bin .add t88 t89) fun t90 =>
  .op (.mv t90) fun t15 =>
  .done (e.upd 15 t15)
theorem c5_r26_run {CP : CProg} (e : Env) (h : Heap) (Q : Post) : RunR CP (c5_r26 e) h Q ↔ RunR CP (
  .op (.mv (e 15)) fun t88 =>
  .op (.mv (e 17)) fun t89 =>
  .op (.bin .add t88 t89) fun t90 =>
  .op (.mv t90) fun t15 =>
  .done (e.upd 15 t15)) h Q := Iff.rfl
def c5_r27_c1 (e : Env) (t93 : Value) (t94 : Value) (t97 : Value) (t98 : Value) : Reg :=
  .opg t93 true (.load none t98) fun t99 =>
  .opg t93 true (.bin .sub t97 t99) fun t100 =>
  .opg t93 true (.bin .eql t94 t100) fun t101 =>
  .op (.pick t93 t101 (.bool false)) fun t102 =>
  .done (e.upd 102 t102)
theorem c5_r27_c1_run {CP : CProg} (e : Env) (t93 : Value) (t94 : Value) (t97 : Value) (t98 : Value) (h : Heap) (Q : Post) : RunR CP (c5_r27_c1 e t93 t94 t97 t98) h Q ↔ RunR CP (
  .opg t93 true (.load none t98) fun t99 =>
  .opg t93 true (.bin .sub t97 t99) fun t100 =>
  .opg t93 true (.bin .eql t94 t100) fun t101 =>
  .op (.pick t93 t101 (.bool false)) fun t102 =>
  .done (e.upd 102 t102)) h Q := Iff.rfl
def c5_r27 : Env → Reg := fun e =>
  .op (.fieldAddr 8 (e 7)) fun t91 =>
  .op (.load none t91) fun t92 =>
  .op (.mv t92) fun t93 =>
  .opg t93 true (.mv (e 16)) fun t94 =>
  .opg t93 true (.mv (e 11)) fun t95 =>
  .opg t93 true (.mv (e 9)) fun t96 =>
  .opg t93 true (.bin .quo t95 t96) fun t97 =>
  .opg t93 true (.fieldAddr 3 (e 7)) fun t98 =>
  c5_r27_c1 e t93 t94 t97 t98
theorem c5_r27_run {CP : CProg} (e : Env) (h : Heap) (Q : Post) : RunR CP (c5_r27 e) h Q ↔ RunR CP (
  .op (.fieldAddr 8 (e 7)) fun t91 =>
  .op (.load none t91) fun t92 =>
  .op (.mv t92) fun t93 =>
  .opg t93 true (.mv (e 16)) fun t94 =>
  .opg t93 true (.mv (e 11)) fun t95 =>
  .opg t93 true (.mv (e 9)) fun t96 =>
  .opg t93 true (.bin .quo t95 t96) fun t97 =>
  .opg t93 true (.fieldAddr 3 (e 7)) fun t98 =>
  c5_r27_c1 e t93 t94 t97 t98) h Q := Iff.rfl
def c5_r28_c1 (e : Env) (t109 : Value) (t110 : Value) : Reg :=
  .op (.bin .add t109 t110) fun t111 =>
  .op (.bin .sub t111 (.int .i64 1)) fun t112 =>
  .op (.mv (e 9)) fun t113 =>
  .op (.bin .quo t112 t113) fun t114 =>
  .op (.mv t114) fun t17 =>
  .done (e.upd 17 t17)
theorem c5_r28_c1_run {CP : CProg} (e : Env) (t109 : Value) (t110 : Value) (h : Heap) (Q : Post) : RunR CP (c5_r28_c1 e t109 t110) h Q ↔ RunR CP (
  .op (.bin .add t109 t110) fun t111 =>
  .op (.bin .sub t111 (.int .i64 1)) fun t112 =>
  .op (.mv (e 9)) fun t113 =>
  .op (.bin .quo t112 t113) fun t114 =>
  .op (.mv t114) fun t17 =>
  .done (e.upd 17 t17)) h Q := Iff.rfl
def c5_r28 : Env → Reg := fun e =>
  .op (.mv (e 17)) fun t103 =>
  .op (.mv (e 9)) fun t104 =>
  .op (.mv (e 11)) fun t105 =>
  .op (.mv (e 9)) fun t106 =>
  .op (.bin .rem t105 t106) fun t107 =>
  .op (.bin .sub t104 t107) fun t108 =>
  .op (.bin .mul t103 t108) fun t109 =>
  .op (.mv (e 9)) fun t110 =>
  c5_r28_c1 e t109 t110
theorem c5_r28_run {CP : CProg} (e : Env) (h : Heap) (Q : Post) : RunR CP (c5_r28 e) h Q ↔ RunR CP (
  .op (.mv (e 17)) fun t103 =>
  .op (.mv (e 9)) fun t104 =>
  .op (.mv (e 11)) fun t105 =>
  .op (.mv (e 9)) fun t106 =>
  .op (.bin .rem t105 t106) fun t107 =>
  .op (.bin .sub t104 t107) fun t108 =>
  .op (.bin .mul t103 t108) fun t109 =>
  .op (.mv (e 9)) fun t110 =>
  c5_r28_c1 e t109 t110) h Q := Iff.rfl
def c5_r29 : Env → Reg := fun e =>
  .op (.mv (e 14)) fun t115 =>
  .op (.mv (e 17)) fun t116 =>
  .op (.bin .add t115 t116) fun t117 =>
  .op (.mv t117) fun t14 =>
  .done (e.upd 14 t14)
theorem c5_r29_run {CP : CProg} (e : Env) (h : Heap) (Q : Post) : RunR CP (c5_r29 e) h Q ↔ RunR CP (
  .op (.mv (e 14)) fun t115 =>
  .op (.mv (e 17)) fun t116 =>
  .op (.bin .add t115 t116) fun t117 =>
  .op (.mv t117) fun t14 =>
  .done (e.upd 14 t14)) h Q := Iff.rfl
def c5_r24 : Env → Reg := fun e =>
  .op (.mv (e 16)) fun t83 =>
  .op (.bin .add t83 (.int .i64 1)) fun t84 =>
  .op (.mv t84) fun t16 =>
  .done (e.upd 16 t16)
theorem c5_r24_run {CP : CProg} (e : Env) (h : Heap) (Q : Post) : RunR CP (c5_r24 e) h Q ↔ RunR CP (
  .op (.mv (e 16)) fun t83 =>
  .op (.bin .add t83 (.int .i64 1)) fun t84 =>
  .op (.mv t84) fun t16 =>
  .done (e.upd 16 t16)) h Q := Iff.rfl
def c5_l1 : CC := (.seq (.seq (.region c5_r23) (.cond (fun e => e 82) .skip (.exit 2))) (.seq (.block 3 (.seq (.region c5_r25) (.seq (.region c5_r26) (.seq (.seq (.region c5_r27) (.cond (fun e => e 102) (.region c5_r28) .skip)) (.region c5_r29))))) (.region c5_r24)))
def c5_r30_c2 (e : Env) (t133 : Value) : Reg :=
  .op (.mv t133) fun t134 =>
  .opg t134 true (.mv (e 8)) fun t135 =>
  .opg t134 true (.call 21 [t135, (.int .i64 2), (.string ⟨#[107]⟩)]) fun t136 =>
  .opg t134 true (.bin .eql t136 (.int .i64 0)) fun t137 =>
  .op (.pick t134 t137 (.bool false)) fun t138 =>
  .op (.mv t138) fun t6 =>
  .done (e.upd 6 t6)
theorem c5_r30_c2_run {CP : CProg} (e : Env) (t133 : Value) (h : Heap) (Q : Post) : RunR CP (c5_r30_c2 e t133) h Q ↔ RunR CP (
  .op (.mv t133) fun t134 =>
  .opg t134 true (.mv (e 8)) fun t135 =>
  .opg t134 true (.call 21 [t135, (.int .i64 2), (.string ⟨#[107]⟩)]) fun t136 =>
  .opg t134 true (.bin .eql t136 (.int .i64 0)) fun t137 =>
  .op (.pick t134 t137 (.bool false)) fun t138 =>
  .op (.mv t138) fun t6 =>
  .done (e.upd 6 t6)) h Q := Iff.rfl
def c5_r30_c1 (e : Env) (t122 : Value) (t124 : Value) (t125 : Value) : Reg :=
  .opg t122 true (.bin .eql t124 t125) fun t126 =>
  .op (.pick t122 t126 (.bool false)) fun t127 =>
  .op (.mv t127) fun t128 =>
  .opg t128 true (.mv (e 8)) fun t129 =>
  .opg t128 true (.call 21 [t129, (.int .i64 1), (.string ⟨#[107]⟩)]) fun t130 =>
  .opg t128 true (.mv (e 15)) fun t131 =>
  .opg t128 true (.bin .eql t130 t131) fun t132 =>
  .op (.pick t128 t132 (.bool false)) fun t133 =>
  c5_r30_c2 e t133
theorem c5_r30_c1_run {CP : CProg} (e : Env) (t122 : Value) (t124 : Value) (t125 : Value) (h : Heap) (Q : Post) : RunR CP (c5_r30_c1 e t122 t124 t125) h Q ↔ RunR CP (
  .opg t122 true (.bin .eql t124 t125) fun t126 =>
  .op (.pick t122 t126 (.bool false)) fun t127 =>
  .op (.mv t127) fun t128 =>
  .opg t128 true (.mv (e 8)) fun t129 =>
  .opg t128 true (.call 21 [t129, (.int .i64 1), (.string ⟨#[107]⟩)]) fun t130 =>
  .opg t128 true (.mv (e 15)) fun t131 =>
  .opg t128 true (.bin .eql t130 t131) fun t132 =>
  .op (.pick t128 t132 (.bool false)) fun t133 =>
  c5_r30_c2 e t133) h Q := Iff.rfl
def c5_r30 : Env → Reg := fun e =>
  .op (.mv (e 8)) fun t118 =>
  .op (.call 20 [t118, (.string ⟨#[107]⟩)]) fun t119 =>
  .op (.mv (e 14)) fun t120 =>
  .op (.bin .eql t119 t120) fun t121 =>
  .op (.mv t121) fun t122 =>
  .opg t122 true (.mv (e 8)) fun t123 =>
  .opg t122 true (.call 21 [t123, (.int .i64 0), (.string ⟨#[107]⟩)]) fun t124 =>
  .opg t122 true (.mv (e 15)) fun t125 =>
  c5_r30_c1 e t122 t124 t125
theorem c5_r30_run {CP : CProg} (e : Env) (h : Heap) (Q : Post) : RunR CP (c5_r30 e) h Q ↔ RunR CP (
  .op (.mv (e 8)) fun t118 =>
  .op (.call 20 [t118, (.string ⟨#[107]⟩)]) fun t119 =>
  .op (.mv (e 14)) fun t120 =>
  .op (.bin .eql t119 t120) fun t121 =>
  .op (.mv t121) fun t122 =>
  .opg t122 true (.mv (e 8)) fun t123 =>
  .opg t122 true (.call 21 [t123, (.int .i64 0), (.string ⟨#[107]⟩)]) fun t124 =>
  .opg t122 true (.mv (e 15)) fun t125 =>
  c5_r30_c1 e t122 t124 t125) h Q := Iff.rfl
def c5 : CFn := ⟨(.seq (.region c5_r0) (.seq (.seq (.region c5_r1) (.cond (fun e => e 19) (.seq (.region c5_r2) .ret) .skip)) (.seq (.seq (.region c5_r3) (.cond (fun e => e 22) (.seq (.region c5_r4) .ret) .skip)) (.seq (.region c5_r5) (.seq (.region c5_r6) (.seq (.region c5_r7) (.seq (.region c5_r8) (.seq (.region c5_r9) (.seq (.seq (.region c5_r10) (.block 0 (.loop c5_l0))) (.seq (.region c5_r18) (.seq (.region c5_r19) (.seq (.region c5_r20) (.seq (.region c5_r21) (.seq (.seq (.region c5_r22) (.block 2 (.loop c5_l1))) (.seq (.region c5_r30) .ret))))))))))))))), [.t 6]⟩
def p5 : Pers := ⟨18, [19, 22, 34, 35, 36, 37, 82, 102], 139⟩
-- 6: weighbridge/weighbridgelaw07.RingFades
def c6_r0 : Env → Reg := fun e =>
  .op (.box 23 (e 0)) fun t3 =>
  .op (.mv (.bool false)) fun t6 =>
  .done ((e.upd 3 t3).upd 6 t6)
theorem c6_r0_run {CP : CProg} (e : Env) (h : Heap) (Q : Post) : RunR CP (c6_r0 e) h Q ↔ RunR CP (
  .op (.box 23 (e 0)) fun t3 =>
  .op (.mv (.bool false)) fun t6 =>
  .done ((e.upd 3 t3).upd 6 t6)) h Q := Iff.rfl
def c6_r1 : Env → Reg := fun e =>
  .op (.call 10 []) fun t14 =>
  .op (.un .not t14) fun t15 =>
  .done (e.upd 15 t15)
theorem c6_r1_run {CP : CProg} (e : Env) (h : Heap) (Q : Post) : RunR CP (c6_r1 e) h Q ↔ RunR CP (
  .op (.call 10 []) fun t14 =>
  .op (.un .not t14) fun t15 =>
  .done (e.upd 15 t15)) h Q := Iff.rfl
def c6_r2 : Env → Reg := fun e =>
  .op (.mv (.bool false)) fun t6 =>
  .done (e.upd 6 t6)
theorem c6_r2_run {CP : CProg} (e : Env) (h : Heap) (Q : Post) : RunR CP (c6_r2 e) h Q ↔ RunR CP (
  .op (.mv (.bool false)) fun t6 =>
  .done (e.upd 6 t6)) h Q := Iff.rfl
def c6_r3 : Env → Reg := fun e =>
  .op (.mv (e 1)) fun t16 =>
  .op (.lenSl t16) fun t17 =>
  .op (.bin .gtr t17 (.int .i64 60)) fun t18 =>
  .op (.mv t18) fun t19 =>
  .opg t19 false (.mv (e 2)) fun t20 =>
  .opg t19 false (.call 16 [t20]) fun t21 =>
  .opg t19 false (.un .not t21) fun t22 =>
  .op (.pick t19 (.bool true) t22) fun t23 =>
  .done (e.upd 23 t23)
theorem c6_r3_run {CP : CProg} (e : Env) (h : Heap) (Q : Post) : RunR CP (c6_r3 e) h Q ↔ RunR CP (
  .op (.mv (e 1)) fun t16 =>
  .op (.lenSl t16) fun t17 =>
  .op (.bin .gtr t17 (.int .i64 60)) fun t18 =>
  .op (.mv t18) fun t19 =>
  .opg t19 false (.mv (e 2)) fun t20 =>
  .opg t19 false (.call 16 [t20]) fun t21 =>
  .opg t19 false (.un .not t21) fun t22 =>
  .op (.pick t19 (.bool true) t22) fun t23 =>
  .done (e.upd 23 t23)) h Q := Iff.rfl
def c6_r4 : Env → Reg := fun e =>
  .op (.mv (.bool true)) fun t6 =>
  .done (e.upd 6 t6)
theorem c6_r4_run {CP : CProg} (e : Env) (h : Heap) (Q : Post) : RunR CP (c6_r4 e) h Q ↔ RunR CP (
  .op (.mv (.bool true)) fun t6 =>
  .done (e.upd 6 t6)) h Q := Iff.rfl
def c6_r5 : Env → Reg := fun e =>
  .op (.load (some 5) (e 3)) fun t24 =>
  .op (.call 11 [t24]) fun t25 =>
  .op (.alloc 26 [(.int .i64 0), (.int .i64 0), (.int .i64 0), (.int .i64 0), (.int .i64 0), (.int .i64 0), (.int .i64 0), (.int .i64 0), (.bool false)]) fun t7 =>
  .op (.store 9 t7 t25) fun _ =>
  .done (e.upd 7 t7)
theorem c6_r5_run {CP : CProg} (e : Env) (h : Heap) (Q : Post) : RunR CP (c6_r5 e) h Q ↔ RunR CP (
  .op (.load (some 5) (e 3)) fun t24 =>
  .op (.call 11 [t24]) fun t25 =>
  .op (.alloc 26 [(.int .i64 0), (.int .i64 0), (.int .i64 0), (.int .i64 0), (.int .i64 0), (.int .i64 0), (.int .i64 0), (.int .i64 0), (.bool false)]) fun t7 =>
  .op (.store 9 t7 t25) fun _ =>
  .done (e.upd 7 t7)) h Q := Iff.rfl
def c6_r6 : Env → Reg := fun e =>
  .op (.load (some 9) (e 7)) fun t26 =>
  .op (.mv (e 1)) fun t27 =>
  .snap fun h2 =>
  .op (.call 13 [t27, (.int .i64 2)]) fun t28 =>
  .chk none none (.load (some 9) (e 7)) t26 <|
  .snap fun h3 =>
  .op (.call 12 [t26, t28]) fun t29 =>
  .op (.mv t29) fun t8 =>
  .done (e.upd 8 t8)
theorem c6_r6_run {CP : CProg} (e : Env) (h : Heap) (Q : Post) : RunR CP (c6_r6 e) h Q ↔ RunR CP (
  .op (.load (some 9) (e 7)) fun t26 =>
  .op (.mv (e 1)) fun t27 =>
  .snap fun h2 =>
  .op (.call 13 [t27, (.int .i64 2)]) fun t28 =>
  .chk none none (.load (some 9) (e 7)) t26 <|
  .snap fun h3 =>
  .op (.call 12 [t26, t28]) fun t29 =>
  .op (.mv t29) fun t8 =>
  .done (e.upd 8 t8)) h Q := Iff.rfl
def c6_r7 : Env → Reg := fun e =>
  .op (.mv (.int .i64 0)) fun t9 =>
  .done (e.upd 9 t9)
theorem c6_r7_run {CP : CProg} (e : Env) (h : Heap) (Q : Post) : RunR CP (c6_r7 e) h Q ↔ RunR CP (
  .op (.mv (.int .i64 0)) fun t9 =>
  .done (e.upd 9 t9)) h Q := Iff.rfl
def c6_r8 : Env → Reg := fun e =>
  .op (.mv (e 2)) fun t30 =>
  .op (.lenSl t30) fun t31 =>
  .op (.mv (.int .i64 0)) fun t32 =>
  .done (((e.upd 30 t30).upd 31 t31).upd 32 t32)
theorem c6_r8_run {CP : CProg} (e : Env) (h : Heap) (Q : Post) : RunR CP (c6_r8 e) h Q ↔ RunR CP (
  .op (.mv (e 2)) fun t30 =>
  .op (.lenSl t30) fun t31 =>
  .op (.mv (.int .i64 0)) fun t32 =>
  .done (((e.upd 30 t30).upd 31 t31).upd 32 t32)) h Q := Iff.rfl
def c6_r9 : Env → Reg := fun e =>
  .op (.bin .lss (e 32) (e 31)) fun t33 =>
  .done (e.upd 33 t33)
theorem c6_r9_run {CP : CProg} (e : Env) (h : Heap) (Q : Post) : RunR CP (c6_r9 e) h Q ↔ RunR CP (
  .op (.bin .lss (e 32) (e 31)) fun t33 =>
  .done (e.upd 33 t33)) h Q := Iff.rfl
def c6_r10 : Env → Reg := fun e =>
  .op (.indexSl 3 (e 30) (e 32)) fun t34 =>
  .op (.load (some 3) t34) fun t35 =>
  .op (.alloc 40 [(.int .i64 0), (.int .i64 0), (.string ⟨#[]⟩)]) fun t11 =>
  .op (.store 3 t11 t35) fun _ =>
  .done (e.upd 11 t11)
theorem c6_r10_run {CP : CProg} (e : Env) (h : Heap) (Q : Post) : RunR CP (c6_r10 e) h Q ↔ RunR CP (
  .op (.indexSl 3 (e 30) (e 32)) fun t34 =>
  .op (.load (some 3) t34) fun t35 =>
  .op (.alloc 40 [(.int .i64 0), (.int .i64 0), (.string ⟨#[]⟩)]) fun t11 =>
  .op (.store 3 t11 t35) fun _ =>
  .done (e.upd 11 t11)) h Q := Iff.rfl
def c6_r11 : Env → Reg := fun e =>
  .op (.mv (e 9)) fun t36 =>
  .op (.fieldAddr 0 (e 11)) fun t37 =>
  .op (.load none t37) fun t38 =>
  .op (.call 17 [t38]) fun t39 =>
  .op (.bin .and t39 (.int .i64 7)) fun t40 =>
  .op (.bin .add t36 t40) fun t41 =>
  .op (.mv t41) fun t9 =>
  .done (e.upd 9 t9)
theorem c6_r11_run {CP : CProg} (e : Env) (h : Heap) (Q : Post) : RunR CP (c6_r11 e) h Q ↔ RunR CP (
  .op (.mv (e 9)) fun t36 =>
  .op (.fieldAddr 0 (e 11)) fun t37 =>
  .op (.load none t37) fun t38 =>
  .op (.call 17 [t38]) fun t39 =>
  .op (.bin .and t39 (.int .i64 7)) fun t40 =>
  .op (.bin .add t36 t40) fun t41 =>
  .op (.mv t41) fun t9 =>
  .done (e.upd 9 t9)) h Q := Iff.rfl
def c6_r12 : Env → Reg := fun e =>
  .op (.mv (e 8)) fun t42 =>
  .op (.mv (e 9)) fun t43 =>
  .op (.call 18 [t42, t43]) fun t44 =>
  .done e
theorem c6_r12_run {CP : CProg} (e : Env) (h : Heap) (Q : Post) : RunR CP (c6_r12 e) h Q ↔ RunR CP (
  .op (.mv (e 8)) fun t42 =>
  .op (.mv (e 9)) fun t43 =>
  .op (.call 18 [t42, t43]) fun t44 =>
  .done e) h Q := Iff.rfl
def c6_r13 : Env → Reg := fun e =>
  .op (.mv (e 8)) fun t45 =>
  .op (.fieldAddr 2 (e 11)) fun t46 =>
  .op (.load none t46) fun t47 =>
  .op (.fieldAddr 1 (e 11)) fun t48 =>
  .op (.load none t48) fun t49 =>
  .op (.bin .and t49 (.int .i64 255)) fun t50 =>
  .op (.call 19 [t45, t47, t50]) fun t51 =>
  .done e
theorem c6_r13_run {CP : CProg} (e : Env) (h : Heap) (Q : Post) : RunR CP (c6_r13 e) h Q ↔ RunR CP (
  .op (.mv (e 8)) fun t45 =>
  .op (.fieldAddr 2 (e 11)) fun t46 =>
  .op (.load none t46) fun t47 =>
  .op (.fieldAddr 1 (e 11)) fun t48 =>
  .op (.load none t48) fun t49 =>
  .op (.bin .and t49 (.int .i64 255)) fun t50 =>
  .op (.call 19 [t45, t47, t50]) fun t51 =>
  .done e) h Q := Iff.rfl
def c6_r14 : Env → Reg := fun e =>
  .op (.bin .add (e 32) (.int .i64 1)) fun t52 =>
  .op (.mv t52) fun t32 =>
  .done (e.upd 32 t32)
theorem c6_r14_run {CP : CProg} (e : Env) (h : Heap) (Q : Post) : RunR CP (c6_r14 e) h Q ↔ RunR CP (
  .op (.bin .add (e 32) (.int .i64 1)) fun t52 =>
  .op (.mv t52) fun t32 =>
  .done (e.upd 32 t32)) h Q := Iff.rfl
def c6_l0 : CC := (.seq (.region c6_r9) (.seq (.cond (fun e => e 33) .skip (.exit 0)) (.seq (.block 1 (.seq (.region c6_r10) (.seq (.region c6_r11) (.seq (.region c6_r12) (.region c6_r13))))) (.region c6_r14))))
def c6_r15 : Env → Reg := fun e =>
  .op (.mv (e 8)) fun t53 =>
  .op (.call 20 [t53, (.string ⟨#[97]⟩)]) fun t54 =>
  .op (.mv t54) fun t12 =>
  .done (e.upd 12 t12)
theorem c6_r15_run {CP : CProg} (e : Env) (h : Heap) (Q : Post) : RunR CP (c6_r15 e) h Q ↔ RunR CP (
  .op (.mv (e 8)) fun t53 =>
  .op (.call 20 [t53, (.string ⟨#[97]⟩)]) fun t54 =>
  .op (.mv t54) fun t12 =>
  .done (e.upd 12 t12)) h Q := Iff.rfl
def c6_r16 : Env → Reg := fun e =>
  .op (.mv (.int .i64 0)) fun t55 =>
  .done (e.upd 55 t55)
theorem c6_r16_run {CP : CProg} (e : Env) (h : Heap) (Q : Post) : RunR CP (c6_r16 e) h Q ↔ RunR CP (
  .op (.mv (.int .i64 0)) fun t55 =>
  .done (e.upd 55 t55)) h Q := Iff.rfl
def c6_r17 : Env → Reg := fun e =>
  .op (.bin .lss (e 55) (.int .i64 400)) fun t56 =>
  .done (e.upd 56 t56)
theorem c6_r17_run {CP : CProg} (e : Env) (h : Heap) (Q : Post) : RunR CP (c6_r17 e) h Q ↔ RunR CP (
  .op (.bin .lss (e 55) (.int .i64 400)) fun t56 =>
  .done (e.upd 56 t56)) h Q := Iff.rfl
def c6_r18 : Env → Reg := fun e =>
  .op (.mv (e 9)) fun t57 =>
  .op (.bin .add t57 (.int .i64 1)) fun t58 =>
  .op (.mv t58) fun t9 =>
  .done (e.upd 9 t9)
theorem c6_r18_run {CP : CProg} (e : Env) (h : Heap) (Q : Post) : RunR CP (c6_r18 e) h Q ↔ RunR CP (
  .op (.mv (e 9)) fun t57 =>
  .op (.bin .add t57 (.int .i64 1)) fun t58 =>
  .op (.mv t58) fun t9 =>
  .done (e.upd 9 t9)) h Q := Iff.rfl
def c6_r19 : Env → Reg := fun e =>
  .op (.mv (e 8)) fun t59 =>
  .op (.mv (e 9)) fun t60 =>
  .op (.call 18 [t59, t60]) fun t61 =>
  .done e
theorem c6_r19_run {CP : CProg} (e : Env) (h : Heap) (Q : Post) : RunR CP (c6_r19 e) h Q ↔ RunR CP (
  .op (.mv (e 8)) fun t59 =>
  .op (.mv (e 9)) fun t60 =>
  .op (.call 18 [t59, t60]) fun t61 =>
  .done e) h Q := Iff.rfl
def c6_r20 : Env → Reg := fun e =>
  .op (.mv (e 8)) fun t62 =>
  .op (.call 20 [t62, (.string ⟨#[97]⟩)]) fun t63 =>
  .op (.mv t63) fun t13 =>
  .done (e.upd 13 t13)
theorem c6_r20_run {CP : CProg} (e : Env) (h : Heap) (Q : Post) : RunR CP (c6_r20 e) h Q ↔ RunR CP (
  .op (.mv (e 8)) fun t62 =>
  .op (.call 20 [t62, (.string ⟨#[97]⟩)]) fun t63 =>
  .op (.mv t63) fun t13 =>
  .done (e.upd 13 t13)) h Q := Iff.rfl
def c6_r21 : Env → Reg := fun e =>
  .op (.mv (e 13)) fun t64 =>
  .op (.mv (e 12)) fun t65 =>
  .op (.bin .gtr t64 t65) fun t66 =>
  .op (.mv t66) fun t67 =>
  .opg t67 false (.mv (e 13)) fun t68 =>
  .opg t67 false (.mv (e 8)) fun t69 =>
  .opg t67 false (.call 21 [t69, (.int .i64 0), (.string ⟨#[97]⟩)]) fun t70 =>
  .opg t67 false (.bin .gtr t68 t70) fun t71 =>
  .op (.pick t67 (.bool true) t71) fun t72 =>
  .done (e.upd 72 t72)
theorem c6_r21_run {CP : CProg} (e : Env) (h : Heap) (Q : Post) : RunR CP (c6_r21 e) h Q ↔ RunR CP (
  .op (.mv (e 13)) fun t64 =>
  .op (.mv (e 12)) fun t65 =>
  .op (.bin .gtr t64 t65) fun t66 =>
  .op (.mv t66) fun t67 =>
  .opg t67 false (.mv (e 13)) fun t68 =>
  .opg t67 false (.mv (e 8)) fun t69 =>
  .opg t67 false (.call 21 [t69, (.int .i64 0), (.string ⟨#[97]⟩)]) fun t70 =>
  .opg t67 false (.bin .gtr t68 t70) fun t71 =>
  .op (.pick t67 (.bool true) t71) fun t72 =>
  .done (e.upd 72 t72)) h Q := Iff.rfl
def c6_r22 : Env → Reg := fun e =>
  .op (.mv (.bool false)) fun t6 =>
  .done (e.upd 6 t6)
theorem c6_r22_run {CP : CProg} (e : Env) (h : Heap) (Q : Post) : RunR CP (c6_r22 e) h Q ↔ RunR CP (
  .op (.mv (.bool false)) fun t6 =>
  .done (e.upd 6 t6)) h Q := Iff.rfl
def c6_r23 : Env → Reg := fun e =>
  .op (.mv (e 13)) fun t73 =>
  .op (.mv t73) fun t12 =>
  .done (e.upd 12 t12)
theorem c6_r23_run {CP : CProg} (e : Env) (h : Heap) (Q : Post) : RunR CP (c6_r23 e) h Q ↔ RunR CP (
  .op (.mv (e 13)) fun t73 =>
  .op (.mv t73) fun t12 =>
  .done (e.upd 12 t12)) h Q := Iff.rfl
def c6_r24 : Env → Reg := fun e =>
  .op (.bin .add (e 55) (.int .i64 1)) fun t74 =>
  .op (.mv t74) fun t55 =>
  .done (e.upd 55 t55)
theorem c6_r24_run {CP : CProg} (e : Env) (h : Heap) (Q : Post) : RunR CP (c6_r24 e) h Q ↔ RunR CP (
  .op (.bin .add (e 55) (.int .i64 1)) fun t74 =>
  .op (.mv t74) fun t55 =>
  .done (e.upd 55 t55)) h Q := Iff.rfl
def c6_l1 : CC := (.seq (.region c6_r17) (.seq (.cond (fun e => e 56) .skip (.exit 2)) (.seq (.block 3 (.seq (.region c6_r18) (.seq (.region c6_r19) (.seq (.region c6_r20) (.seq (.seq (.region c6_r21) (.cond (fun e => e 72) (.seq (.region c6_r22) .ret) .skip)) (.region c6_r23)))))) (.region c6_r24))))
def c6_r25_c1 (e : Env) (t82 : Value) : Reg :=
  .op (.bin .gtr t82 (.int .i64 400)) fun t83 =>
  .op (.mv t83) fun t84 =>
  .opg t84 false (.mv (e 12)) fun t85 =>
  .opg t84 false (.bin .eql t85 (.int .i64 0)) fun t86 =>
  .op (.pick t84 (.bool true) t86) fun t87 =>
  .op (.mv t87) fun t6 =>
  .done (e.upd 6 t6)
theorem c6_r25_c1_run {CP : CProg} (e : Env) (t82 : Value) (h : Heap) (Q : Post) : RunR CP (c6_r25_c1 e t82) h Q ↔ RunR CP (
  .op (.bin .gtr t82 (.int .i64 400)) fun t83 =>
  .op (.mv t83) fun t84 =>
  .opg t84 false (.mv (e 12)) fun t85 =>
  .opg t84 false (.bin .eql t85 (.int .i64 0)) fun t86 =>
  .op (.pick t84 (.bool true) t86) fun t87 =>
  .op (.mv t87) fun t6 =>
  .done (e.upd 6 t6)) h Q := Iff.rfl
def c6_r25 : Env → Reg := fun e =>
  .op (.fieldAddr 1 (e 7)) fun t75 =>
  .op (.load none t75) fun t76 =>
  .op (.fieldAddr 1 (e 7)) fun t77 =>
  .op (.load none t77) fun t78 =>
  .op (.fieldAddr 3 (e 7)) fun t79 =>
  .op (.load none t79) fun t80 =>
  .op (.bin .quo t78 t80) fun t81 =>
  .op (.bin .add t76 t81) fun t82 =>
  c6_r25_c1 e t82
theorem c6_r25_run {CP : CProg} (e : Env) (h : Heap) (Q : Post) : RunR CP (c6_r25 e) h Q ↔ RunR CP (
  .op (.fieldAddr 1 (e 7)) fun t75 =>
  .op (.load none t75) fun t76 =>
  .op (.fieldAddr 1 (e 7)) fun t77 =>
  .op (.load none t77) fun t78 =>
  .op (.fieldAddr 3 (e 7)) fun t79 =>
  .op (.load none t79) fun t80 =>
  .op (.bin .quo t78 t80) fun t81 =>
  .op (.bin .add t76 t81) fun t82 =>
  c6_r25_c1 e t82) h Q := Iff.rfl
def c6 : CFn := ⟨(.seq (.region c6_r0) (.seq (.seq (.region c6_r1) (.cond (fun e => e 15) (.seq (.region c6_r2) .ret) .skip)) (.seq (.seq (.region c6_r3) (.cond (fun e => e 23) (.seq (.region c6_r4) .ret) .skip)) (.seq (.region c6_r5) (.seq (.region c6_r6) (.seq (.region c6_r7) (.seq (.seq (.region c6_r8) (.block 0 (.loop c6_l0))) (.seq (.region c6_r15) (.seq (.seq (.region c6_r16) (.block 2 (.loop c6_l1))) (.seq (.region c6_r25) .ret)))))))))), [.t 6]⟩
def p6 : Pers := ⟨14, [15, 23, 30, 31, 32, 33, 55, 56, 72], 88⟩
-- 7: weighbridge/weighbridgelaw07.RingWaits
def c7_r0 : Env → Reg := fun e =>
  .op (.box 23 (e 0)) fun t3 =>
  .op (.mv (.bool false)) fun t6 =>
  .done ((e.upd 3 t3).upd 6 t6)
theorem c7_r0_run {CP : CProg} (e : Env) (h : Heap) (Q : Post) : RunR CP (c7_r0 e) h Q ↔ RunR CP (
  .op (.box 23 (e 0)) fun t3 =>
  .op (.mv (.bool false)) fun t6 =>
  .done ((e.upd 3 t3).upd 6 t6)) h Q := Iff.rfl
def c7_r1 : Env → Reg := fun e =>
  .op (.call 10 []) fun t15 =>
  .op (.un .not t15) fun t16 =>
  .done (e.upd 16 t16)
theorem c7_r1_run {CP : CProg} (e : Env) (h : Heap) (Q : Post) : RunR CP (c7_r1 e) h Q ↔ RunR CP (
  .op (.call 10 []) fun t15 =>
  .op (.un .not t15) fun t16 =>
  .done (e.upd 16 t16)) h Q := Iff.rfl
def c7_r2 : Env → Reg := fun e =>
  .op (.mv (.bool false)) fun t6 =>
  .done (e.upd 6 t6)
theorem c7_r2_run {CP : CProg} (e : Env) (h : Heap) (Q : Post) : RunR CP (c7_r2 e) h Q ↔ RunR CP (
  .op (.mv (.bool false)) fun t6 =>
  .done (e.upd 6 t6)) h Q := Iff.rfl
def c7_r3 : Env → Reg := fun e =>
  .op (.mv (e 1)) fun t17 =>
  .op (.call 16 [t17]) fun t18 =>
  .op (.un .not t18) fun t19 =>
  .done (e.upd 19 t19)
theorem c7_r3_run {CP : CProg} (e : Env) (h : Heap) (Q : Post) : RunR CP (c7_r3 e) h Q ↔ RunR CP (
  .op (.mv (e 1)) fun t17 =>
  .op (.call 16 [t17]) fun t18 =>
  .op (.un .not t18) fun t19 =>
  .done (e.upd 19 t19)) h Q := Iff.rfl
def c7_r4 : Env → Reg := fun e =>
  .op (.mv (.bool true)) fun t6 =>
  .done (e.upd 6 t6)
theorem c7_r4_run {CP : CProg} (e : Env) (h : Heap) (Q : Post) : RunR CP (c7_r4 e) h Q ↔ RunR CP (
  .op (.mv (.bool true)) fun t6 =>
  .done (e.upd 6 t6)) h Q := Iff.rfl
def c7_r5 : Env → Reg := fun e =>
  .op (.load (some 5) (e 3)) fun t20 =>
  .op (.call 11 [t20]) fun t21 =>
  .op (.alloc 26 [(.int .i64 0), (.int .i64 0), (.int .i64 0), (.int .i64 0), (.int .i64 0), (.int .i64 0), (.int .i64 0), (.int .i64 0), (.bool false)]) fun t7 =>
  .op (.store 9 t7 t21) fun _ =>
  .done (e.upd 7 t7)
theorem c7_r5_run {CP : CProg} (e : Env) (h : Heap) (Q : Post) : RunR CP (c7_r5 e) h Q ↔ RunR CP (
  .op (.load (some 5) (e 3)) fun t20 =>
  .op (.call 11 [t20]) fun t21 =>
  .op (.alloc 26 [(.int .i64 0), (.int .i64 0), (.int .i64 0), (.int .i64 0), (.int .i64 0), (.int .i64 0), (.int .i64 0), (.int .i64 0), (.bool false)]) fun t7 =>
  .op (.store 9 t7 t21) fun _ =>
  .done (e.upd 7 t7)) h Q := Iff.rfl
def c7_r6 : Env → Reg := fun e =>
  .op (.mv (e 2)) fun t22 =>
  .op (.bin .and t22 (.int .i64 63)) fun t23 =>
  .op (.fieldAddr 0 (e 7)) fun t24 =>
  .op (.load none t24) fun t25 =>
  .op (.bin .rem t23 t25) fun t26 =>
  .op (.bin .add t26 (.int .i64 1)) fun t27 =>
  .op (.mv t27) fun t2 =>
  .done (e.upd 2 t2)
theorem c7_r6_run {CP : CProg} (e : Env) (h : Heap) (Q : Post) : RunR CP (c7_r6 e) h Q ↔ RunR CP (
  .op (.mv (e 2)) fun t22 =>
  .op (.bin .and t22 (.int .i64 63)) fun t23 =>
  .op (.fieldAddr 0 (e 7)) fun t24 =>
  .op (.load none t24) fun t25 =>
  .op (.bin .rem t23 t25) fun t26 =>
  .op (.bin .add t26 (.int .i64 1)) fun t27 =>
  .op (.mv t27) fun t2 =>
  .done (e.upd 2 t2)) h Q := Iff.rfl
def c7_r7 : Env → Reg := fun e =>
  .op (.load (some 9) (e 7)) fun t28 =>
  .snap fun h1 =>
  .op (.call 13 [(.slice none 0 0), (.int .i64 1)]) fun t29 =>
  .chk none none (.load (some 9) (e 7)) t28 <|
  .snap fun h2 =>
  .op (.call 12 [t28, t29]) fun t30 =>
  .op (.mv t30) fun t8 =>
  .done (e.upd 8 t8)
theorem c7_r7_run {CP : CProg} (e : Env) (h : Heap) (Q : Post) : RunR CP (c7_r7 e) h Q ↔ RunR CP (
  .op (.load (some 9) (e 7)) fun t28 =>
  .snap fun h1 =>
  .op (.call 13 [(.slice none 0 0), (.int .i64 1)]) fun t29 =>
  .chk none none (.load (some 9) (e 7)) t28 <|
  .snap fun h2 =>
  .op (.call 12 [t28, t29]) fun t30 =>
  .op (.mv t30) fun t8 =>
  .done (e.upd 8 t8)) h Q := Iff.rfl
def c7_r8 : Env → Reg := fun e =>
  .op (.fieldAddr 1 (e 7)) fun t31 =>
  .op (.load none t31) fun t32 =>
  .op (.fieldAddr 3 (e 7)) fun t33 =>
  .op (.load none t33) fun t34 =>
  .op (.bin .quo t32 t34) fun t35 =>
  .op (.mv t35) fun t9 =>
  .done (e.upd 9 t9)
theorem c7_r8_run {CP : CProg} (e : Env) (h : Heap) (Q : Post) : RunR CP (c7_r8 e) h Q ↔ RunR CP (
  .op (.fieldAddr 1 (e 7)) fun t31 =>
  .op (.load none t31) fun t32 =>
  .op (.fieldAddr 3 (e 7)) fun t33 =>
  .op (.load none t33) fun t34 =>
  .op (.bin .quo t32 t34) fun t35 =>
  .op (.mv t35) fun t9 =>
  .done (e.upd 9 t9)) h Q := Iff.rfl
def c7_r9 : Env → Reg := fun e =>
  .op (.mv (.int .i64 0)) fun t10 =>
  .done (e.upd 10 t10)
theorem c7_r9_run {CP : CProg} (e : Env) (h : Heap) (Q : Post) : RunR CP (c7_r9 e) h Q ↔ RunR CP (
  .op (.mv (.int .i64 0)) fun t10 =>
  .done (e.upd 10 t10)) h Q := Iff.rfl
def c7_r10 : Env → Reg := fun e =>
  .op (.mv (e 1)) fun t36 =>
  .op (.lenSl t36) fun t37 =>
  .op (.mv (.int .i64 0)) fun t38 =>
  .done (((e.upd 36 t36).upd 37 t37).upd 38 t38)
theorem c7_r10_run {CP : CProg} (e : Env) (h : Heap) (Q : Post) : RunR CP (c7_r10 e) h Q ↔ RunR CP (
  .op (.mv (e 1)) fun t36 =>
  .op (.lenSl t36) fun t37 =>
  .op (.mv (.int .i64 0)) fun t38 =>
  .done (((e.upd 36 t36).upd 37 t37).upd 38 t38)) h Q := Iff.rfl
def c7_r11 : Env → Reg := fun e =>
  .op (.bin .lss (e 38) (e 37)) fun t39 =>
  .done (e.upd 39 t39)
theorem c7_r11_run {CP : CProg} (e : Env) (h : Heap) (Q : Post) : RunR CP (c7_r11 e) h Q ↔ RunR CP (
  .op (.bin .lss (e 38) (e 37)) fun t39 =>
  .done (e.upd 39 t39)) h Q := Iff.rfl
def c7_r12 : Env → Reg := fun e =>
  .op (.indexSl 3 (e 36) (e 38)) fun t40 =>
  .op (.load (some 3) t40) fun t41 =>
  .op (.alloc 40 [(.int .i64 0), (.int .i64 0), (.string ⟨#[]⟩)]) fun t12 =>
  .op (.store 3 t12 t41) fun _ =>
  .done (e.upd 12 t12)
theorem c7_r12_run {CP : CProg} (e : Env) (h : Heap) (Q : Post) : RunR CP (c7_r12 e) h Q ↔ RunR CP (
  .op (.indexSl 3 (e 36) (e 38)) fun t40 =>
  .op (.load (some 3) t40) fun t41 =>
  .op (.alloc 40 [(.int .i64 0), (.int .i64 0), (.string ⟨#[]⟩)]) fun t12 =>
  .op (.store 3 t12 t41) fun _ =>
  .done (e.upd 12 t12)) h Q := Iff.rfl
def c7_r13 : Env → Reg := fun e =>
  .op (.mv (e 10)) fun t42 =>
  .op (.fieldAddr 0 (e 12)) fun t43 =>
  .op (.load none t43) fun t44 =>
  .op (.call 17 [t44]) fun t45 =>
  .op (.bin .add t42 t45) fun t46 =>
  .op (.mv t46) fun t10 =>
  .done (e.upd 10 t10)
theorem c7_r13_run {CP : CProg} (e : Env) (h : Heap) (Q : Post) : RunR CP (c7_r13 e) h Q ↔ RunR CP (
  .op (.mv (e 10)) fun t42 =>
  .op (.fieldAddr 0 (e 12)) fun t43 =>
  .op (.load none t43) fun t44 =>
  .op (.call 17 [t44]) fun t45 =>
  .op (.bin .add t42 t45) fun t46 =>
  .op (.mv t46) fun t10 =>
  .done (e.upd 10 t10)) h Q := Iff.rfl
def c7_r14 : Env → Reg := fun e =>
  .op (.mv (e 8)) fun t47 =>
  .op (.mv (e 10)) fun t48 =>
  .op (.call 18 [t47, t48]) fun t49 =>
  .done e
theorem c7_r14_run {CP : CProg} (e : Env) (h : Heap) (Q : Post) : RunR CP (c7_r14 e) h Q ↔ RunR CP (
  .op (.mv (e 8)) fun t47 =>
  .op (.mv (e 10)) fun t48 =>
  .op (.call 18 [t47, t48]) fun t49 =>
  .done e) h Q := Iff.rfl
def c7_r15 : Env → Reg := fun e =>
  .op (.mv (e 8)) fun t50 =>
  .op (.fieldAddr 1 (e 12)) fun t51 =>
  .op (.load none t51) fun t52 =>
  .op (.bin .and t52 (.int .i64 31)) fun t53 =>
  .op (.call 19 [t50, (.string ⟨#[107]⟩), t53]) fun t54 =>
  .done e
theorem c7_r15_run {CP : CProg} (e : Env) (h : Heap) (Q : Post) : RunR CP (c7_r15 e) h Q ↔ RunR CP (
  .op (.mv (e 8)) fun t50 =>
  .op (.fieldAddr 1 (e 12)) fun t51 =>
  .op (.load none t51) fun t52 =>
  .op (.bin .and t52 (.int .i64 31)) fun t53 =>
  .op (.call 19 [t50, (.string ⟨#[107]⟩), t53]) fun t54 =>
  .done e) h Q := Iff.rfl
def c7_r16 : Env → Reg := fun e =>
  .op (.bin .add (e 38) (.int .i64 1)) fun t55 =>
  .op (.mv t55) fun t38 =>
  .done (e.upd 38 t38)
theorem c7_r16_run {CP : CProg} (e : Env) (h : Heap) (Q : Post) : RunR CP (c7_r16 e) h Q ↔ RunR CP (
  .op (.bin .add (e 38) (.int .i64 1)) fun t55 =>
  .op (.mv t55) fun t38 =>
  .done (e.upd 38 t38)) h Q := Iff.rfl
def c7_l0 : CC := (.seq (.region c7_r11) (.seq (.cond (fun e => e 39) .skip (.exit 0)) (.seq (.block 1 (.seq (.region c7_r12) (.seq (.region c7_r13) (.seq (.region c7_r14) (.region c7_r15))))) (.region c7_r16))))
def c7_r17 : Env → Reg := fun e =>
  .op (.mv (e 8)) fun t56 =>
  .op (.mv (e 2)) fun t57 =>
  .op (.call 22 [t56, (.string ⟨#[107]⟩), t57]) fun t58 =>
  .op (.mv t58) fun t13 =>
  .done (e.upd 13 t13)
theorem c7_r17_run {CP : CProg} (e : Env) (h : Heap) (Q : Post) : RunR CP (c7_r17 e) h Q ↔ RunR CP (
  .op (.mv (e 8)) fun t56 =>
  .op (.mv (e 2)) fun t57 =>
  .op (.call 22 [t56, (.string ⟨#[107]⟩), t57]) fun t58 =>
  .op (.mv t58) fun t13 =>
  .done (e.upd 13 t13)) h Q := Iff.rfl
def c7_r18 : Env → Reg := fun e =>
  .op (.mv (e 13)) fun t59 =>
  .op (.bin .eql t59 (.int .i64 0)) fun t60 =>
  .done (e.upd 60 t60)
theorem c7_r18_run {CP : CProg} (e : Env) (h : Heap) (Q : Post) : RunR CP (c7_r18 e) h Q ↔ RunR CP (
  .op (.mv (e 13)) fun t59 =>
  .op (.bin .eql t59 (.int .i64 0)) fun t60 =>
  .done (e.upd 60 t60)) h Q := Iff.rfl
def c7_r19 : Env → Reg := fun e =>
  .op (.mv (e 8)) fun t61 =>
  .snap fun h1 =>
  .op (.call 20 [t61, (.string ⟨#[107]⟩)]) fun t62 =>
  .op (.mv (e 2)) fun t63 =>
  .op (.bin .add t62 t63) fun t64 =>
  .op (.fieldAddr 0 (e 7)) fun t65 =>
  .op (.load none t65) fun t66 =>
  .chk none (some h1) (.load none t65) t66 <|
  .op (.bin .leq t64 t66) fun t67 =>
  .op (.mv t67) fun t6 =>
  .done (e.upd 6 t6)
theorem c7_r19_run {CP : CProg} (e : Env) (h : Heap) (Q : Post) : RunR CP (c7_r19 e) h Q ↔ RunR CP (
  .op (.mv (e 8)) fun t61 =>
  .snap fun h1 =>
  .op (.call 20 [t61, (.string ⟨#[107]⟩)]) fun t62 =>
  .op (.mv (e 2)) fun t63 =>
  .op (.bin .add t62 t63) fun t64 =>
  .op (.fieldAddr 0 (e 7)) fun t65 =>
  .op (.load none t65) fun t66 =>
  .chk none (some h1) (.load none t65) t66 <|
  .op (.bin .leq t64 t66) fun t67 =>
  .op (.mv t67) fun t6 =>
  .done (e.upd 6 t6)) h Q := Iff.rfl
def c7_r20_c3 (e : Env) (t87 : Value) (t88 : Value) (t89 : Value) : Reg :=
  .opg t87 false (.load none t89) fun t90 =>
  .opg t87 false (.mv (e 9)) fun t91 =>
  .opg t87 false (.bin .add t90 t91) fun t92 =>
  .opg t87 false (.bin .gtr t88 t92) fun t93 =>
  .op (.pick t87 (.bool true) t93) fun t94 =>
  .done (e.upd 94 t94)
theorem c7_r20_c3_run {CP : CProg} (e : Env) (t87 : Value) (t88 : Value) (t89 : Value) (h : Heap) (Q : Post) : RunR CP (c7_r20_c3 e t87 t88 t89) h Q ↔ RunR CP (
  .opg t87 false (.load none t89) fun t90 =>
  .opg t87 false (.mv (e 9)) fun t91 =>
  .opg t87 false (.bin .add t90 t91) fun t92 =>
  .opg t87 false (.bin .gtr t88 t92) fun t93 =>
  .op (.pick t87 (.bool true) t93) fun t94 =>
  .done (e.upd 94 t94)) h Q := Iff.rfl
def c7_r20_c2 (e : Env) (t75 : Value) (t81 : Value) : Reg :=
  .op (.pick t75 (.bool true) t81) fun t82 =>
  .op (.mv t82) fun t83 =>
  .opg t83 false (.mv (e 13)) fun t84 =>
  .opg t83 false (.bin .lss t84 (.int .i64 1)) fun t85 =>
  .op (.pick t83 (.bool true) t85) fun t86 =>
  .op (.mv t86) fun t87 =>
  .opg t87 false (.mv (e 13)) fun t88 =>
  .opg t87 false (.fieldAddr 1 (e 7)) fun t89 =>
  c7_r20_c3 e t87 t88 t89
theorem c7_r20_c2_run {CP : CProg} (e : Env) (t75 : Value) (t81 : Value) (h : Heap) (Q : Post) : RunR CP (c7_r20_c2 e t75 t81) h Q ↔ RunR CP (
  .op (.pick t75 (.bool true) t81) fun t82 =>
  .op (.mv t82) fun t83 =>
  .opg t83 false (.mv (e 13)) fun t84 =>
  .opg t83 false (.bin .lss t84 (.int .i64 1)) fun t85 =>
  .op (.pick t83 (.bool true) t85) fun t86 =>
  .op (.mv t86) fun t87 =>
  .opg t87 false (.mv (e 13)) fun t88 =>
  .opg t87 false (.fieldAddr 1 (e 7)) fun t89 =>
  c7_r20_c3 e t87 t88 t89) h Q := Iff.rfl
def c7_r20_c1 (e : Env) (t71 : Value) (t73 : Value) : Reg :=
  .op (.bin .leq t71 t73) fun t74 =>
  .op (.mv t74) fun t75 =>
  .opg t75 false (.mv (e 10)) fun t76 =>
  .opg t75 false (.mv (e 13)) fun t77 =>
  .opg t75 false (.bin .add t76 t77) fun t78 =>
  .opg t75 false (.mv (e 9)) fun t79 =>
  .opg t75 false (.bin .rem t78 t79) fun t80 =>
  .opg t75 false (.bin .neq t80 (.int .i64 0)) fun t81 =>
  c7_r20_c2 e t75 t81
theorem c7_r20_c1_run {CP : CProg} (e : Env) (t71 : Value) (t73 : Value) (h : Heap) (Q : Post) : RunR CP (c7_r20_c1 e t71 t73) h Q ↔ RunR CP (
  .op (.bin .leq t71 t73) fun t74 =>
  .op (.mv t74) fun t75 =>
  .opg t75 false (.mv (e 10)) fun t76 =>
  .opg t75 false (.mv (e 13)) fun t77 =>
  .opg t75 false (.bin .add t76 t77) fun t78 =>
  .opg t75 false (.mv (e 9)) fun t79 =>
  .opg t75 false (.bin .rem t78 t79) fun t80 =>
  .opg t75 false (.bin .neq t80 (.int .i64 0)) fun t81 =>
  c7_r20_c2 e t75 t81) h Q := Iff.rfl
def c7_r20 : Env → Reg := fun e =>
  .op (.mv (e 8)) fun t68 =>
  .snap fun h1 =>
  .op (.call 20 [t68, (.string ⟨#[107]⟩)]) fun t69 =>
  .op (.mv (e 2)) fun t70 =>
  .op (.bin .add t69 t70) fun t71 =>
  .op (.fieldAddr 0 (e 7)) fun t72 =>
  .op (.load none t72) fun t73 =>
  .chk none (some h1) (.load none t72) t73 <|
  c7_r20_c1 e t71 t73
theorem c7_r20_run {CP : CProg} (e : Env) (h : Heap) (Q : Post) : RunR CP (c7_r20 e) h Q ↔ RunR CP (
  .op (.mv (e 8)) fun t68 =>
  .snap fun h1 =>
  .op (.call 20 [t68, (.string ⟨#[107]⟩)]) fun t69 =>
  .op (.mv (e 2)) fun t70 =>
  .op (.bin .add t69 t70) fun t71 =>
  .op (.fieldAddr 0 (e 7)) fun t72 =>
  .op (.load none t72) fun t73 =>
  .chk none (some h1) (.load none t72) t73 <|
  c7_r20_c1 e t71 t73) h Q := Iff.rfl
def c7_r21 : Env → Reg := fun e =>
  .op (.mv (.bool false)) fun t6 =>
  .done (e.upd 6 t6)
theorem c7_r21_run {CP : CProg} (e : Env) (h : Heap) (Q : Post) : RunR CP (c7_r21 e) h Q ↔ RunR CP (
  .op (.mv (.bool false)) fun t6 =>
  .done (e.upd 6 t6)) h Q := Iff.rfl
def c7_r22 : Env → Reg := fun e =>
  .op (.mv (e 10)) fun t95 =>
  .op (.mv (e 9)) fun t96 =>
  .op (.bin .quo t95 t96) fun t97 =>
  .op (.bin .add t97 (.int .i64 1)) fun t98 =>
  .op (.mv (e 9)) fun t99 =>
  .op (.bin .mul t98 t99) fun t100 =>
  .op (.mv t100) fun t14 =>
  .done (e.upd 14 t14)
theorem c7_r22_run {CP : CProg} (e : Env) (h : Heap) (Q : Post) : RunR CP (c7_r22 e) h Q ↔ RunR CP (
  .op (.mv (e 10)) fun t95 =>
  .op (.mv (e 9)) fun t96 =>
  .op (.bin .quo t95 t96) fun t97 =>
  .op (.bin .add t97 (.int .i64 1)) fun t98 =>
  .op (.mv (e 9)) fun t99 =>
  .op (.bin .mul t98 t99) fun t100 =>
  .op (.mv t100) fun t14 =>
  .done (e.upd 14 t14)) h Q := Iff.rfl
def c7_r23 : Env → Reg := fun e =>
  .op (.mv (e 14)) fun t101 =>
  .op (.mv (e 10)) fun t102 =>
  .op (.mv (e 13)) fun t103 =>
  .op (.bin .add t102 t103) fun t104 =>
  .op (.bin .lss t101 t104) fun t105 =>
  .done (e.upd 105 t105)
theorem c7_r23_run {CP : CProg} (e : Env) (h : Heap) (Q : Post) : RunR CP (c7_r23 e) h Q ↔ RunR CP (
  .op (.mv (e 14)) fun t101 =>
  .op (.mv (e 10)) fun t102 =>
  .op (.mv (e 13)) fun t103 =>
  .op (.bin .add t102 t103) fun t104 =>
  .op (.bin .lss t101 t104) fun t105 =>
  .done (e.upd 105 t105)) h Q := Iff.rfl
def c7_r25 : Env → Reg := fun e =>
  .op (.mv (e 8)) fun t109 =>
  .op (.mv (e 14)) fun t110 =>
  .op (.call 18 [t109, t110]) fun t111 =>
  .done e
theorem c7_r25_run {CP : CProg} (e : Env) (h : Heap) (Q : Post) : RunR CP (c7_r25 e) h Q ↔ RunR CP (
  .op (.mv (e 8)) fun t109 =>
  .op (.mv (e 14)) fun t110 =>
  .op (.call 18 [t109, t110]) fun t111 =>
  .done e) h Q := Iff.rfl
def c7_r26 : Env → Reg := fun e =>
  .op (.mv (e 8)) fun t112 =>
  .snap fun h1 =>
  .op (.call 20 [t112, (.string ⟨#[107]⟩)]) fun t113 =>
  .op (.mv (e 2)) fun t114 =>
  .op (.bin .add t113 t114) fun t115 =>
  .op (.fieldAddr 0 (e 7)) fun t116 =>
  .op (.load none t116) fun t117 =>
  .chk none (some h1) (.load none t116) t117 <|
  .op (.bin .leq t115 t117) fun t118 =>
  .done (e.upd 118 t118)
theorem c7_r26_run {CP : CProg} (e : Env) (h : Heap) (Q : Post) : RunR CP (c7_r26 e) h Q ↔ RunR CP (
  .op (.mv (e 8)) fun t112 =>
  .snap fun h1 =>
  .op (.call 20 [t112, (.string ⟨#[107]⟩)]) fun t113 =>
  .op (.mv (e 2)) fun t114 =>
  .op (.bin .add t113 t114) fun t115 =>
  .op (.fieldAddr 0 (e 7)) fun t116 =>
  .op (.load none t116) fun t117 =>
  .chk none (some h1) (.load none t116) t117 <|
  .op (.bin .leq t115 t117) fun t118 =>
  .done (e.upd 118 t118)) h Q := Iff.rfl
def c7_r27 : Env → Reg := fun e =>
  .op (.mv (.bool false)) fun t6 =>
  .done (e.upd 6 t6)
theorem c7_r27_run {CP : CProg} (e : Env) (h : Heap) (Q : Post) : RunR CP (c7_r27 e) h Q ↔ RunR CP (
  .op (.mv (.bool false)) fun t6 =>
  .done (e.upd 6 t6)) h Q := Iff.rfl
def c7_r24 : Env → Reg := fun e =>
  .op (.mv (e 14)) fun t106 =>
  .op (.mv (e 9)) fun t107 =>
  .op (.bin .add t106 t107) fun t108 =>
  .op (.mv t108) fun t14 =>
  .done (e.upd 14 t14)
theorem c7_r24_run {CP : CProg} (e : Env) (h : Heap) (Q : Post) : RunR CP (c7_r24 e) h Q ↔ RunR CP (
  .op (.mv (e 14)) fun t106 =>
  .op (.mv (e 9)) fun t107 =>
  .op (.bin .add t106 t107) fun t108 =>
  .op (.mv t108) fun t14 =>
  .done (e.upd 14 t14)) h Q := Iff.rfl
def c7_l1 : CC := (.seq (.seq (.region c7_r23) (.cond (fun e => e 105) .skip (.exit 2))) (.seq (.block 3 (.seq (.region c7_r25) (.seq (.region c7_r26) (.cond (fun e => e 118) (.seq (.region c7_r27) .ret) .skip)))) (.region c7_r24)))
def c7_r28 : Env → Reg := fun e =>
  .op (.mv (e 8)) fun t119 =>
  .op (.mv (e 10)) fun t120 =>
  .op (.mv (e 13)) fun t121 =>
  .op (.bin .add t120 t121) fun t122 =>
  .op (.call 18 [t119, t122]) fun t123 =>
  .done e
theorem c7_r28_run {CP : CProg} (e : Env) (h : Heap) (Q : Post) : RunR CP (c7_r28 e) h Q ↔ RunR CP (
  .op (.mv (e 8)) fun t119 =>
  .op (.mv (e 10)) fun t120 =>
  .op (.mv (e 13)) fun t121 =>
  .op (.bin .add t120 t121) fun t122 =>
  .op (.call 18 [t119, t122]) fun t123 =>
  .done e) h Q := Iff.rfl
def c7_r29_c1 (e : Env) (t127 : Value) (t129 : Value) : Reg :=
  .op (.bin .leq t127 t129) fun t130 =>
  .op (.mv t130) fun t131 =>
  .opg t131 true (.mv (e 8)) fun t132 =>
  .opg t131 true (.mv (e 2)) fun t133 =>
  .snap fun h10 =>
  .opg t131 true (.call 22 [t132, (.string ⟨#[107]⟩), t133]) fun t134 =>
  .opg t131 true (.bin .eql t134 (.int .i64 0)) fun t135 =>
  .op (.pick t131 t135 (.bool false)) fun t136 =>
  .op (.mv t136) fun t6 =>
  .done (e.upd 6 t6)
theorem c7_r29_c1_run {CP : CProg} (e : Env) (t127 : Value) (t129 : Value) (h : Heap) (Q : Post) : RunR CP (c7_r29_c1 e t127 t129) h Q ↔ RunR CP (
  .op (.bin .leq t127 t129) fun t130 =>
  .op (.mv t130) fun t131 =>
  .opg t131 true (.mv (e 8)) fun t132 =>
  .opg t131 true (.mv (e 2)) fun t133 =>
  .snap fun h10 =>
  .opg t131 true (.call 22 [t132, (.string ⟨#[107]⟩), t133]) fun t134 =>
  .opg t131 true (.bin .eql t134 (.int .i64 0)) fun t135 =>
  .op (.pick t131 t135 (.bool false)) fun t136 =>
  .op (.mv t136) fun t6 =>
  .done (e.upd 6 t6)) h Q := Iff.rfl
def c7_r29 : Env → Reg := fun e =>
  .op (.mv (e 8)) fun t124 =>
  .snap fun h1 =>
  .op (.call 20 [t124, (.string ⟨#[107]⟩)]) fun t125 =>
  .op (.mv (e 2)) fun t126 =>
  .op (.bin .add t125 t126) fun t127 =>
  .op (.fieldAddr 0 (e 7)) fun t128 =>
  .op (.load none t128) fun t129 =>
  .chk none (some h1) (.load none t128) t129 <|
  c7_r29_c1 e t127 t129
theorem c7_r29_run {CP : CProg} (e : Env) (h : Heap) (Q : Post) : RunR CP (c7_r29 e) h Q ↔ RunR CP (
  .op (.mv (e 8)) fun t124 =>
  .snap fun h1 =>
  .op (.call 20 [t124, (.string ⟨#[107]⟩)]) fun t125 =>
  .op (.mv (e 2)) fun t126 =>
  .op (.bin .add t125 t126) fun t127 =>
  .op (.fieldAddr 0 (e 7)) fun t128 =>
  .op (.load none t128) fun t129 =>
  .chk none (some h1) (.load none t128) t129 <|
  c7_r29_c1 e t127 t129) h Q := Iff.rfl
def c7 : CFn := ⟨(.seq (.region c7_r0) (.seq (.seq (.region c7_r1) (.cond (fun e => e 16) (.seq (.region c7_r2) .ret) .skip)) (.seq (.seq (.region c7_r3) (.cond (fun e => e 19) (.seq (.region c7_r4) .ret) .skip)) (.seq (.region c7_r5) (.seq (.region c7_r6) (.seq (.region c7_r7) (.seq (.region c7_r8) (.seq (.region c7_r9) (.seq (.seq (.region c7_r10) (.block 0 (.loop c7_l0))) (.seq (.region c7_r17) (.seq (.seq (.region c7_r18) (.cond (fun e => e 60) (.seq (.region c7_r19) .ret) .skip)) (.seq (.seq (.region c7_r20) (.cond (fun e => e 94) (.seq (.region c7_r21) .ret) .skip)) (.seq (.seq (.region c7_r22) (.block 2 (.loop c7_l1))) (.seq (.region c7_r28) (.seq (.region c7_r29) .ret))))))))))))))), [.t 6]⟩
def p7 : Pers := ⟨15, [16, 19, 36, 37, 38, 39, 60, 94, 105, 118], 137⟩
-- 8: weighbridge/weighbridgelaw07.RingCosts
def c8_r0 : Env → Reg := fun e =>
  .op (.box 23 (e 0)) fun t3 =>
  .op (.box 51 (e 2)) fun t5 =>
  .op (.mv (.bool false)) fun t6 =>
  .done (((e.upd 3 t3).upd 5 t5).upd 6 t6)
theorem c8_r0_run {CP : CProg} (e : Env) (h : Heap) (Q : Post) : RunR CP (c8_r0 e) h Q ↔ RunR CP (
  .op (.box 23 (e 0)) fun t3 =>
  .op (.box 51 (e 2)) fun t5 =>
  .op (.mv (.bool false)) fun t6 =>
  .done (((e.upd 3 t3).upd 5 t5).upd 6 t6)) h Q := Iff.rfl
def c8_r1 : Env → Reg := fun e =>
  .op (.call 10 []) fun t14 =>
  .op (.un .not t14) fun t15 =>
  .done (e.upd 15 t15)
theorem c8_r1_run {CP : CProg} (e : Env) (h : Heap) (Q : Post) : RunR CP (c8_r1 e) h Q ↔ RunR CP (
  .op (.call 10 []) fun t14 =>
  .op (.un .not t14) fun t15 =>
  .done (e.upd 15 t15)) h Q := Iff.rfl
def c8_r2 : Env → Reg := fun e =>
  .op (.mv (.bool false)) fun t6 =>
  .done (e.upd 6 t6)
theorem c8_r2_run {CP : CProg} (e : Env) (h : Heap) (Q : Post) : RunR CP (c8_r2 e) h Q ↔ RunR CP (
  .op (.mv (.bool false)) fun t6 =>
  .done (e.upd 6 t6)) h Q := Iff.rfl
def c8_r3 : Env → Reg := fun e =>
  .op (.mv (e 1)) fun t16 =>
  .op (.call 16 [t16]) fun t17 =>
  .op (.un .not t17) fun t18 =>
  .done (e.upd 18 t18)
theorem c8_r3_run {CP : CProg} (e : Env) (h : Heap) (Q : Post) : RunR CP (c8_r3 e) h Q ↔ RunR CP (
  .op (.mv (e 1)) fun t16 =>
  .op (.call 16 [t16]) fun t17 =>
  .op (.un .not t17) fun t18 =>
  .done (e.upd 18 t18)) h Q := Iff.rfl
def c8_r4 : Env → Reg := fun e =>
  .op (.mv (.bool true)) fun t6 =>
  .done (e.upd 6 t6)
theorem c8_r4_run {CP : CProg} (e : Env) (h : Heap) (Q : Post) : RunR CP (c8_r4 e) h Q ↔ RunR CP (
  .op (.mv (.bool true)) fun t6 =>
  .done (e.upd 6 t6)) h Q := Iff.rfl
def c8_r5 : Env → Reg := fun e =>
  .op (.load (some 5) (e 3)) fun t19 =>
  .op (.call 11 [t19]) fun t20 =>
  .op (.alloc 26 [(.int .i64 0), (.int .i64 0), (.int .i64 0), (.int .i64 0), (.int .i64 0), (.int .i64 0), (.int .i64 0), (.int .i64 0), (.bool false)]) fun t7 =>
  .op (.store 9 t7 t20) fun _ =>
  .done (e.upd 7 t7)
theorem c8_r5_run {CP : CProg} (e : Env) (h : Heap) (Q : Post) : RunR CP (c8_r5 e) h Q ↔ RunR CP (
  .op (.load (some 5) (e 3)) fun t19 =>
  .op (.call 11 [t19]) fun t20 =>
  .op (.alloc 26 [(.int .i64 0), (.int .i64 0), (.int .i64 0), (.int .i64 0), (.int .i64 0), (.int .i64 0), (.int .i64 0), (.int .i64 0), (.bool false)]) fun t7 =>
  .op (.store 9 t7 t20) fun _ =>
  .done (e.upd 7 t7)) h Q := Iff.rfl
def c8_r6_c1 (e : Env) (t27 : Value) (t28 : Value) : Reg :=
  .op (.load none t28) fun t29 =>
  .op (.bin .and t29 (.int .i64 63)) fun t30 =>
  .op (.fieldAddr 0 (e 7)) fun t31 =>
  .op (.load none t31) fun t32 =>
  .op (.bin .rem t30 t32) fun t33 =>
  .op (.bin .add t33 (.int .i64 1)) fun t34 =>
  .op (.mv t27) fun t8 =>
  .op (.mv t34) fun t9 =>
  .done ((e.upd 8 t8).upd 9 t9)
theorem c8_r6_c1_run {CP : CProg} (e : Env) (t27 : Value) (t28 : Value) (h : Heap) (Q : Post) : RunR CP (c8_r6_c1 e t27 t28) h Q ↔ RunR CP (
  .op (.load none t28) fun t29 =>
  .op (.bin .and t29 (.int .i64 63)) fun t30 =>
  .op (.fieldAddr 0 (e 7)) fun t31 =>
  .op (.load none t31) fun t32 =>
  .op (.bin .rem t30 t32) fun t33 =>
  .op (.bin .add t33 (.int .i64 1)) fun t34 =>
  .op (.mv t27) fun t8 =>
  .op (.mv t34) fun t9 =>
  .done ((e.upd 8 t8).upd 9 t9)) h Q := Iff.rfl
def c8_r6 : Env → Reg := fun e =>
  .op (.indexArr 2 1 (e 5) (.int .i64 0)) fun t21 =>
  .op (.load none t21) fun t22 =>
  .op (.bin .and t22 (.int .i64 63)) fun t23 =>
  .op (.fieldAddr 0 (e 7)) fun t24 =>
  .op (.load none t24) fun t25 =>
  .op (.bin .rem t23 t25) fun t26 =>
  .op (.bin .add t26 (.int .i64 1)) fun t27 =>
  .op (.indexArr 2 1 (e 5) (.int .i64 1)) fun t28 =>
  c8_r6_c1 e t27 t28
theorem c8_r6_run {CP : CProg} (e : Env) (h : Heap) (Q : Post) : RunR CP (c8_r6 e) h Q ↔ RunR CP (
  .op (.indexArr 2 1 (e 5) (.int .i64 0)) fun t21 =>
  .op (.load none t21) fun t22 =>
  .op (.bin .and t22 (.int .i64 63)) fun t23 =>
  .op (.fieldAddr 0 (e 7)) fun t24 =>
  .op (.load none t24) fun t25 =>
  .op (.bin .rem t23 t25) fun t26 =>
  .op (.bin .add t26 (.int .i64 1)) fun t27 =>
  .op (.indexArr 2 1 (e 5) (.int .i64 1)) fun t28 =>
  c8_r6_c1 e t27 t28) h Q := Iff.rfl
def c8_r7 : Env → Reg := fun e =>
  .op (.load (some 9) (e 7)) fun t35 =>
  .snap fun h1 =>
  .op (.call 13 [(.slice none 0 0), (.int .i64 1)]) fun t36 =>
  .chk none none (.load (some 9) (e 7)) t35 <|
  .snap fun h2 =>
  .op (.call 12 [t35, t36]) fun t37 =>
  .op (.mv t37) fun t10 =>
  .done (e.upd 10 t10)
theorem c8_r7_run {CP : CProg} (e : Env) (h : Heap) (Q : Post) : RunR CP (c8_r7 e) h Q ↔ RunR CP (
  .op (.load (some 9) (e 7)) fun t35 =>
  .snap fun h1 =>
  .op (.call 13 [(.slice none 0 0), (.int .i64 1)]) fun t36 =>
  .chk none none (.load (some 9) (e 7)) t35 <|
  .snap fun h2 =>
  .op (.call 12 [t35, t36]) fun t37 =>
  .op (.mv t37) fun t10 =>
  .done (e.upd 10 t10)) h Q := Iff.rfl
def c8_r8 : Env → Reg := fun e =>
  .op (.mv (.int .i64 0)) fun t11 =>
  .done (e.upd 11 t11)
theorem c8_r8_run {CP : CProg} (e : Env) (h : Heap) (Q : Post) : RunR CP (c8_r8 e) h Q ↔ RunR CP (
  .op (.mv (.int .i64 0)) fun t11 =>
  .done (e.upd 11 t11)) h Q := Iff.rfl
def c8_r9 : Env → Reg := fun e =>
  .op (.mv (e 1)) fun t38 =>
  .op (.lenSl t38) fun t39 =>
  .op (.mv (.int .i64 0)) fun t40 =>
  .done (((e.upd 38 t38).upd 39 t39).upd 40 t40)
theorem c8_r9_run {CP : CProg} (e : Env) (h : Heap) (Q : Post) : RunR CP (c8_r9 e) h Q ↔ RunR CP (
  .op (.mv (e 1)) fun t38 =>
  .op (.lenSl t38) fun t39 =>
  .op (.mv (.int .i64 0)) fun t40 =>
  .done (((e.upd 38 t38).upd 39 t39).upd 40 t40)) h Q := Iff.rfl
def c8_r10 : Env → Reg := fun e =>
  .op (.bin .lss (e 40) (e 39)) fun t41 =>
  .done (e.upd 41 t41)
theorem c8_r10_run {CP : CProg} (e : Env) (h : Heap) (Q : Post) : RunR CP (c8_r10 e) h Q ↔ RunR CP (
  .op (.bin .lss (e 40) (e 39)) fun t41 =>
  .done (e.upd 41 t41)) h Q := Iff.rfl
def c8_r11 : Env → Reg := fun e =>
  .op (.indexSl 3 (e 38) (e 40)) fun t42 =>
  .op (.load (some 3) t42) fun t43 =>
  .op (.alloc 40 [(.int .i64 0), (.int .i64 0), (.string ⟨#[]⟩)]) fun t13 =>
  .op (.store 3 t13 t43) fun _ =>
  .done (e.upd 13 t13)
theorem c8_r11_run {CP : CProg} (e : Env) (h : Heap) (Q : Post) : RunR CP (c8_r11 e) h Q ↔ RunR CP (
  .op (.indexSl 3 (e 38) (e 40)) fun t42 =>
  .op (.load (some 3) t42) fun t43 =>
  .op (.alloc 40 [(.int .i64 0), (.int .i64 0), (.string ⟨#[]⟩)]) fun t13 =>
  .op (.store 3 t13 t43) fun _ =>
  .done (e.upd 13 t13)) h Q := Iff.rfl
def c8_r12 : Env → Reg := fun e =>
  .op (.mv (e 11)) fun t44 =>
  .op (.fieldAddr 0 (e 13)) fun t45 =>
  .op (.load none t45) fun t46 =>
  .op (.call 17 [t46]) fun t47 =>
  .op (.bin .add t44 t47) fun t48 =>
  .op (.mv t48) fun t11 =>
  .done (e.upd 11 t11)
theorem c8_r12_run {CP : CProg} (e : Env) (h : Heap) (Q : Post) : RunR CP (c8_r12 e) h Q ↔ RunR CP (
  .op (.mv (e 11)) fun t44 =>
  .op (.fieldAddr 0 (e 13)) fun t45 =>
  .op (.load none t45) fun t46 =>
  .op (.call 17 [t46]) fun t47 =>
  .op (.bin .add t44 t47) fun t48 =>
  .op (.mv t48) fun t11 =>
  .done (e.upd 11 t11)) h Q := Iff.rfl
def c8_r13 : Env → Reg := fun e =>
  .op (.mv (e 10)) fun t49 =>
  .op (.mv (e 11)) fun t50 =>
  .op (.call 18 [t49, t50]) fun t51 =>
  .done e
theorem c8_r13_run {CP : CProg} (e : Env) (h : Heap) (Q : Post) : RunR CP (c8_r13 e) h Q ↔ RunR CP (
  .op (.mv (e 10)) fun t49 =>
  .op (.mv (e 11)) fun t50 =>
  .op (.call 18 [t49, t50]) fun t51 =>
  .done e) h Q := Iff.rfl
def c8_r14 : Env → Reg := fun e =>
  .op (.mv (e 10)) fun t52 =>
  .op (.fieldAddr 1 (e 13)) fun t53 =>
  .op (.load none t53) fun t54 =>
  .op (.bin .and t54 (.int .i64 31)) fun t55 =>
  .op (.call 19 [t52, (.string ⟨#[107]⟩), t55]) fun t56 =>
  .done e
theorem c8_r14_run {CP : CProg} (e : Env) (h : Heap) (Q : Post) : RunR CP (c8_r14 e) h Q ↔ RunR CP (
  .op (.mv (e 10)) fun t52 =>
  .op (.fieldAddr 1 (e 13)) fun t53 =>
  .op (.load none t53) fun t54 =>
  .op (.bin .and t54 (.int .i64 31)) fun t55 =>
  .op (.call 19 [t52, (.string ⟨#[107]⟩), t55]) fun t56 =>
  .done e) h Q := Iff.rfl
def c8_r15 : Env → Reg := fun e =>
  .op (.bin .add (e 40) (.int .i64 1)) fun t57 =>
  .op (.mv t57) fun t40 =>
  .done (e.upd 40 t40)
theorem c8_r15_run {CP : CProg} (e : Env) (h : Heap) (Q : Post) : RunR CP (c8_r15 e) h Q ↔ RunR CP (
  .op (.bin .add (e 40) (.int .i64 1)) fun t57 =>
  .op (.mv t57) fun t40 =>
  .done (e.upd 40 t40)) h Q := Iff.rfl
def c8_l0 : CC := (.seq (.region c8_r10) (.seq (.cond (fun e => e 41) .skip (.exit 0)) (.seq (.block 1 (.seq (.region c8_r11) (.seq (.region c8_r12) (.seq (.region c8_r13) (.region c8_r14))))) (.region c8_r15))))
def c8_r16_c1 (e : Env) (t62 : Value) (t63 : Value) (t64 : Value) (t65 : Value) : Reg :=
  .op (.minmax true [t64, t65]) fun t66 =>
  .op (.call 22 [t63, (.string ⟨#[107]⟩), t66]) fun t67 =>
  .op (.bin .leq t62 t67) fun t68 =>
  .op (.mv t68) fun t6 =>
  .done (e.upd 6 t6)
theorem c8_r16_c1_run {CP : CProg} (e : Env) (t62 : Value) (t63 : Value) (t64 : Value) (t65 : Value) (h : Heap) (Q : Post) : RunR CP (c8_r16_c1 e t62 t63 t64 t65) h Q ↔ RunR CP (
  .op (.minmax true [t64, t65]) fun t66 =>
  .op (.call 22 [t63, (.string ⟨#[107]⟩), t66]) fun t67 =>
  .op (.bin .leq t62 t67) fun t68 =>
  .op (.mv t68) fun t6 =>
  .done (e.upd 6 t6)) h Q := Iff.rfl
def c8_r16 : Env → Reg := fun e =>
  .op (.mv (e 10)) fun t58 =>
  .op (.mv (e 8)) fun t59 =>
  .op (.mv (e 9)) fun t60 =>
  .op (.minmax false [t59, t60]) fun t61 =>
  .op (.call 22 [t58, (.string ⟨#[107]⟩), t61]) fun t62 =>
  .op (.mv (e 10)) fun t63 =>
  .op (.mv (e 8)) fun t64 =>
  .op (.mv (e 9)) fun t65 =>
  c8_r16_c1 e t62 t63 t64 t65
theorem c8_r16_run {CP : CProg} (e : Env) (h : Heap) (Q : Post) : RunR CP (c8_r16 e) h Q ↔ RunR CP (
  .op (.mv (e 10)) fun t58 =>
  .op (.mv (e 8)) fun t59 =>
  .op (.mv (e 9)) fun t60 =>
  .op (.minmax false [t59, t60]) fun t61 =>
  .op (.call 22 [t58, (.string ⟨#[107]⟩), t61]) fun t62 =>
  .op (.mv (e 10)) fun t63 =>
  .op (.mv (e 8)) fun t64 =>
  .op (.mv (e 9)) fun t65 =>
  c8_r16_c1 e t62 t63 t64 t65) h Q := Iff.rfl
def c8 : CFn := ⟨(.seq (.region c8_r0) (.seq (.seq (.region c8_r1) (.cond (fun e => e 15) (.seq (.region c8_r2) .ret) .skip)) (.seq (.seq (.region c8_r3) (.cond (fun e => e 18) (.seq (.region c8_r4) .ret) .skip)) (.seq (.region c8_r5) (.seq (.region c8_r6) (.seq (.region c8_r7) (.seq (.region c8_r8) (.seq (.seq (.region c8_r9) (.block 0 (.loop c8_l0))) (.seq (.region c8_r16) .ret))))))))), [.t 6]⟩
def p8 : Pers := ⟨14, [15, 18, 38, 39, 40, 41], 69⟩
-- 9: weighbridge/weighbridgelaw07.RingJumps
def c9_r0 : Env → Reg := fun e =>
  .op (.box 23 (e 0)) fun t3 =>
  .op (.mv (.bool false)) fun t6 =>
  .done ((e.upd 3 t3).upd 6 t6)
theorem c9_r0_run {CP : CProg} (e : Env) (h : Heap) (Q : Post) : RunR CP (c9_r0 e) h Q ↔ RunR CP (
  .op (.box 23 (e 0)) fun t3 =>
  .op (.mv (.bool false)) fun t6 =>
  .done ((e.upd 3 t3).upd 6 t6)) h Q := Iff.rfl
def c9_r1 : Env → Reg := fun e =>
  .op (.call 10 []) fun t16 =>
  .op (.un .not t16) fun t17 =>
  .done (e.upd 17 t17)
theorem c9_r1_run {CP : CProg} (e : Env) (h : Heap) (Q : Post) : RunR CP (c9_r1 e) h Q ↔ RunR CP (
  .op (.call 10 []) fun t16 =>
  .op (.un .not t16) fun t17 =>
  .done (e.upd 17 t17)) h Q := Iff.rfl
def c9_r2 : Env → Reg := fun e =>
  .op (.mv (.bool false)) fun t6 =>
  .done (e.upd 6 t6)
theorem c9_r2_run {CP : CProg} (e : Env) (h : Heap) (Q : Post) : RunR CP (c9_r2 e) h Q ↔ RunR CP (
  .op (.mv (.bool false)) fun t6 =>
  .done (e.upd 6 t6)) h Q := Iff.rfl
def c9_r3 : Env → Reg := fun e =>
  .op (.mv (e 1)) fun t18 =>
  .op (.call 16 [t18]) fun t19 =>
  .op (.un .not t19) fun t20 =>
  .done (e.upd 20 t20)
theorem c9_r3_run {CP : CProg} (e : Env) (h : Heap) (Q : Post) : RunR CP (c9_r3 e) h Q ↔ RunR CP (
  .op (.mv (e 1)) fun t18 =>
  .op (.call 16 [t18]) fun t19 =>
  .op (.un .not t19) fun t20 =>
  .done (e.upd 20 t20)) h Q := Iff.rfl
def c9_r4 : Env → Reg := fun e =>
  .op (.mv (.bool true)) fun t6 =>
  .done (e.upd 6 t6)
theorem c9_r4_run {CP : CProg} (e : Env) (h : Heap) (Q : Post) : RunR CP (c9_r4 e) h Q ↔ RunR CP (
  .op (.mv (.bool true)) fun t6 =>
  .done (e.upd 6 t6)) h Q := Iff.rfl
def c9_r5 : Env → Reg := fun e =>
  .op (.load (some 5) (e 3)) fun t21 =>
  .op (.call 11 [t21]) fun t22 =>
  .op (.alloc 26 [(.int .i64 0), (.int .i64 0), (.int .i64 0), (.int .i64 0), (.int .i64 0), (.int .i64 0), (.int .i64 0), (.int .i64 0), (.bool false)]) fun t7 =>
  .op (.store 9 t7 t22) fun _ =>
  .done (e.upd 7 t7)
theorem c9_r5_run {CP : CProg} (e : Env) (h : Heap) (Q : Post) : RunR CP (c9_r5 e) h Q ↔ RunR CP (
  .op (.load (some 5) (e 3)) fun t21 =>
  .op (.call 11 [t21]) fun t22 =>
  .op (.alloc 26 [(.int .i64 0), (.int .i64 0), (.int .i64 0), (.int .i64 0), (.int .i64 0), (.int .i64 0), (.int .i64 0), (.int .i64 0), (.bool false)]) fun t7 =>
  .op (.store 9 t7 t22) fun _ =>
  .done (e.upd 7 t7)) h Q := Iff.rfl
def c9_r6_c1 (e : Env) (h1 : Heap) (t25 : Value) (t26 : Value) : Reg :=
  .chk none (some h1) (.load (some 9) (e 7)) t26 <|
  .snap fun h4 =>
  .op (.call 13 [(.slice none 0 0), (.int .i64 2)]) fun t27 =>
  .chk none none (.load (some 9) (e 7)) t26 <|
  .snap fun h5 =>
  .op (.call 12 [t26, t27]) fun t28 =>
  .op (.mv t25) fun t8 =>
  .op (.mv t28) fun t9 =>
  .done ((e.upd 8 t8).upd 9 t9)
theorem c9_r6_c1_run {CP : CProg} (e : Env) (h1 : Heap) (t25 : Value) (t26 : Value) (h : Heap) (Q : Post) : RunR CP (c9_r6_c1 e h1 t25 t26) h Q ↔ RunR CP (
  .chk none (some h1) (.load (some 9) (e 7)) t26 <|
  .snap fun h4 =>
  .op (.call 13 [(.slice none 0 0), (.int .i64 2)]) fun t27 =>
  .chk none none (.load (some 9) (e 7)) t26 <|
  .snap fun h5 =>
  .op (.call 12 [t26, t27]) fun t28 =>
  .op (.mv t25) fun t8 =>
  .op (.mv t28) fun t9 =>
  .done ((e.upd 8 t8).upd 9 t9)) h Q := Iff.rfl
def c9_r6 : Env → Reg := fun e =>
  .op (.load (some 9) (e 7)) fun t23 =>
  .snap fun h1 =>
  .op (.call 13 [(.slice none 0 0), (.int .i64 2)]) fun t24 =>
  .chk none none (.load (some 9) (e 7)) t23 <|
  .snap fun h2 =>
  .op (.call 12 [t23, t24]) fun t25 =>
  .op (.load (some 9) (e 7)) fun t26 =>
  .chk none (some h2) (.load (some 9) (e 7)) t26 <|
  c9_r6_c1 e h1 t25 t26
theorem c9_r6_run {CP : CProg} (e : Env) (h : Heap) (Q : Post) : RunR CP (c9_r6 e) h Q ↔ RunR CP (
  .op (.load (some 9) (e 7)) fun t23 =>
  .snap fun h1 =>
  .op (.call 13 [(.slice none 0 0), (.int .i64 2)]) fun t24 =>
  .chk none none (.load (some 9) (e 7)) t23 <|
  .snap fun h2 =>
  .op (.call 12 [t23, t24]) fun t25 =>
  .op (.load (some 9) (e 7)) fun t26 =>
  .chk none (some h2) (.load (some 9) (e 7)) t26 <|
  c9_r6_c1 e h1 t25 t26) h Q := Iff.rfl
def c9_r7 : Env → Reg := fun e =>
  .op (.mv (.int .i64 0)) fun t10 =>
  .done (e.upd 10 t10)
theorem c9_r7_run {CP : CProg} (e : Env) (h : Heap) (Q : Post) : RunR CP (c9_r7 e) h Q ↔ RunR CP (
  .op (.mv (.int .i64 0)) fun t10 =>
  .done (e.upd 10 t10)) h Q := Iff.rfl
def c9_r8 : Env → Reg := fun e =>
  .op (.mv (e 1)) fun t29 =>
  .op (.lenSl t29) fun t30 =>
  .op (.mv (.int .i64 0)) fun t31 =>
  .done (((e.upd 29 t29).upd 30 t30).upd 31 t31)
theorem c9_r8_run {CP : CProg} (e : Env) (h : Heap) (Q : Post) : RunR CP (c9_r8 e) h Q ↔ RunR CP (
  .op (.mv (e 1)) fun t29 =>
  .op (.lenSl t29) fun t30 =>
  .op (.mv (.int .i64 0)) fun t31 =>
  .done (((e.upd 29 t29).upd 30 t30).upd 31 t31)) h Q := Iff.rfl
def c9_r9 : Env → Reg := fun e =>
  .op (.bin .lss (e 31) (e 30)) fun t32 =>
  .done (e.upd 32 t32)
theorem c9_r9_run {CP : CProg} (e : Env) (h : Heap) (Q : Post) : RunR CP (c9_r9 e) h Q ↔ RunR CP (
  .op (.bin .lss (e 31) (e 30)) fun t32 =>
  .done (e.upd 32 t32)) h Q := Iff.rfl
def c9_r10 : Env → Reg := fun e =>
  .op (.indexSl 3 (e 29) (e 31)) fun t33 =>
  .op (.load (some 3) t33) fun t34 =>
  .op (.alloc 40 [(.int .i64 0), (.int .i64 0), (.string ⟨#[]⟩)]) fun t12 =>
  .op (.store 3 t12 t34) fun _ =>
  .done (e.upd 12 t12)
theorem c9_r10_run {CP : CProg} (e : Env) (h : Heap) (Q : Post) : RunR CP (c9_r10 e) h Q ↔ RunR CP (
  .op (.indexSl 3 (e 29) (e 31)) fun t33 =>
  .op (.load (some 3) t33) fun t34 =>
  .op (.alloc 40 [(.int .i64 0), (.int .i64 0), (.string ⟨#[]⟩)]) fun t12 =>
  .op (.store 3 t12 t34) fun _ =>
  .done (e.upd 12 t12)) h Q := Iff.rfl
def c9_r11 : Env → Reg := fun e =>
  .op (.mv (e 10)) fun t35 =>
  .op (.fieldAddr 0 (e 12)) fun t36 =>
  .op (.load none t36) fun t37 =>
  .op (.call 17 [t37]) fun t38 =>
  .op (.bin .add t35 t38) fun t39 =>
  .op (.mv t39) fun t10 =>
  .done (e.upd 10 t10)
theorem c9_r11_run {CP : CProg} (e : Env) (h : Heap) (Q : Post) : RunR CP (c9_r11 e) h Q ↔ RunR CP (
  .op (.mv (e 10)) fun t35 =>
  .op (.fieldAddr 0 (e 12)) fun t36 =>
  .op (.load none t36) fun t37 =>
  .op (.call 17 [t37]) fun t38 =>
  .op (.bin .add t35 t38) fun t39 =>
  .op (.mv t39) fun t10 =>
  .done (e.upd 10 t10)) h Q := Iff.rfl
def c9_r12 : Env → Reg := fun e =>
  .op (.mv (e 8)) fun t40 =>
  .op (.mv (e 10)) fun t41 =>
  .op (.call 18 [t40, t41]) fun t42 =>
  .done e
theorem c9_r12_run {CP : CProg} (e : Env) (h : Heap) (Q : Post) : RunR CP (c9_r12 e) h Q ↔ RunR CP (
  .op (.mv (e 8)) fun t40 =>
  .op (.mv (e 10)) fun t41 =>
  .op (.call 18 [t40, t41]) fun t42 =>
  .done e) h Q := Iff.rfl
def c9_r13 : Env → Reg := fun e =>
  .op (.mv (e 8)) fun t43 =>
  .op (.fieldAddr 2 (e 12)) fun t44 =>
  .op (.load none t44) fun t45 =>
  .op (.fieldAddr 1 (e 12)) fun t46 =>
  .op (.load none t46) fun t47 =>
  .op (.bin .and t47 (.int .i64 255)) fun t48 =>
  .op (.call 19 [t43, t45, t48]) fun t49 =>
  .done e
theorem c9_r13_run {CP : CProg} (e : Env) (h : Heap) (Q : Post) : RunR CP (c9_r13 e) h Q ↔ RunR CP (
  .op (.mv (e 8)) fun t43 =>
  .op (.fieldAddr 2 (e 12)) fun t44 =>
  .op (.load none t44) fun t45 =>
  .op (.fieldAddr 1 (e 12)) fun t46 =>
  .op (.load none t46) fun t47 =>
  .op (.bin .and t47 (.int .i64 255)) fun t48 =>
  .op (.call 19 [t43, t45, t48]) fun t49 =>
  .done e) h Q := Iff.rfl
def c9_r14 : Env → Reg := fun e =>
  .op (.bin .add (e 31) (.int .i64 1)) fun t50 =>
  .op (.mv t50) fun t31 =>
  .done (e.upd 31 t31)
theorem c9_r14_run {CP : CProg} (e : Env) (h : Heap) (Q : Post) : RunR CP (c9_r14 e) h Q ↔ RunR CP (
  .op (.bin .add (e 31) (.int .i64 1)) fun t50 =>
  .op (.mv t50) fun t31 =>
  .done (e.upd 31 t31)) h Q := Iff.rfl
def c9_l0 : CC := (.seq (.region c9_r9) (.seq (.cond (fun e => e 32) .skip (.exit 0)) (.seq (.block 1 (.seq (.region c9_r10) (.seq (.region c9_r11) (.seq (.region c9_r12) (.region c9_r13))))) (.region c9_r14))))
def c9_r15 : Env → Reg := fun e =>
  .op (.mv (e 10)) fun t51 =>
  .op (.fieldAddr 1 (e 7)) fun t52 =>
  .op (.load none t52) fun t53 =>
  .op (.bin .mul (.int .i64 2) t53) fun t54 =>
  .op (.bin .add t54 (.int .i64 2)) fun t55 =>
  .op (.mv (e 2)) fun t56 =>
  .op (.bin .and t56 (.int .i64 1152921504606846975)) fun t57 =>
  .op (.bin .add t55 t57) fun t58 =>
  .op (.bin .add t51 t58) fun t59 =>
  .op (.mv t59) fun t10 =>
  .done (e.upd 10 t10)
theorem c9_r15_run {CP : CProg} (e : Env) (h : Heap) (Q : Post) : RunR CP (c9_r15 e) h Q ↔ RunR CP (
  .op (.mv (e 10)) fun t51 =>
  .op (.fieldAddr 1 (e 7)) fun t52 =>
  .op (.load none t52) fun t53 =>
  .op (.bin .mul (.int .i64 2) t53) fun t54 =>
  .op (.bin .add t54 (.int .i64 2)) fun t55 =>
  .op (.mv (e 2)) fun t56 =>
  .op (.bin .and t56 (.int .i64 1152921504606846975)) fun t57 =>
  .op (.bin .add t55 t57) fun t58 =>
  .op (.bin .add t51 t58) fun t59 =>
  .op (.mv t59) fun t10 =>
  .done (e.upd 10 t10)) h Q := Iff.rfl
def c9_r16 : Env → Reg := fun e =>
  .op (.mv (e 8)) fun t60 =>
  .op (.mv (e 10)) fun t61 =>
  .op (.call 18 [t60, t61]) fun t62 =>
  .done e
theorem c9_r16_run {CP : CProg} (e : Env) (h : Heap) (Q : Post) : RunR CP (c9_r16 e) h Q ↔ RunR CP (
  .op (.mv (e 8)) fun t60 =>
  .op (.mv (e 10)) fun t61 =>
  .op (.call 18 [t60, t61]) fun t62 =>
  .done e) h Q := Iff.rfl
def c9_r17 : Env → Reg := fun e =>
  .op (.mv (e 9)) fun t63 =>
  .op (.mv (e 10)) fun t64 =>
  .op (.call 18 [t63, t64]) fun t65 =>
  .done e
theorem c9_r17_run {CP : CProg} (e : Env) (h : Heap) (Q : Post) : RunR CP (c9_r17 e) h Q ↔ RunR CP (
  .op (.mv (e 9)) fun t63 =>
  .op (.mv (e 10)) fun t64 =>
  .op (.call 18 [t63, t64]) fun t65 =>
  .done e) h Q := Iff.rfl
def c9_r18 : Env → Reg := fun e =>
  .op (.mv (e 1)) fun t66 =>
  .op (.lenSl t66) fun t67 =>
  .op (.mv (.int .i64 0)) fun t68 =>
  .done (((e.upd 66 t66).upd 67 t67).upd 68 t68)
theorem c9_r18_run {CP : CProg} (e : Env) (h : Heap) (Q : Post) : RunR CP (c9_r18 e) h Q ↔ RunR CP (
  .op (.mv (e 1)) fun t66 =>
  .op (.lenSl t66) fun t67 =>
  .op (.mv (.int .i64 0)) fun t68 =>
  .done (((e.upd 66 t66).upd 67 t67).upd 68 t68)) h Q := Iff.rfl
def c9_r19 : Env → Reg := fun e =>
  .op (.bin .lss (e 68) (e 67)) fun t69 =>
  .done (e.upd 69 t69)
theorem c9_r19_run {CP : CProg} (e : Env) (h : Heap) (Q : Post) : RunR CP (c9_r19 e) h Q ↔ RunR CP (
  .op (.bin .lss (e 68) (e 67)) fun t69 =>
  .done (e.upd 69 t69)) h Q := Iff.rfl
def c9_r20 : Env → Reg := fun e =>
  .op (.indexSl 3 (e 66) (e 68)) fun t70 =>
  .op (.load (some 3) t70) fun t71 =>
  .op (.alloc 40 [(.int .i64 0), (.int .i64 0), (.string ⟨#[]⟩)]) fun t14 =>
  .op (.store 3 t14 t71) fun _ =>
  .done (e.upd 14 t14)
theorem c9_r20_run {CP : CProg} (e : Env) (h : Heap) (Q : Post) : RunR CP (c9_r20 e) h Q ↔ RunR CP (
  .op (.indexSl 3 (e 66) (e 68)) fun t70 =>
  .op (.load (some 3) t70) fun t71 =>
  .op (.alloc 40 [(.int .i64 0), (.int .i64 0), (.string ⟨#[]⟩)]) fun t14 =>
  .op (.store 3 t14 t71) fun _ =>
  .done (e.upd 14 t14)) h Q := Iff.rfl
def c9_r21_c1 (e : Env) (h3 : Heap) (t75 : Value) (t76 : Value) (t77 : Value) (t78 : Value) : Reg :=
  .chk none (some h3) (.load none t77) t78 <|
  .snap fun h7 =>
  .op (.call 20 [t76, t78]) fun t79 =>
  .op (.bin .neq t75 t79) fun t80 =>
  .done (e.upd 80 t80)
theorem c9_r21_c1_run {CP : CProg} (e : Env) (h3 : Heap) (t75 : Value) (t76 : Value) (t77 : Value) (t78 : Value) (h : Heap) (Q : Post) : RunR CP (c9_r21_c1 e h3 t75 t76 t77 t78) h Q ↔ RunR CP (
  .chk none (some h3) (.load none t77) t78 <|
  .snap fun h7 =>
  .op (.call 20 [t76, t78]) fun t79 =>
  .op (.bin .neq t75 t79) fun t80 =>
  .done (e.upd 80 t80)) h Q := Iff.rfl
def c9_r21 : Env → Reg := fun e =>
  .op (.mv (e 8)) fun t72 =>
  .op (.fieldAddr 2 (e 14)) fun t73 =>
  .op (.load none t73) fun t74 =>
  .snap fun h3 =>
  .op (.call 20 [t72, t74]) fun t75 =>
  .op (.mv (e 9)) fun t76 =>
  .op (.fieldAddr 2 (e 14)) fun t77 =>
  .op (.load none t77) fun t78 =>
  c9_r21_c1 e h3 t75 t76 t77 t78
theorem c9_r21_run {CP : CProg} (e : Env) (h : Heap) (Q : Post) : RunR CP (c9_r21 e) h Q ↔ RunR CP (
  .op (.mv (e 8)) fun t72 =>
  .op (.fieldAddr 2 (e 14)) fun t73 =>
  .op (.load none t73) fun t74 =>
  .snap fun h3 =>
  .op (.call 20 [t72, t74]) fun t75 =>
  .op (.mv (e 9)) fun t76 =>
  .op (.fieldAddr 2 (e 14)) fun t77 =>
  .op (.load none t77) fun t78 =>
  c9_r21_c1 e h3 t75 t76 t77 t78) h Q := Iff.rfl
def c9_r22 : Env → Reg := fun e =>
  .op (.mv (.bool false)) fun t6 =>
  .done (e.upd 6 t6)
theorem c9_r22_run {CP : CProg} (e : Env) (h : Heap) (Q : Post) : RunR CP (c9_r22 e) h Q ↔ RunR CP (
  .op (.mv (.bool false)) fun t6 =>
  .done (e.upd 6 t6)) h Q := Iff.rfl
def c9_r23 : Env → Reg := fun e =>
  .op (.mv (e 8)) fun t81 =>
  .op (.fieldAddr 2 (e 14)) fun t82 =>
  .op (.load none t82) fun t83 =>
  .op (.fieldAddr 1 (e 14)) fun t84 =>
  .op (.load none t84) fun t85 =>
  .op (.bin .and t85 (.int .i64 255)) fun t86 =>
  .op (.call 19 [t81, t83, t86]) fun t87 =>
  .done e
theorem c9_r23_run {CP : CProg} (e : Env) (h : Heap) (Q : Post) : RunR CP (c9_r23 e) h Q ↔ RunR CP (
  .op (.mv (e 8)) fun t81 =>
  .op (.fieldAddr 2 (e 14)) fun t82 =>
  .op (.load none t82) fun t83 =>
  .op (.fieldAddr 1 (e 14)) fun t84 =>
  .op (.load none t84) fun t85 =>
  .op (.bin .and t85 (.int .i64 255)) fun t86 =>
  .op (.call 19 [t81, t83, t86]) fun t87 =>
  .done e) h Q := Iff.rfl
def c9_r24 : Env → Reg := fun e =>
  .op (.mv (e 9)) fun t88 =>
  .op (.fieldAddr 2 (e 14)) fun t89 =>
  .op (.load none t89) fun t90 =>
  .op (.fieldAddr 1 (e 14)) fun t91 =>
  .op (.load none t91) fun t92 =>
  .op (.bin .and t92 (.int .i64 255)) fun t93 =>
  .op (.call 19 [t88, t90, t93]) fun t94 =>
  .done e
theorem c9_r24_run {CP : CProg} (e : Env) (h : Heap) (Q : Post) : RunR CP (c9_r24 e) h Q ↔ RunR CP (
  .op (.mv (e 9)) fun t88 =>
  .op (.fieldAddr 2 (e 14)) fun t89 =>
  .op (.load none t89) fun t90 =>
  .op (.fieldAddr 1 (e 14)) fun t91 =>
  .op (.load none t91) fun t92 =>
  .op (.bin .and t92 (.int .i64 255)) fun t93 =>
  .op (.call 19 [t88, t90, t93]) fun t94 =>
  .done e) h Q := Iff.rfl
def c9_r25 : Env → Reg := fun e =>
  .op (.mv (e 10)) fun t95 =>
  .op (.fieldAddr 0 (e 14)) fun t96 =>
  .op (.load none t96) fun t97 =>
  .op (.call 17 [t97]) fun t98 =>
  .op (.bin .add t95 t98) fun t99 =>
  .op (.mv t99) fun t10 =>
  .done (e.upd 10 t10)
theorem c9_r25_run {CP : CProg} (e : Env) (h : Heap) (Q : Post) : RunR CP (c9_r25 e) h Q ↔ RunR CP (
  .op (.mv (e 10)) fun t95 =>
  .op (.fieldAddr 0 (e 14)) fun t96 =>
  .op (.load none t96) fun t97 =>
  .op (.call 17 [t97]) fun t98 =>
  .op (.bin .add t95 t98) fun t99 =>
  .op (.mv t99) fun t10 =>
  .done (e.upd 10 t10)) h Q := Iff.rfl
def c9_r26 : Env → Reg := fun e =>
  .op (.mv (e 8)) fun t100 =>
  .op (.mv (e 10)) fun t101 =>
  .op (.call 18 [t100, t101]) fun t102 =>
  .done e
theorem c9_r26_run {CP : CProg} (e : Env) (h : Heap) (Q : Post) : RunR CP (c9_r26 e) h Q ↔ RunR CP (
  .op (.mv (e 8)) fun t100 =>
  .op (.mv (e 10)) fun t101 =>
  .op (.call 18 [t100, t101]) fun t102 =>
  .done e) h Q := Iff.rfl
def c9_r27 : Env → Reg := fun e =>
  .op (.mv (e 9)) fun t103 =>
  .op (.mv (e 10)) fun t104 =>
  .op (.call 18 [t103, t104]) fun t105 =>
  .done e
theorem c9_r27_run {CP : CProg} (e : Env) (h : Heap) (Q : Post) : RunR CP (c9_r27 e) h Q ↔ RunR CP (
  .op (.mv (e 9)) fun t103 =>
  .op (.mv (e 10)) fun t104 =>
  .op (.call 18 [t103, t104]) fun t105 =>
  .done e) h Q := Iff.rfl
def c9_r28 : Env → Reg := fun e =>
  .op (.bin .add (e 68) (.int .i64 1)) fun t106 =>
  .op (.mv t106) fun t68 =>
  .done (e.upd 68 t68)
theorem c9_r28_run {CP : CProg} (e : Env) (h : Heap) (Q : Post) : RunR CP (c9_r28 e) h Q ↔ RunR CP (
  .op (.bin .add (e 68) (.int .i64 1)) fun t106 =>
  .op (.mv t106) fun t68 =>
  .done (e.upd 68 t68)) h Q := Iff.rfl
def c9_l1 : CC := (.seq (.region c9_r19) (.seq (.cond (fun e => e 69) .skip (.exit 2)) (.seq (.block 3 (.seq (.region c9_r20) (.seq (.seq (.region c9_r21) (.cond (fun e => e 80) (.seq (.region c9_r22) .ret) .skip)) (.seq (.region c9_r23) (.seq (.region c9_r24) (.seq (.region c9_r25) (.seq (.region c9_r26) (.region c9_r27)))))))) (.region c9_r28))))
def c9_r29 : Env → Reg := fun e =>
  .op (.mv (.pointer none)) fun t15 =>
  .done (e.upd 15 t15)
theorem c9_r29_run {CP : CProg} (e : Env) (h : Heap) (Q : Post) : RunR CP (c9_r29 e) h Q ↔ RunR CP (
  .op (.mv (.pointer none)) fun t15 =>
  .done (e.upd 15 t15)) h Q := Iff.rfl
def c9_r30 : Env → Reg := fun e =>
  .op (.mv (e 15)) fun t107 =>
  .op (.call 18 [t107, (.int .i64 3)]) fun t108 =>
  .done e
theorem c9_r30_run {CP : CProg} (e : Env) (h : Heap) (Q : Post) : RunR CP (c9_r30 e) h Q ↔ RunR CP (
  .op (.mv (e 15)) fun t107 =>
  .op (.call 18 [t107, (.int .i64 3)]) fun t108 =>
  .done e) h Q := Iff.rfl
def c9_r31 : Env → Reg := fun e =>
  .op (.mv (e 15)) fun t109 =>
  .op (.call 19 [t109, (.string ⟨#[97]⟩), (.int .i64 1)]) fun t110 =>
  .done e
theorem c9_r31_run {CP : CProg} (e : Env) (h : Heap) (Q : Post) : RunR CP (c9_r31 e) h Q ↔ RunR CP (
  .op (.mv (e 15)) fun t109 =>
  .op (.call 19 [t109, (.string ⟨#[97]⟩), (.int .i64 1)]) fun t110 =>
  .done e) h Q := Iff.rfl
def c9_r32_c2 (e : Env) (t124 : Value) (t126 : Value) : Reg :=
  .opg t124 true (.bin .eql t126 (.int .i64 0)) fun t127 =>
  .op (.pick t124 t127 (.bool false)) fun t128 =>
  .op (.mv t128) fun t129 =>
  .opg t129 true (.build [(.int .i64 0), (.int .i64 0), (.int .i64 0), (.int .i64 0), (.int .i64 0), (.int .i64 0), (.int .i64 0), (.int .i64 0), (.bool false)] [(1, 1, (.int .i64 3)), (3, 1, (.int .i64 4)), (6, 1, (.int .i64 1))]) fun t130 =>
  .opg t129 true (.call 13 [(.slice none 0 0), (.int .i64 1)]) fun t131 =>
  .opg t129 true (.call 12 [t130, t131]) fun t132 =>
  .opg t129 true (.eqK .ptr false t132 (.pointer none)) fun t133 =>
  .op (.pick t129 t133 (.bool false)) fun t134 =>
  .op (.mv t134) fun t6 =>
  .done (e.upd 6 t6)
theorem c9_r32_c2_run {CP : CProg} (e : Env) (t124 : Value) (t126 : Value) (h : Heap) (Q : Post) : RunR CP (c9_r32_c2 e t124 t126) h Q ↔ RunR CP (
  .opg t124 true (.bin .eql t126 (.int .i64 0)) fun t127 =>
  .op (.pick t124 t127 (.bool false)) fun t128 =>
  .op (.mv t128) fun t129 =>
  .opg t129 true (.build [(.int .i64 0), (.int .i64 0), (.int .i64 0), (.int .i64 0), (.int .i64 0), (.int .i64 0), (.int .i64 0), (.int .i64 0), (.bool false)] [(1, 1, (.int .i64 3)), (3, 1, (.int .i64 4)), (6, 1, (.int .i64 1))]) fun t130 =>
  .opg t129 true (.call 13 [(.slice none 0 0), (.int .i64 1)]) fun t131 =>
  .opg t129 true (.call 12 [t130, t131]) fun t132 =>
  .opg t129 true (.eqK .ptr false t132 (.pointer none)) fun t133 =>
  .op (.pick t129 t133 (.bool false)) fun t134 =>
  .op (.mv t134) fun t6 =>
  .done (e.upd 6 t6)) h Q := Iff.rfl
def c9_r32_c1 (e : Env) (t118 : Value) : Reg :=
  .op (.mv t118) fun t119 =>
  .opg t119 true (.mv (e 15)) fun t120 =>
  .opg t119 true (.call 22 [t120, (.string ⟨#[97]⟩), (.int .i64 1)]) fun t121 =>
  .opg t119 true (.bin .eql t121 (.int .i64 0)) fun t122 =>
  .op (.pick t119 t122 (.bool false)) fun t123 =>
  .op (.mv t123) fun t124 =>
  .opg t124 true (.mv (e 15)) fun t125 =>
  .opg t124 true (.call 14 [t125, (.int .i64 5)]) fun t126 =>
  c9_r32_c2 e t124 t126
theorem c9_r32_c1_run {CP : CProg} (e : Env) (t118 : Value) (h : Heap) (Q : Post) : RunR CP (c9_r32_c1 e t118) h Q ↔ RunR CP (
  .op (.mv t118) fun t119 =>
  .opg t119 true (.mv (e 15)) fun t120 =>
  .opg t119 true (.call 22 [t120, (.string ⟨#[97]⟩), (.int .i64 1)]) fun t121 =>
  .opg t119 true (.bin .eql t121 (.int .i64 0)) fun t122 =>
  .op (.pick t119 t122 (.bool false)) fun t123 =>
  .op (.mv t123) fun t124 =>
  .opg t124 true (.mv (e 15)) fun t125 =>
  .opg t124 true (.call 14 [t125, (.int .i64 5)]) fun t126 =>
  c9_r32_c2 e t124 t126) h Q := Iff.rfl
def c9_r32 : Env → Reg := fun e =>
  .op (.mv (e 15)) fun t111 =>
  .op (.call 20 [t111, (.string ⟨#[97]⟩)]) fun t112 =>
  .op (.bin .eql t112 (.int .i64 0)) fun t113 =>
  .op (.mv t113) fun t114 =>
  .opg t114 true (.mv (e 15)) fun t115 =>
  .opg t114 true (.call 21 [t115, (.int .i64 0), (.string ⟨#[97]⟩)]) fun t116 =>
  .opg t114 true (.bin .eql t116 (.int .i64 0)) fun t117 =>
  .op (.pick t114 t117 (.bool false)) fun t118 =>
  c9_r32_c1 e t118
theorem c9_r32_run {CP : CProg} (e : Env) (h : Heap) (Q : Post) : RunR CP (c9_r32 e) h Q ↔ RunR CP (
  .op (.mv (e 15)) fun t111 =>
  .op (.call 20 [t111, (.string ⟨#[97]⟩)]) fun t112 =>
  .op (.bin .eql t112 (.int .i64 0)) fun t113 =>
  .op (.mv t113) fun t114 =>
  .opg t114 true (.mv (e 15)) fun t115 =>
  .opg t114 true (.call 21 [t115, (.int .i64 0), (.string ⟨#[97]⟩)]) fun t116 =>
  .opg t114 true (.bin .eql t116 (.int .i64 0)) fun t117 =>
  .op (.pick t114 t117 (.bool false)) fun t118 =>
  c9_r32_c1 e t118) h Q := Iff.rfl
def c9 : CFn := ⟨(.seq (.region c9_r0) (.seq (.seq (.region c9_r1) (.cond (fun e => e 17) (.seq (.region c9_r2) .ret) .skip)) (.seq (.seq (.region c9_r3) (.cond (fun e => e 20) (.seq (.region c9_r4) .ret) .skip)) (.seq (.region c9_r5) (.seq (.region c9_r6) (.seq (.region c9_r7) (.seq (.seq (.region c9_r8) (.block 0 (.loop c9_l0))) (.seq (.region c9_r15) (.seq (.region c9_r16) (.seq (.region c9_r17) (.seq (.seq (.region c9_r18) (.block 2 (.loop c9_l1))) (.seq (.region c9_r29) (.seq (.region c9_r30) (.seq (.region c9_r31) (.seq (.region c9_r32) .ret))))))))))))))), [.t 6]⟩
def p9 : Pers := ⟨16, [17, 20, 29, 30, 31, 32, 66, 67, 68, 69, 80], 135⟩
-- 10: weighbridge/weighbridgelaw07.fit
def c10_r0 : Env → Reg := fun e =>
  .op (.mv (.bool false)) fun t0 =>
  .done (e.upd 0 t0)
theorem c10_r0_run {CP : CProg} (e : Env) (h : Heap) (Q : Post) : RunR CP (c10_r0 e) h Q ↔ RunR CP (
  .op (.mv (.bool false)) fun t0 =>
  .done (e.upd 0 t0)) h Q := Iff.rfl
def c10_r1 : Env → Reg := fun e =>
  .op (.build [(.int .i64 0), (.int .i64 0), (.int .i64 0), (.int .i64 0), (.int .i64 0), (.int .i64 0), (.int .i64 0), (.int .i64 0), (.bool false)] [(0, 1, (.int .i64 9)), (1, 1, (.int .i64 10)), (3, 1, (.int .i64 5)), (6, 1, (.int .i64 4))]) fun t3 =>
  .op (.call 13 [(.slice none 0 0), (.int .i64 1)]) fun t4 =>
  .op (.call 12 [t3, t4]) fun t5 =>
  .op (.mv t5) fun t1 =>
  .done (e.upd 1 t1)
theorem c10_r1_run {CP : CProg} (e : Env) (h : Heap) (Q : Post) : RunR CP (c10_r1 e) h Q ↔ RunR CP (
  .op (.build [(.int .i64 0), (.int .i64 0), (.int .i64 0), (.int .i64 0), (.int .i64 0), (.int .i64 0), (.int .i64 0), (.int .i64 0), (.bool false)] [(0, 1, (.int .i64 9)), (1, 1, (.int .i64 10)), (3, 1, (.int .i64 5)), (6, 1, (.int .i64 4))]) fun t3 =>
  .op (.call 13 [(.slice none 0 0), (.int .i64 1)]) fun t4 =>
  .op (.call 12 [t3, t4]) fun t5 =>
  .op (.mv t5) fun t1 =>
  .done (e.upd 1 t1)) h Q := Iff.rfl
def c10_r2 : Env → Reg := fun e =>
  .op (.mv (e 1)) fun t6 =>
  .op (.eqK .ptr false t6 (.pointer none)) fun t7 =>
  .done (e.upd 7 t7)
theorem c10_r2_run {CP : CProg} (e : Env) (h : Heap) (Q : Post) : RunR CP (c10_r2 e) h Q ↔ RunR CP (
  .op (.mv (e 1)) fun t6 =>
  .op (.eqK .ptr false t6 (.pointer none)) fun t7 =>
  .done (e.upd 7 t7)) h Q := Iff.rfl
def c10_r3 : Env → Reg := fun e =>
  .op (.mv (.bool false)) fun t0 =>
  .done (e.upd 0 t0)
theorem c10_r3_run {CP : CProg} (e : Env) (h : Heap) (Q : Post) : RunR CP (c10_r3 e) h Q ↔ RunR CP (
  .op (.mv (.bool false)) fun t0 =>
  .done (e.upd 0 t0)) h Q := Iff.rfl
def c10_r4 : Env → Reg := fun e =>
  .op (.mv (e 1)) fun t8 =>
  .op (.call 18 [t8, (.int .i64 1)]) fun t9 =>
  .done e
theorem c10_r4_run {CP : CProg} (e : Env) (h : Heap) (Q : Post) : RunR CP (c10_r4 e) h Q ↔ RunR CP (
  .op (.mv (e 1)) fun t8 =>
  .op (.call 18 [t8, (.int .i64 1)]) fun t9 =>
  .done e) h Q := Iff.rfl
def c10_r5 : Env → Reg := fun e =>
  .op (.mv (e 1)) fun t10 =>
  .op (.call 19 [t10, (.string ⟨#[97]⟩), (.int .i64 3)]) fun t11 =>
  .done e
theorem c10_r5_run {CP : CProg} (e : Env) (h : Heap) (Q : Post) : RunR CP (c10_r5 e) h Q ↔ RunR CP (
  .op (.mv (e 1)) fun t10 =>
  .op (.call 19 [t10, (.string ⟨#[97]⟩), (.int .i64 3)]) fun t11 =>
  .done e) h Q := Iff.rfl
def c10_r6 : Env → Reg := fun e =>
  .op (.mv (e 1)) fun t12 =>
  .op (.call 18 [t12, (.int .i64 11)]) fun t13 =>
  .done e
theorem c10_r6_run {CP : CProg} (e : Env) (h : Heap) (Q : Post) : RunR CP (c10_r6 e) h Q ↔ RunR CP (
  .op (.mv (e 1)) fun t12 =>
  .op (.call 18 [t12, (.int .i64 11)]) fun t13 =>
  .done e) h Q := Iff.rfl
def c10_r7 : Env → Reg := fun e =>
  .op (.mv (e 1)) fun t14 =>
  .op (.call 20 [t14, (.string ⟨#[97]⟩)]) fun t15 =>
  .op (.mv t15) fun t2 =>
  .done (e.upd 2 t2)
theorem c10_r7_run {CP : CProg} (e : Env) (h : Heap) (Q : Post) : RunR CP (c10_r7 e) h Q ↔ RunR CP (
  .op (.mv (e 1)) fun t14 =>
  .op (.call 20 [t14, (.string ⟨#[97]⟩)]) fun t15 =>
  .op (.mv t15) fun t2 =>
  .done (e.upd 2 t2)) h Q := Iff.rfl
def c10_r8 : Env → Reg := fun e =>
  .op (.mv (e 1)) fun t16 =>
  .op (.call 18 [t16, (.int .i64 12)]) fun t17 =>
  .done e
theorem c10_r8_run {CP : CProg} (e : Env) (h : Heap) (Q : Post) : RunR CP (c10_r8 e) h Q ↔ RunR CP (
  .op (.mv (e 1)) fun t16 =>
  .op (.call 18 [t16, (.int .i64 12)]) fun t17 =>
  .done e) h Q := Iff.rfl
def c10_r9 : Env → Reg := fun e =>
  .op (.mv (e 2)) fun t18 =>
  .op (.bin .eql t18 (.int .i64 3)) fun t19 =>
  .op (.mv t19) fun t20 =>
  .opg t20 true (.mv (e 1)) fun t21 =>
  .opg t20 true (.call 20 [t21, (.string ⟨#[97]⟩)]) fun t22 =>
  .opg t20 true (.bin .eql t22 (.int .i64 0)) fun t23 =>
  .op (.pick t20 t23 (.bool false)) fun t24 =>
  .op (.mv t24) fun t0 =>
  .done (e.upd 0 t0)
theorem c10_r9_run {CP : CProg} (e : Env) (h : Heap) (Q : Post) : RunR CP (c10_r9 e) h Q ↔ RunR CP (
  .op (.mv (e 2)) fun t18 =>
  .op (.bin .eql t18 (.int .i64 3)) fun t19 =>
  .op (.mv t19) fun t20 =>
  .opg t20 true (.mv (e 1)) fun t21 =>
  .opg t20 true (.call 20 [t21, (.string ⟨#[97]⟩)]) fun t22 =>
  .opg t20 true (.bin .eql t22 (.int .i64 0)) fun t23 =>
  .op (.pick t20 t23 (.bool false)) fun t24 =>
  .op (.mv t24) fun t0 =>
  .done (e.upd 0 t0)) h Q := Iff.rfl
def c10 : CFn := ⟨(.seq (.region c10_r0) (.seq (.region c10_r1) (.seq (.seq (.region c10_r2) (.cond (fun e => e 7) (.seq (.region c10_r3) .ret) .skip)) (.seq (.region c10_r4) (.seq (.region c10_r5) (.seq (.region c10_r6) (.seq (.region c10_r7) (.seq (.region c10_r8) (.seq (.region c10_r9) .ret))))))))), [.t 0]⟩
def p10 : Pers := ⟨3, [7], 25⟩
-- 11: (weighbridge/weighbridgelaw07.Plan).Rule
def c11_r0 : Env → Reg := fun e =>
  .op (.box 23 (e 0)) fun t1 =>
  .op (.alloc 26 [(.int .i64 0), (.int .i64 0), (.int .i64 0), (.int .i64 0), (.int .i64 0), (.int .i64 0), (.int .i64 0), (.int .i64 0), (.bool false)]) fun t2 =>
  .done ((e.upd 1 t1).upd 2 t2)
theorem c11_r0_run {CP : CProg} (e : Env) (h : Heap) (Q : Post) : RunR CP (c11_r0 e) h Q ↔ RunR CP (
  .op (.box 23 (e 0)) fun t1 =>
  .op (.alloc 26 [(.int .i64 0), (.int .i64 0), (.int .i64 0), (.int .i64 0), (.int .i64 0), (.int .i64 0), (.int .i64 0), (.int .i64 0), (.bool false)]) fun t2 =>
  .done ((e.upd 1 t1).upd 2 t2)) h Q := Iff.rfl
def c11_r1 : Env → Reg := fun e =>
  .op (.fieldAddr 0 (e 1)) fun t5 =>
  .op (.load none t5) fun t6 =>
  .op (.bin .and t6 (.int .i64 7)) fun t7 =>
  .op (.bin .add t7 (.int .i64 1)) fun t8 =>
  .op (.mv t8) fun t3 =>
  .done (e.upd 3 t3)
theorem c11_r1_run {CP : CProg} (e : Env) (h : Heap) (Q : Post) : RunR CP (c11_r1 e) h Q ↔ RunR CP (
  .op (.fieldAddr 0 (e 1)) fun t5 =>
  .op (.load none t5) fun t6 =>
  .op (.bin .and t6 (.int .i64 7)) fun t7 =>
  .op (.bin .add t7 (.int .i64 1)) fun t8 =>
  .op (.mv t8) fun t3 =>
  .done (e.upd 3 t3)) h Q := Iff.rfl
def c11_r2 : Env → Reg := fun e =>
  .op (.fieldAddr 1 (e 1)) fun t9 =>
  .op (.load none t9) fun t10 =>
  .op (.bin .and t10 (.int .i64 31)) fun t11 =>
  .op (.bin .add t11 (.int .i64 1)) fun t12 =>
  .op (.mv t12) fun t4 =>
  .done (e.upd 4 t4)
theorem c11_r2_run {CP : CProg} (e : Env) (h : Heap) (Q : Post) : RunR CP (c11_r2 e) h Q ↔ RunR CP (
  .op (.fieldAddr 1 (e 1)) fun t9 =>
  .op (.load none t9) fun t10 =>
  .op (.bin .and t10 (.int .i64 31)) fun t11 =>
  .op (.bin .add t11 (.int .i64 1)) fun t12 =>
  .op (.mv t12) fun t4 =>
  .done (e.upd 4 t4)) h Q := Iff.rfl
def c11_r3_c1 (e : Env) (t16 : Value) (t19 : Value) (t20 : Value) : Reg :=
  .op (.fieldAddr 2 (e 1)) fun t21 =>
  .op (.load none t21) fun t22 =>
  .op (.bin .and t22 (.int .i64 15)) fun t23 =>
  .op (.bin .add t23 (.int .i64 1)) fun t24 =>
  .op (.fieldAddr 4 (e 1)) fun t25 =>
  .op (.load none t25) fun t26 =>
  .op (.build [(.int .i64 0), (.int .i64 0), (.int .i64 0), (.int .i64 0), (.int .i64 0), (.int .i64 0), (.int .i64 0), (.int .i64 0), (.bool false)] [(0, 1, t16), (1, 1, t19), (3, 1, t20), (6, 1, t24), (8, 1, t26)]) fun t27 =>
  .op (.store 9 (e 2) t27) fun _ =>
  .done e
theorem c11_r3_c1_run {CP : CProg} (e : Env) (t16 : Value) (t19 : Value) (t20 : Value) (h : Heap) (Q : Post) : RunR CP (c11_r3_c1 e t16 t19 t20) h Q ↔ RunR CP (
  .op (.fieldAddr 2 (e 1)) fun t21 =>
  .op (.load none t21) fun t22 =>
  .op (.bin .and t22 (.int .i64 15)) fun t23 =>
  .op (.bin .add t23 (.int .i64 1)) fun t24 =>
  .op (.fieldAddr 4 (e 1)) fun t25 =>
  .op (.load none t25) fun t26 =>
  .op (.build [(.int .i64 0), (.int .i64 0), (.int .i64 0), (.int .i64 0), (.int .i64 0), (.int .i64 0), (.int .i64 0), (.int .i64 0), (.bool false)] [(0, 1, t16), (1, 1, t19), (3, 1, t20), (6, 1, t24), (8, 1, t26)]) fun t27 =>
  .op (.store 9 (e 2) t27) fun _ =>
  .done e) h Q := Iff.rfl
def c11_r3 : Env → Reg := fun e =>
  .op (.fieldAddr 3 (e 1)) fun t13 =>
  .op (.load none t13) fun t14 =>
  .op (.bin .and t14 (.int .i64 63)) fun t15 =>
  .op (.bin .add t15 (.int .i64 1)) fun t16 =>
  .op (.mv (e 4)) fun t17 =>
  .op (.mv (e 3)) fun t18 =>
  .op (.bin .mul t17 t18) fun t19 =>
  .op (.mv (e 3)) fun t20 =>
  c11_r3_c1 e t16 t19 t20
theorem c11_r3_run {CP : CProg} (e : Env) (h : Heap) (Q : Post) : RunR CP (c11_r3 e) h Q ↔ RunR CP (
  .op (.fieldAddr 3 (e 1)) fun t13 =>
  .op (.load none t13) fun t14 =>
  .op (.bin .and t14 (.int .i64 63)) fun t15 =>
  .op (.bin .add t15 (.int .i64 1)) fun t16 =>
  .op (.mv (e 4)) fun t17 =>
  .op (.mv (e 3)) fun t18 =>
  .op (.bin .mul t17 t18) fun t19 =>
  .op (.mv (e 3)) fun t20 =>
  c11_r3_c1 e t16 t19 t20) h Q := Iff.rfl
def c11 : CFn := ⟨(.seq (.region c11_r0) (.seq (.region c11_r1) (.seq (.region c11_r2) (.seq (.region c11_r3) .ret)))), [.c 2 (some 9)]⟩
def p11 : Pers := ⟨5, [], 28⟩
-- 12: weighbridge/ring.New
def c12_r0 : Env → Reg := fun e =>
  .op (.box 26 (e 0)) fun t2 =>
  .op (.mv (.pointer none)) fun t4 =>
  .done ((e.upd 2 t2).upd 4 t4)
theorem c12_r0_run {CP : CProg} (e : Env) (h : Heap) (Q : Post) : RunR CP (c12_r0 e) h Q ↔ RunR CP (
  .op (.box 26 (e 0)) fun t2 =>
  .op (.mv (.pointer none)) fun t4 =>
  .done ((e.upd 2 t2).upd 4 t4)) h Q := Iff.rfl
def c12_r1_c2 (e : Env) (t22 : Value) : Reg :=
  .op (.mv t22) fun t23 =>
  .opg t23 false (.mv (e 1)) fun t24 =>
  .opg t23 false (.lenSl t24) fun t25 =>
  .opg t23 false (.bin .eql t25 (.int .i64 0)) fun t26 =>
  .op (.pick t23 (.bool true) t26) fun t27 =>
  .op (.mv t27) fun t28 =>
  .opg t28 false (.fieldAddr 6 (e 2)) fun t29 =>
  .opg t28 false (.load none t29) fun t30 =>
  .opg t28 false (.bin .lss t30 (.int .i64 1)) fun t31 =>
  .op (.pick t28 (.bool true) t31) fun t32 =>
  .done (e.upd 32 t32)
theorem c12_r1_c2_run {CP : CProg} (e : Env) (t22 : Value) (h : Heap) (Q : Post) : RunR CP (c12_r1_c2 e t22) h Q ↔ RunR CP (
  .op (.mv t22) fun t23 =>
  .opg t23 false (.mv (e 1)) fun t24 =>
  .opg t23 false (.lenSl t24) fun t25 =>
  .opg t23 false (.bin .eql t25 (.int .i64 0)) fun t26 =>
  .op (.pick t23 (.bool true) t26) fun t27 =>
  .op (.mv t27) fun t28 =>
  .opg t28 false (.fieldAddr 6 (e 2)) fun t29 =>
  .opg t28 false (.load none t29) fun t30 =>
  .opg t28 false (.bin .lss t30 (.int .i64 1)) fun t31 =>
  .op (.pick t28 (.bool true) t31) fun t32 =>
  .done (e.upd 32 t32)) h Q := Iff.rfl
def c12_r1_c1 (e : Env) (t14 : Value) : Reg :=
  .op (.mv t14) fun t15 =>
  .opg t15 false (.fieldAddr 1 (e 2)) fun t16 =>
  .opg t15 false (.load none t16) fun t17 =>
  .opg t15 false (.fieldAddr 3 (e 2)) fun t18 =>
  .opg t15 false (.load none t18) fun t19 =>
  .opg t15 false (.bin .quo t17 t19) fun t20 =>
  .opg t15 false (.bin .lss t20 (.int .i64 1)) fun t21 =>
  .op (.pick t15 (.bool true) t21) fun t22 =>
  c12_r1_c2 e t22
theorem c12_r1_c1_run {CP : CProg} (e : Env) (t14 : Value) (h : Heap) (Q : Post) : RunR CP (c12_r1_c1 e t14) h Q ↔ RunR CP (
  .op (.mv t14) fun t15 =>
  .opg t15 false (.fieldAddr 1 (e 2)) fun t16 =>
  .opg t15 false (.load none t16) fun t17 =>
  .opg t15 false (.fieldAddr 3 (e 2)) fun t18 =>
  .opg t15 false (.load none t18) fun t19 =>
  .opg t15 false (.bin .quo t17 t19) fun t20 =>
  .opg t15 false (.bin .lss t20 (.int .i64 1)) fun t21 =>
  .op (.pick t15 (.bool true) t21) fun t22 =>
  c12_r1_c2 e t22) h Q := Iff.rfl
def c12_r1 : Env → Reg := fun e =>
  .op (.fieldAddr 3 (e 2)) fun t7 =>
  .op (.load none t7) fun t8 =>
  .op (.bin .lss t8 (.int .i64 1)) fun t9 =>
  .op (.mv t9) fun t10 =>
  .opg t10 false (.fieldAddr 3 (e 2)) fun t11 =>
  .opg t10 false (.load none t11) fun t12 =>
  .opg t10 false (.bin .gtr t12 (.int .i64 64)) fun t13 =>
  .op (.pick t10 (.bool true) t13) fun t14 =>
  c12_r1_c1 e t14
theorem c12_r1_run {CP : CProg} (e : Env) (h : Heap) (Q : Post) : RunR CP (c12_r1 e) h Q ↔ RunR CP (
  .op (.fieldAddr 3 (e 2)) fun t7 =>
  .op (.load none t7) fun t8 =>
  .op (.bin .lss t8 (.int .i64 1)) fun t9 =>
  .op (.mv t9) fun t10 =>
  .opg t10 false (.fieldAddr 3 (e 2)) fun t11 =>
  .opg t10 false (.load none t11) fun t12 =>
  .opg t10 false (.bin .gtr t12 (.int .i64 64)) fun t13 =>
  .op (.pick t10 (.bool true) t13) fun t14 =>
  c12_r1_c1 e t14) h Q := Iff.rfl
def c12_r2 : Env → Reg := fun e =>
  .op (.mv (.pointer none)) fun t4 =>
  .done (e.upd 4 t4)
theorem c12_r2_run {CP : CProg} (e : Env) (h : Heap) (Q : Post) : RunR CP (c12_r2 e) h Q ↔ RunR CP (
  .op (.mv (.pointer none)) fun t4 =>
  .done (e.upd 4 t4)) h Q := Iff.rfl
def c12_r3_c2 (e : Env) (t36 : Value) (t40 : Value) (t45 : Value) (t47 : Value) (t48 : Value) : Reg :=
  .op (.load none t48) fun t49 =>
  .op (.fieldAddr 8 (e 2)) fun t50 =>
  .op (.load none t50) fun t51 =>
  .op (.build [(.slice none 0 0), (.slice none 0 0), (.int .i64 0), (.int .i64 0), (.int .i64 0), (.bool false), (.int .i64 0)] [(0, 1, t36), (1, 1, t40), (2, 1, t45), (3, 1, t47), (4, 1, t49), (5, 1, t51)]) fun t52 =>
  .op (.box 56 t52) fun t53 =>
  .op (.mv t53) fun t5 =>
  .done (e.upd 5 t5)
theorem c12_r3_c2_run {CP : CProg} (e : Env) (t36 : Value) (t40 : Value) (t45 : Value) (t47 : Value) (t48 : Value) (h : Heap) (Q : Post) : RunR CP (c12_r3_c2 e t36 t40 t45 t47 t48) h Q ↔ RunR CP (
  .op (.load none t48) fun t49 =>
  .op (.fieldAddr 8 (e 2)) fun t50 =>
  .op (.load none t50) fun t51 =>
  .op (.build [(.slice none 0 0), (.slice none 0 0), (.int .i64 0), (.int .i64 0), (.int .i64 0), (.bool false), (.int .i64 0)] [(0, 1, t36), (1, 1, t40), (2, 1, t45), (3, 1, t47), (4, 1, t49), (5, 1, t51)]) fun t52 =>
  .op (.box 56 t52) fun t53 =>
  .op (.mv t53) fun t5 =>
  .done (e.upd 5 t5)) h Q := Iff.rfl
def c12_r3_c1 (e : Env) (t36 : Value) (t40 : Value) : Reg :=
  .op (.fieldAddr 1 (e 2)) fun t41 =>
  .op (.load none t41) fun t42 =>
  .op (.fieldAddr 3 (e 2)) fun t43 =>
  .op (.load none t43) fun t44 =>
  .op (.bin .quo t42 t44) fun t45 =>
  .op (.mv (e 1)) fun t46 =>
  .op (.lenSl t46) fun t47 =>
  .op (.fieldAddr 0 (e 2)) fun t48 =>
  c12_r3_c2 e t36 t40 t45 t47 t48
theorem c12_r3_c1_run {CP : CProg} (e : Env) (t36 : Value) (t40 : Value) (h : Heap) (Q : Post) : RunR CP (c12_r3_c1 e t36 t40) h Q ↔ RunR CP (
  .op (.fieldAddr 1 (e 2)) fun t41 =>
  .op (.load none t41) fun t42 =>
  .op (.fieldAddr 3 (e 2)) fun t43 =>
  .op (.load none t43) fun t44 =>
  .op (.bin .quo t42 t44) fun t45 =>
  .op (.mv (e 1)) fun t46 =>
  .op (.lenSl t46) fun t47 =>
  .op (.fieldAddr 0 (e 2)) fun t48 =>
  c12_r3_c2 e t36 t40 t45 t47 t48) h Q := Iff.rfl
def c12_r3 : Env → Reg := fun e =>
  .op (.fieldAddr 3 (e 2)) fun t33 =>
  .op (.load none t33) fun t34 =>
  .op (.bin .add t34 (.int .i64 1)) fun t35 =>
  .op (.makeSlice 57 1 8 [(.pointer none)] t35 t35) fun t36 =>
  .op (.fieldAddr 3 (e 2)) fun t37 =>
  .op (.load none t37) fun t38 =>
  .op (.bin .add t38 (.int .i64 1)) fun t39 =>
  .op (.makeSlice 2 1 8 [(.int .i64 0)] t39 t39) fun t40 =>
  c12_r3_c1 e t36 t40
theorem c12_r3_run {CP : CProg} (e : Env) (h : Heap) (Q : Post) : RunR CP (c12_r3 e) h Q ↔ RunR CP (
  .op (.fieldAddr 3 (e 2)) fun t33 =>
  .op (.load none t33) fun t34 =>
  .op (.bin .add t34 (.int .i64 1)) fun t35 =>
  .op (.makeSlice 57 1 8 [(.pointer none)] t35 t35) fun t36 =>
  .op (.fieldAddr 3 (e 2)) fun t37 =>
  .op (.load none t37) fun t38 =>
  .op (.bin .add t38 (.int .i64 1)) fun t39 =>
  .op (.makeSlice 2 1 8 [(.int .i64 0)] t39 t39) fun t40 =>
  c12_r3_c1 e t36 t40) h Q := Iff.rfl
def c12_r4 : Env → Reg := fun e =>
  .op (.mv (e 5)) fun t54 =>
  .op (.nilCheck t54) fun t55 =>
  .op (.fieldAddr 0 t55) fun t56 =>
  .op (.load none t56) fun t57 =>
  .op (.lenSl t57) fun t58 =>
  .op (.mv (.int .i64 0)) fun t59 =>
  .done ((e.upd 58 t58).upd 59 t59)
theorem c12_r4_run {CP : CProg} (e : Env) (h : Heap) (Q : Post) : RunR CP (c12_r4 e) h Q ↔ RunR CP (
  .op (.mv (e 5)) fun t54 =>
  .op (.nilCheck t54) fun t55 =>
  .op (.fieldAddr 0 t55) fun t56 =>
  .op (.load none t56) fun t57 =>
  .op (.lenSl t57) fun t58 =>
  .op (.mv (.int .i64 0)) fun t59 =>
  .done ((e.upd 58 t58).upd 59 t59)) h Q := Iff.rfl
def c12_r5 : Env → Reg := fun e =>
  .op (.bin .lss (e 59) (e 58)) fun t60 =>
  .done (e.upd 60 t60)
theorem c12_r5_run {CP : CProg} (e : Env) (h : Heap) (Q : Post) : RunR CP (c12_r5 e) h Q ↔ RunR CP (
  .op (.bin .lss (e 59) (e 58)) fun t60 =>
  .done (e.upd 60 t60)) h Q := Iff.rfl
def c12_r6 : Env → Reg := fun e =>
  .op (.mv (e 59)) fun t61 =>
  .op (.mv t61) fun t6 =>
  .done (e.upd 6 t6)
theorem c12_r6_run {CP : CProg} (e : Env) (h : Heap) (Q : Post) : RunR CP (c12_r6 e) h Q ↔ RunR CP (
  .op (.mv (e 59)) fun t61 =>
  .op (.mv t61) fun t6 =>
  .done (e.upd 6 t6)) h Q := Iff.rfl
def c12_r7_c1 (e : Env) (t64 : Value) (t65 : Value) (t66 : Value) (t67 : Value) (t69 : Value) : Reg :=
  .snap fun h8 =>
  .op (.call 23 [t67, t69]) fun t70 =>
  .chk none none (.load none t64) t65 <|
  .op (.indexSl 1 t65 t66) fun t71 =>
  .snap fun h10 =>
  .op (.store 1 t71 t70) fun _ =>
  .done e
theorem c12_r7_c1_run {CP : CProg} (e : Env) (t64 : Value) (t65 : Value) (t66 : Value) (t67 : Value) (t69 : Value) (h : Heap) (Q : Post) : RunR CP (c12_r7_c1 e t64 t65 t66 t67 t69) h Q ↔ RunR CP (
  .snap fun h8 =>
  .op (.call 23 [t67, t69]) fun t70 =>
  .chk none none (.load none t64) t65 <|
  .op (.indexSl 1 t65 t66) fun t71 =>
  .snap fun h10 =>
  .op (.store 1 t71 t70) fun _ =>
  .done e) h Q := Iff.rfl
def c12_r7 : Env → Reg := fun e =>
  .op (.mv (e 5)) fun t62 =>
  .op (.nilCheck t62) fun t63 =>
  .op (.fieldAddr 0 t63) fun t64 =>
  .op (.load none t64) fun t65 =>
  .op (.mv (e 6)) fun t66 =>
  .op (.mv (e 1)) fun t67 =>
  .op (.fieldAddr 6 (e 2)) fun t68 =>
  .op (.load none t68) fun t69 =>
  c12_r7_c1 e t64 t65 t66 t67 t69
theorem c12_r7_run {CP : CProg} (e : Env) (h : Heap) (Q : Post) : RunR CP (c12_r7 e) h Q ↔ RunR CP (
  .op (.mv (e 5)) fun t62 =>
  .op (.nilCheck t62) fun t63 =>
  .op (.fieldAddr 0 t63) fun t64 =>
  .op (.load none t64) fun t65 =>
  .op (.mv (e 6)) fun t66 =>
  .op (.mv (e 1)) fun t67 =>
  .op (.fieldAddr 6 (e 2)) fun t68 =>
  .op (.load none t68) fun t69 =>
  c12_r7_c1 e t64 t65 t66 t67 t69) h Q := Iff.rfl
def c12_r8 : Env → Reg := fun e =>
  .op (.bin .add (e 59) (.int .i64 1)) fun t72 =>
  .op (.mv t72) fun t59 =>
  .done (e.upd 59 t59)
theorem c12_r8_run {CP : CProg} (e : Env) (h : Heap) (Q : Post) : RunR CP (c12_r8 e) h Q ↔ RunR CP (
  .op (.bin .add (e 59) (.int .i64 1)) fun t72 =>
  .op (.mv t72) fun t59 =>
  .done (e.upd 59 t59)) h Q := Iff.rfl
def c12_l0 : CC := (.seq (.region c12_r5) (.seq (.cond (fun e => e 60) .skip (.exit 0)) (.seq (.block 1 (.seq (.region c12_r6) (.region c12_r7))) (.region c12_r8))))
def c12_r9 : Env → Reg := fun e =>
  .op (.mv (e 5)) fun t73 =>
  .op (.mv t73) fun t4 =>
  .done (e.upd 4 t4)
theorem c12_r9_run {CP : CProg} (e : Env) (h : Heap) (Q : Post) : RunR CP (c12_r9 e) h Q ↔ RunR CP (
  .op (.mv (e 5)) fun t73 =>
  .op (.mv t73) fun t4 =>
  .done (e.upd 4 t4)) h Q := Iff.rfl
def c12 : CFn := ⟨(.seq (.region c12_r0) (.seq (.seq (.region c12_r1) (.cond (fun e => e 32) (.seq (.region c12_r2) .ret) .skip)) (.seq (.region c12_r3) (.seq (.seq (.region c12_r4) (.block 0 (.loop c12_l0))) (.seq (.region c12_r9) .ret))))), [.t 4]⟩
def p12 : Pers := ⟨7, [32, 58, 59, 60], 74⟩
-- 13: weighbridge/hash.Rows
def c13_r0 : Env → Reg := fun e =>
  .op (.mv (.slice none 0 0)) fun t4 =>
  .done (e.upd 4 t4)
theorem c13_r0_run {CP : CProg} (e : Env) (h : Heap) (Q : Post) : RunR CP (c13_r0 e) h Q ↔ RunR CP (
  .op (.mv (.slice none 0 0)) fun t4 =>
  .done (e.upd 4 t4)) h Q := Iff.rfl
def c13_r1 : Env → Reg := fun e =>
  .op (.mv (.slice none 0 0)) fun t5 =>
  .done (e.upd 5 t5)
theorem c13_r1_run {CP : CProg} (e : Env) (h : Heap) (Q : Post) : RunR CP (c13_r1 e) h Q ↔ RunR CP (
  .op (.mv (.slice none 0 0)) fun t5 =>
  .done (e.upd 5 t5)) h Q := Iff.rfl
def c13_r2 : Env → Reg := fun e =>
  .op (.mv (e 1)) fun t7 =>
  .op (.minmax true [t7, (.int .i64 0)]) fun t8 =>
  .op (.minmax false [t8, (.int .i64 9)]) fun t9 =>
  .op (.mv (.int .i64 0)) fun t10 =>
  .done ((e.upd 9 t9).upd 10 t10)
theorem c13_r2_run {CP : CProg} (e : Env) (h : Heap) (Q : Post) : RunR CP (c13_r2 e) h Q ↔ RunR CP (
  .op (.mv (e 1)) fun t7 =>
  .op (.minmax true [t7, (.int .i64 0)]) fun t8 =>
  .op (.minmax false [t8, (.int .i64 9)]) fun t9 =>
  .op (.mv (.int .i64 0)) fun t10 =>
  .done ((e.upd 9 t9).upd 10 t10)) h Q := Iff.rfl
def c13_r3 : Env → Reg := fun e =>
  .op (.bin .lss (e 10) (e 9)) fun t11 =>
  .done (e.upd 11 t11)
theorem c13_r3_run {CP : CProg} (e : Env) (h : Heap) (Q : Post) : RunR CP (c13_r3 e) h Q ↔ RunR CP (
  .op (.bin .lss (e 10) (e 9)) fun t11 =>
  .done (e.upd 11 t11)) h Q := Iff.rfl
def c13_r4 : Env → Reg := fun e =>
  .op (.mv (e 10)) fun t12 =>
  .op (.mv t12) fun t6 =>
  .done (e.upd 6 t6)
theorem c13_r4_run {CP : CProg} (e : Env) (h : Heap) (Q : Post) : RunR CP (c13_r4 e) h Q ↔ RunR CP (
  .op (.mv (e 10)) fun t12 =>
  .op (.mv t12) fun t6 =>
  .done (e.upd 6 t6)) h Q := Iff.rfl
def c13_r5_c2 (e : Env) (t13 : Value) (t17 : Value) (t22 : Value) (t28 : Value) : Reg :=
  .op (.build [(.int .u64 0), (.int .u64 0), (.int .u64 0)] [(0, 1, t17), (1, 1, t22), (2, 1, t28)]) fun t29 =>
  .op (.buildSlice 63 1 [(.int .u64 0), (.int .u64 0), (.int .u64 0)] [(0, 3, t29)]) fun t30 =>
  .op (.append 63 3 24 t13 t30) fun t31 =>
  .op (.mv t31) fun t5 =>
  .done (e.upd 5 t5)
theorem c13_r5_c2_run {CP : CProg} (e : Env) (t13 : Value) (t17 : Value) (t22 : Value) (t28 : Value) (h : Heap) (Q : Post) : RunR CP (c13_r5_c2 e t13 t17 t22 t28) h Q ↔ RunR CP (
  .op (.build [(.int .u64 0), (.int .u64 0), (.int .u64 0)] [(0, 1, t17), (1, 1, t22), (2, 1, t28)]) fun t29 =>
  .op (.buildSlice 63 1 [(.int .u64 0), (.int .u64 0), (.int .u64 0)] [(0, 3, t29)]) fun t30 =>
  .op (.append 63 3 24 t13 t30) fun t31 =>
  .op (.mv t31) fun t5 =>
  .done (e.upd 5 t5)) h Q := Iff.rfl
def c13_r5_c1 (e : Env) (t13 : Value) (t17 : Value) (t18 : Value) (t20 : Value) : Reg :=
  .op (.bin .add t20 (.int .i64 1)) fun t21 =>
  .op (.call 24 [t18, t21]) fun t22 =>
  .op (.mv (e 0)) fun t23 =>
  .op (.mv (e 6)) fun t24 =>
  .op (.bin .mul (.int .i64 3) t24) fun t25 =>
  .op (.bin .add t25 (.int .i64 2)) fun t26 =>
  .op (.call 26 [t23, t26]) fun t27 =>
  .op (.call 25 [t27]) fun t28 =>
  c13_r5_c2 e t13 t17 t22 t28
theorem c13_r5_c1_run {CP : CProg} (e : Env) (t13 : Value) (t17 : Value) (t18 : Value) (t20 : Value) (h : Heap) (Q : Post) : RunR CP (c13_r5_c1 e t13 t17 t18 t20) h Q ↔ RunR CP (
  .op (.bin .add t20 (.int .i64 1)) fun t21 =>
  .op (.call 24 [t18, t21]) fun t22 =>
  .op (.mv (e 0)) fun t23 =>
  .op (.mv (e 6)) fun t24 =>
  .op (.bin .mul (.int .i64 3) t24) fun t25 =>
  .op (.bin .add t25 (.int .i64 2)) fun t26 =>
  .op (.call 26 [t23, t26]) fun t27 =>
  .op (.call 25 [t27]) fun t28 =>
  c13_r5_c2 e t13 t17 t22 t28) h Q := Iff.rfl
def c13_r5 : Env → Reg := fun e =>
  .op (.mv (e 5)) fun t13 =>
  .op (.mv (e 0)) fun t14 =>
  .op (.mv (e 6)) fun t15 =>
  .op (.bin .mul (.int .i64 3) t15) fun t16 =>
  .op (.call 24 [t14, t16]) fun t17 =>
  .op (.mv (e 0)) fun t18 =>
  .op (.mv (e 6)) fun t19 =>
  .op (.bin .mul (.int .i64 3) t19) fun t20 =>
  c13_r5_c1 e t13 t17 t18 t20
theorem c13_r5_run {CP : CProg} (e : Env) (h : Heap) (Q : Post) : RunR CP (c13_r5 e) h Q ↔ RunR CP (
  .op (.mv (e 5)) fun t13 =>
  .op (.mv (e 0)) fun t14 =>
  .op (.mv (e 6)) fun t15 =>
  .op (.bin .mul (.int .i64 3) t15) fun t16 =>
  .op (.call 24 [t14, t16]) fun t17 =>
  .op (.mv (e 0)) fun t18 =>
  .op (.mv (e 6)) fun t19 =>
  .op (.bin .mul (.int .i64 3) t19) fun t20 =>
  c13_r5_c1 e t13 t17 t18 t20) h Q := Iff.rfl
def c13_r6 : Env → Reg := fun e =>
  .op (.bin .add (e 10) (.int .i64 1)) fun t32 =>
  .op (.mv t32) fun t10 =>
  .done (e.upd 10 t10)
theorem c13_r6_run {CP : CProg} (e : Env) (h : Heap) (Q : Post) : RunR CP (c13_r6 e) h Q ↔ RunR CP (
  .op (.bin .add (e 10) (.int .i64 1)) fun t32 =>
  .op (.mv t32) fun t10 =>
  .done (e.upd 10 t10)) h Q := Iff.rfl
def c13_l0 : CC := (.seq (.region c13_r3) (.seq (.cond (fun e => e 11) .skip (.exit 0)) (.seq (.block 1 (.seq (.region c13_r4) (.region c13_r5))) (.region c13_r6))))
def c13_r7 : Env → Reg := fun e =>
  .op (.mv (e 5)) fun t33 =>
  .op (.mv t33) fun t4 =>
  .done (e.upd 4 t4)
theorem c13_r7_run {CP : CProg} (e : Env) (h : Heap) (Q : Post) : RunR CP (c13_r7 e) h Q ↔ RunR CP (
  .op (.mv (e 5)) fun t33 =>
  .op (.mv t33) fun t4 =>
  .done (e.upd 4 t4)) h Q := Iff.rfl
def c13 : CFn := ⟨(.seq (.region c13_r0) (.seq (.region c13_r1) (.seq (.seq (.region c13_r2) (.block 0 (.loop c13_l0))) (.seq (.region c13_r7) .ret)))), [.t 4]⟩
def p13 : Pers := ⟨7, [9, 10, 11], 34⟩
-- 14: (*weighbridge/ring.Ring).Number
def c14_r0 : Env → Reg := fun e =>
  .op (.mv (.int .i64 0)) fun t4 =>
  .done (e.upd 4 t4)
theorem c14_r0_run {CP : CProg} (e : Env) (h : Heap) (Q : Post) : RunR CP (c14_r0 e) h Q ↔ RunR CP (
  .op (.mv (.int .i64 0)) fun t4 =>
  .done (e.upd 4 t4)) h Q := Iff.rfl
def c14_r1 : Env → Reg := fun e =>
  .op (.mv (e 0)) fun t5 =>
  .op (.eqK .ptr false t5 (.pointer none)) fun t6 =>
  .done (e.upd 6 t6)
theorem c14_r1_run {CP : CProg} (e : Env) (h : Heap) (Q : Post) : RunR CP (c14_r1 e) h Q ↔ RunR CP (
  .op (.mv (e 0)) fun t5 =>
  .op (.eqK .ptr false t5 (.pointer none)) fun t6 =>
  .done (e.upd 6 t6)) h Q := Iff.rfl
def c14_r2 : Env → Reg := fun e =>
  .op (.mv (.int .i64 0)) fun t4 =>
  .done (e.upd 4 t4)
theorem c14_r2_run {CP : CProg} (e : Env) (h : Heap) (Q : Post) : RunR CP (c14_r2 e) h Q ↔ RunR CP (
  .op (.mv (.int .i64 0)) fun t4 =>
  .done (e.upd 4 t4)) h Q := Iff.rfl
def c14_r3 : Env → Reg := fun e =>
  .op (.mv (e 1)) fun t7 =>
  .op (.mv (e 0)) fun t8 =>
  .op (.nilCheck t8) fun t9 =>
  .op (.fieldAddr 2 t9) fun t10 =>
  .op (.load none t10) fun t11 =>
  .op (.bin .quo t7 t11) fun t12 =>
  .op (.mv t12) fun t4 =>
  .done (e.upd 4 t4)
theorem c14_r3_run {CP : CProg} (e : Env) (h : Heap) (Q : Post) : RunR CP (c14_r3 e) h Q ↔ RunR CP (
  .op (.mv (e 1)) fun t7 =>
  .op (.mv (e 0)) fun t8 =>
  .op (.nilCheck t8) fun t9 =>
  .op (.fieldAddr 2 t9) fun t10 =>
  .op (.load none t10) fun t11 =>
  .op (.bin .quo t7 t11) fun t12 =>
  .op (.mv t12) fun t4 =>
  .done (e.upd 4 t4)) h Q := Iff.rfl
def c14 : CFn := ⟨(.seq (.region c14_r0) (.seq (.seq (.region c14_r1) (.cond (fun e => e 6) (.seq (.region c14_r2) .ret) .skip)) (.seq (.region c14_r3) .ret))), [.t 4]⟩
def p14 : Pers := ⟨5, [6], 13⟩
-- 15: weighbridge/ring.Bytes
def c15_r0 : Env → Reg := fun e =>
  .op (.box 26 (e 0)) fun t1 =>
  .op (.mv (.int .i64 0)) fun t2 =>
  .done ((e.upd 1 t1).upd 2 t2)
theorem c15_r0_run {CP : CProg} (e : Env) (h : Heap) (Q : Post) : RunR CP (c15_r0 e) h Q ↔ RunR CP (
  .op (.box 26 (e 0)) fun t1 =>
  .op (.mv (.int .i64 0)) fun t2 =>
  .done ((e.upd 1 t1).upd 2 t2)) h Q := Iff.rfl
def c15_r1 : Env → Reg := fun e =>
  .op (.fieldAddr 3 (e 1)) fun t4 =>
  .op (.load none t4) fun t5 =>
  .op (.bin .add t5 (.int .i64 1)) fun t6 =>
  .op (.mv t6) fun t3 =>
  .done (e.upd 3 t3)
theorem c15_r1_run {CP : CProg} (e : Env) (h : Heap) (Q : Post) : RunR CP (c15_r1 e) h Q ↔ RunR CP (
  .op (.fieldAddr 3 (e 1)) fun t4 =>
  .op (.load none t4) fun t5 =>
  .op (.bin .add t5 (.int .i64 1)) fun t6 =>
  .op (.mv t6) fun t3 =>
  .done (e.upd 3 t3)) h Q := Iff.rfl
def c15_r2 : Env → Reg := fun e =>
  .op (.mv (e 3)) fun t7 =>
  .op (.fieldAddr 5 (e 1)) fun t8 =>
  .op (.load none t8) fun t9 =>
  .op (.fieldAddr 6 (e 1)) fun t10 =>
  .op (.load none t10) fun t11 =>
  .op (.call 27 [t9, t11]) fun t12 =>
  .op (.bin .add (.int .i64 16) t12) fun t13 =>
  .op (.bin .mul t7 t13) fun t14 =>
  .op (.mv t14) fun t2 =>
  .done (e.upd 2 t2)
theorem c15_r2_run {CP : CProg} (e : Env) (h : Heap) (Q : Post) : RunR CP (c15_r2 e) h Q ↔ RunR CP (
  .op (.mv (e 3)) fun t7 =>
  .op (.fieldAddr 5 (e 1)) fun t8 =>
  .op (.load none t8) fun t9 =>
  .op (.fieldAddr 6 (e 1)) fun t10 =>
  .op (.load none t10) fun t11 =>
  .op (.call 27 [t9, t11]) fun t12 =>
  .op (.bin .add (.int .i64 16) t12) fun t13 =>
  .op (.bin .mul t7 t13) fun t14 =>
  .op (.mv t14) fun t2 =>
  .done (e.upd 2 t2)) h Q := Iff.rfl
def c15 : CFn := ⟨(.seq (.region c15_r0) (.seq (.region c15_r1) (.seq (.region c15_r2) .ret))), [.t 2]⟩
def p15 : Pers := ⟨4, [], 15⟩
-- 16: weighbridge/weighbridgelaw07.light
def c16_r0 : Env → Reg := fun e =>
  .op (.mv (.bool false)) fun t2 =>
  .done (e.upd 2 t2)
theorem c16_r0_run {CP : CProg} (e : Env) (h : Heap) (Q : Post) : RunR CP (c16_r0 e) h Q ↔ RunR CP (
  .op (.mv (.bool false)) fun t2 =>
  .done (e.upd 2 t2)) h Q := Iff.rfl
def c16_r1 : Env → Reg := fun e =>
  .op (.mv (e 0)) fun t5 =>
  .op (.lenSl t5) fun t6 =>
  .op (.bin .gtr t6 (.int .i64 100)) fun t7 =>
  .done (e.upd 7 t7)
theorem c16_r1_run {CP : CProg} (e : Env) (h : Heap) (Q : Post) : RunR CP (c16_r1 e) h Q ↔ RunR CP (
  .op (.mv (e 0)) fun t5 =>
  .op (.lenSl t5) fun t6 =>
  .op (.bin .gtr t6 (.int .i64 100)) fun t7 =>
  .done (e.upd 7 t7)) h Q := Iff.rfl
def c16_r2 : Env → Reg := fun e =>
  .op (.mv (.bool false)) fun t2 =>
  .done (e.upd 2 t2)
theorem c16_r2_run {CP : CProg} (e : Env) (h : Heap) (Q : Post) : RunR CP (c16_r2 e) h Q ↔ RunR CP (
  .op (.mv (.bool false)) fun t2 =>
  .done (e.upd 2 t2)) h Q := Iff.rfl
def c16_r3 : Env → Reg := fun e =>
  .op (.mv (e 0)) fun t8 =>
  .op (.lenSl t8) fun t9 =>
  .op (.mv (.int .i64 0)) fun t10 =>
  .done (((e.upd 8 t8).upd 9 t9).upd 10 t10)
theorem c16_r3_run {CP : CProg} (e : Env) (h : Heap) (Q : Post) : RunR CP (c16_r3 e) h Q ↔ RunR CP (
  .op (.mv (e 0)) fun t8 =>
  .op (.lenSl t8) fun t9 =>
  .op (.mv (.int .i64 0)) fun t10 =>
  .done (((e.upd 8 t8).upd 9 t9).upd 10 t10)) h Q := Iff.rfl
def c16_r4 : Env → Reg := fun e =>
  .op (.bin .lss (e 10) (e 9)) fun t11 =>
  .done (e.upd 11 t11)
theorem c16_r4_run {CP : CProg} (e : Env) (h : Heap) (Q : Post) : RunR CP (c16_r4 e) h Q ↔ RunR CP (
  .op (.bin .lss (e 10) (e 9)) fun t11 =>
  .done (e.upd 11 t11)) h Q := Iff.rfl
def c16_r5 : Env → Reg := fun e =>
  .op (.indexSl 3 (e 8) (e 10)) fun t12 =>
  .op (.load (some 3) t12) fun t13 =>
  .op (.alloc 40 [(.int .i64 0), (.int .i64 0), (.string ⟨#[]⟩)]) fun t4 =>
  .op (.store 3 t4 t13) fun _ =>
  .done (e.upd 4 t4)
theorem c16_r5_run {CP : CProg} (e : Env) (h : Heap) (Q : Post) : RunR CP (c16_r5 e) h Q ↔ RunR CP (
  .op (.indexSl 3 (e 8) (e 10)) fun t12 =>
  .op (.load (some 3) t12) fun t13 =>
  .op (.alloc 40 [(.int .i64 0), (.int .i64 0), (.string ⟨#[]⟩)]) fun t4 =>
  .op (.store 3 t4 t13) fun _ =>
  .done (e.upd 4 t4)) h Q := Iff.rfl
def c16_r6 : Env → Reg := fun e =>
  .op (.fieldAddr 2 (e 4)) fun t14 =>
  .op (.load none t14) fun t15 =>
  .op (.lenStr t15) fun t16 =>
  .op (.bin .gtr t16 (.int .i64 100)) fun t17 =>
  .done (e.upd 17 t17)
theorem c16_r6_run {CP : CProg} (e : Env) (h : Heap) (Q : Post) : RunR CP (c16_r6 e) h Q ↔ RunR CP (
  .op (.fieldAddr 2 (e 4)) fun t14 =>
  .op (.load none t14) fun t15 =>
  .op (.lenStr t15) fun t16 =>
  .op (.bin .gtr t16 (.int .i64 100)) fun t17 =>
  .done (e.upd 17 t17)) h Q := Iff.rfl
def c16_r7 : Env → Reg := fun e =>
  .op (.mv (.bool false)) fun t2 =>
  .done (e.upd 2 t2)
theorem c16_r7_run {CP : CProg} (e : Env) (h : Heap) (Q : Post) : RunR CP (c16_r7 e) h Q ↔ RunR CP (
  .op (.mv (.bool false)) fun t2 =>
  .done (e.upd 2 t2)) h Q := Iff.rfl
def c16_r8 : Env → Reg := fun e =>
  .op (.bin .add (e 10) (.int .i64 1)) fun t18 =>
  .op (.mv t18) fun t10 =>
  .done (e.upd 10 t10)
theorem c16_r8_run {CP : CProg} (e : Env) (h : Heap) (Q : Post) : RunR CP (c16_r8 e) h Q ↔ RunR CP (
  .op (.bin .add (e 10) (.int .i64 1)) fun t18 =>
  .op (.mv t18) fun t10 =>
  .done (e.upd 10 t10)) h Q := Iff.rfl
def c16_l0 : CC := (.seq (.region c16_r4) (.seq (.cond (fun e => e 11) .skip (.exit 0)) (.seq (.block 1 (.seq (.region c16_r5) (.seq (.region c16_r6) (.cond (fun e => e 17) (.seq (.region c16_r7) .ret) .skip)))) (.region c16_r8))))
def c16_r9 : Env → Reg := fun e =>
  .op (.mv (.bool true)) fun t2 =>
  .done (e.upd 2 t2)
theorem c16_r9_run {CP : CProg} (e : Env) (h : Heap) (Q : Post) : RunR CP (c16_r9 e) h Q ↔ RunR CP (
  .op (.mv (.bool true)) fun t2 =>
  .done (e.upd 2 t2)) h Q := Iff.rfl
def c16 : CFn := ⟨(.seq (.region c16_r0) (.seq (.seq (.region c16_r1) (.cond (fun e => e 7) (.seq (.region c16_r2) .ret) .skip)) (.seq (.seq (.region c16_r3) (.block 0 (.loop c16_l0))) (.seq (.region c16_r9) .ret)))), [.t 2]⟩
def p16 : Pers := ⟨5, [7, 8, 9, 10, 11, 17], 19⟩
-- 17: weighbridge/weighbridgelaw07.gap
def c17_r0 : Env → Reg := fun e =>
  .op (.mv (.int .i64 0)) fun t2 =>
  .done (e.upd 2 t2)
theorem c17_r0_run {CP : CProg} (e : Env) (h : Heap) (Q : Post) : RunR CP (c17_r0 e) h Q ↔ RunR CP (
  .op (.mv (.int .i64 0)) fun t2 =>
  .done (e.upd 2 t2)) h Q := Iff.rfl
def c17_r1 : Env → Reg := fun e =>
  .op (.mv (e 0)) fun t3 =>
  .op (.bin .and t3 (.int .i64 1)) fun t4 =>
  .op (.bin .eql t4 (.int .i64 1)) fun t5 =>
  .done (e.upd 5 t5)
theorem c17_r1_run {CP : CProg} (e : Env) (h : Heap) (Q : Post) : RunR CP (c17_r1 e) h Q ↔ RunR CP (
  .op (.mv (e 0)) fun t3 =>
  .op (.bin .and t3 (.int .i64 1)) fun t4 =>
  .op (.bin .eql t4 (.int .i64 1)) fun t5 =>
  .done (e.upd 5 t5)) h Q := Iff.rfl
def c17_r2 : Env → Reg := fun e =>
  .op (.mv (e 0)) fun t6 =>
  .op (.bin .shr t6 (.int .u64 1)) fun t7 =>
  .op (.bin .and t7 (.int .i64 4095)) fun t8 =>
  .op (.mv t8) fun t2 =>
  .done (e.upd 2 t2)
theorem c17_r2_run {CP : CProg} (e : Env) (h : Heap) (Q : Post) : RunR CP (c17_r2 e) h Q ↔ RunR CP (
  .op (.mv (e 0)) fun t6 =>
  .op (.bin .shr t6 (.int .u64 1)) fun t7 =>
  .op (.bin .and t7 (.int .i64 4095)) fun t8 =>
  .op (.mv t8) fun t2 =>
  .done (e.upd 2 t2)) h Q := Iff.rfl
def c17_r3 : Env → Reg := fun e =>
  .op (.mv (e 0)) fun t9 =>
  .op (.bin .shr t9 (.int .u64 1)) fun t10 =>
  .op (.bin .and t10 (.int .i64 15)) fun t11 =>
  .op (.mv t11) fun t2 =>
  .done (e.upd 2 t2)
theorem c17_r3_run {CP : CProg} (e : Env) (h : Heap) (Q : Post) : RunR CP (c17_r3 e) h Q ↔ RunR CP (
  .op (.mv (e 0)) fun t9 =>
  .op (.bin .shr t9 (.int .u64 1)) fun t10 =>
  .op (.bin .and t10 (.int .i64 15)) fun t11 =>
  .op (.mv t11) fun t2 =>
  .done (e.upd 2 t2)) h Q := Iff.rfl
def c17 : CFn := ⟨(.seq (.region c17_r0) (.seq (.seq (.region c17_r1) (.cond (fun e => e 5) (.seq (.region c17_r2) .ret) .skip)) (.seq (.region c17_r3) .ret))), [.t 2]⟩
def p17 : Pers := ⟨3, [5], 12⟩
-- 18: (*weighbridge/ring.Ring).To
def c18_r0 : Env → Reg := fun e =>
  .op (.mv (e 0)) fun t4 =>
  .op (.eqK .ptr true t4 (.pointer none)) fun t5 =>
  .done (e.upd 5 t5)
theorem c18_r0_run {CP : CProg} (e : Env) (h : Heap) (Q : Post) : RunR CP (c18_r0 e) h Q ↔ RunR CP (
  .op (.mv (e 0)) fun t4 =>
  .op (.eqK .ptr true t4 (.pointer none)) fun t5 =>
  .done (e.upd 5 t5)) h Q := Iff.rfl
def c18_r1 : Env → Reg := fun e =>
  .op (.mv (e 0)) fun t6 =>
  .op (.mv (e 0)) fun t7 =>
  .op (.nilCheck t7) fun t8 =>
  .op (.fieldAddr 6 t8) fun t9 =>
  .op (.load none t9) fun t10 =>
  .op (.mv (e 1)) fun t11 =>
  .op (.minmax true [t10, t11]) fun t12 =>
  .op (.nilCheck t6) fun t13 =>
  .op (.fieldAddr 6 t13) fun t14 =>
  .op (.store 1 t14 t12) fun _ =>
  .done e
theorem c18_r1_run {CP : CProg} (e : Env) (h : Heap) (Q : Post) : RunR CP (c18_r1 e) h Q ↔ RunR CP (
  .op (.mv (e 0)) fun t6 =>
  .op (.mv (e 0)) fun t7 =>
  .op (.nilCheck t7) fun t8 =>
  .op (.fieldAddr 6 t8) fun t9 =>
  .op (.load none t9) fun t10 =>
  .op (.mv (e 1)) fun t11 =>
  .op (.minmax true [t10, t11]) fun t12 =>
  .op (.nilCheck t6) fun t13 =>
  .op (.fieldAddr 6 t13) fun t14 =>
  .op (.store 1 t14 t12) fun _ =>
  .done e) h Q := Iff.rfl
def c18 : CFn := ⟨(.seq (.region c18_r0) (.cond (fun e => e 5) (.region c18_r1) .skip)), []⟩
def p18 : Pers := ⟨4, [5], 15⟩
-- 19: (*weighbridge/ring.Ring).Add
def c19_r0 : Env → Reg := fun e =>
  .op (.mv (e 0)) fun t8 =>
  .op (.eqK .ptr false t8 (.pointer none)) fun t9 =>
  .done (e.upd 9 t9)
theorem c19_r0_run {CP : CProg} (e : Env) (h : Heap) (Q : Post) : RunR CP (c19_r0 e) h Q ↔ RunR CP (
  .op (.mv (e 0)) fun t8 =>
  .op (.eqK .ptr false t8 (.pointer none)) fun t9 =>
  .done (e.upd 9 t9)) h Q := Iff.rfl
def c19_r1 : Env → Reg := fun e =>
  .op (.mv (e 0)) fun t10 =>
  .op (.mv (e 0)) fun t11 =>
  .op (.nilCheck t11) fun t12 =>
  .op (.fieldAddr 6 t12) fun t13 =>
  .op (.load none t13) fun t14 =>
  .op (.call 14 [t10, t14]) fun t15 =>
  .op (.mv t15) fun t6 =>
  .done (e.upd 6 t6)
theorem c19_r1_run {CP : CProg} (e : Env) (h : Heap) (Q : Post) : RunR CP (c19_r1 e) h Q ↔ RunR CP (
  .op (.mv (e 0)) fun t10 =>
  .op (.mv (e 0)) fun t11 =>
  .op (.nilCheck t11) fun t12 =>
  .op (.fieldAddr 6 t12) fun t13 =>
  .op (.load none t13) fun t14 =>
  .op (.call 14 [t10, t14]) fun t15 =>
  .op (.mv t15) fun t6 =>
  .done (e.upd 6 t6)) h Q := Iff.rfl
def c19_r2 : Env → Reg := fun e =>
  .op (.mv (e 6)) fun t16 =>
  .op (.mv (e 0)) fun t17 =>
  .op (.nilCheck t17) fun t18 =>
  .op (.fieldAddr 0 t18) fun t19 =>
  .op (.load none t19) fun t20 =>
  .op (.lenSl t20) fun t21 =>
  .op (.bin .rem t16 t21) fun t22 =>
  .op (.mv t22) fun t7 =>
  .done (e.upd 7 t7)
theorem c19_r2_run {CP : CProg} (e : Env) (h : Heap) (Q : Post) : RunR CP (c19_r2 e) h Q ↔ RunR CP (
  .op (.mv (e 6)) fun t16 =>
  .op (.mv (e 0)) fun t17 =>
  .op (.nilCheck t17) fun t18 =>
  .op (.fieldAddr 0 t18) fun t19 =>
  .op (.load none t19) fun t20 =>
  .op (.lenSl t20) fun t21 =>
  .op (.bin .rem t16 t21) fun t22 =>
  .op (.mv t22) fun t7 =>
  .done (e.upd 7 t7)) h Q := Iff.rfl
def c19_r3 : Env → Reg := fun e =>
  .op (.mv (e 0)) fun t23 =>
  .op (.nilCheck t23) fun t24 =>
  .op (.fieldAddr 1 t24) fun t25 =>
  .op (.load none t25) fun t26 =>
  .op (.mv (e 7)) fun t27 =>
  .op (.indexSl 1 t26 t27) fun t28 =>
  .op (.load none t28) fun t29 =>
  .op (.mv (e 6)) fun t30 =>
  .op (.bin .add t30 (.int .i64 1)) fun t31 =>
  .op (.bin .neq t29 t31) fun t32 =>
  .done (e.upd 32 t32)
theorem c19_r3_run {CP : CProg} (e : Env) (h : Heap) (Q : Post) : RunR CP (c19_r3 e) h Q ↔ RunR CP (
  .op (.mv (e 0)) fun t23 =>
  .op (.nilCheck t23) fun t24 =>
  .op (.fieldAddr 1 t24) fun t25 =>
  .op (.load none t25) fun t26 =>
  .op (.mv (e 7)) fun t27 =>
  .op (.indexSl 1 t26 t27) fun t28 =>
  .op (.load none t28) fun t29 =>
  .op (.mv (e 6)) fun t30 =>
  .op (.bin .add t30 (.int .i64 1)) fun t31 =>
  .op (.bin .neq t29 t31) fun t32 =>
  .done (e.upd 32 t32)) h Q := Iff.rfl
def c19_r4 : Env → Reg := fun e =>
  .op (.mv (e 0)) fun t33 =>
  .op (.nilCheck t33) fun t34 =>
  .op (.fieldAddr 0 t34) fun t35 =>
  .op (.load none t35) fun t36 =>
  .op (.mv (e 7)) fun t37 =>
  .op (.indexSl 1 t36 t37) fun t38 =>
  .op (.load none t38) fun t39 =>
  .op (.call 28 [t39]) fun t40 =>
  .done e
theorem c19_r4_run {CP : CProg} (e : Env) (h : Heap) (Q : Post) : RunR CP (c19_r4 e) h Q ↔ RunR CP (
  .op (.mv (e 0)) fun t33 =>
  .op (.nilCheck t33) fun t34 =>
  .op (.fieldAddr 0 t34) fun t35 =>
  .op (.load none t35) fun t36 =>
  .op (.mv (e 7)) fun t37 =>
  .op (.indexSl 1 t36 t37) fun t38 =>
  .op (.load none t38) fun t39 =>
  .op (.call 28 [t39]) fun t40 =>
  .done e) h Q := Iff.rfl
def c19_r5 : Env → Reg := fun e =>
  .op (.mv (e 0)) fun t41 =>
  .op (.nilCheck t41) fun t42 =>
  .op (.fieldAddr 1 t42) fun t43 =>
  .op (.load none t43) fun t44 =>
  .op (.mv (e 7)) fun t45 =>
  .op (.mv (e 6)) fun t46 =>
  .op (.bin .add t46 (.int .i64 1)) fun t47 =>
  .op (.indexSl 1 t44 t45) fun t48 =>
  .op (.store 1 t48 t47) fun _ =>
  .done e
theorem c19_r5_run {CP : CProg} (e : Env) (h : Heap) (Q : Post) : RunR CP (c19_r5 e) h Q ↔ RunR CP (
  .op (.mv (e 0)) fun t41 =>
  .op (.nilCheck t41) fun t42 =>
  .op (.fieldAddr 1 t42) fun t43 =>
  .op (.load none t43) fun t44 =>
  .op (.mv (e 7)) fun t45 =>
  .op (.mv (e 6)) fun t46 =>
  .op (.bin .add t46 (.int .i64 1)) fun t47 =>
  .op (.indexSl 1 t44 t45) fun t48 =>
  .op (.store 1 t48 t47) fun _ =>
  .done e) h Q := Iff.rfl
def c19_r6 : Env → Reg := fun e =>
  .op (.mv (e 0)) fun t49 =>
  .op (.nilCheck t49) fun t50 =>
  .op (.fieldAddr 0 t50) fun t51 =>
  .op (.load none t51) fun t52 =>
  .op (.mv (e 7)) fun t53 =>
  .op (.indexSl 1 t52 t53) fun t54 =>
  .op (.load none t54) fun t55 =>
  .op (.mv (e 1)) fun t56 =>
  .op (.mv (e 2)) fun t57 =>
  .op (.call 29 [t55, t56, t57]) fun t58 =>
  .done e
theorem c19_r6_run {CP : CProg} (e : Env) (h : Heap) (Q : Post) : RunR CP (c19_r6 e) h Q ↔ RunR CP (
  .op (.mv (e 0)) fun t49 =>
  .op (.nilCheck t49) fun t50 =>
  .op (.fieldAddr 0 t50) fun t51 =>
  .op (.load none t51) fun t52 =>
  .op (.mv (e 7)) fun t53 =>
  .op (.indexSl 1 t52 t53) fun t54 =>
  .op (.load none t54) fun t55 =>
  .op (.mv (e 1)) fun t56 =>
  .op (.mv (e 2)) fun t57 =>
  .op (.call 29 [t55, t56, t57]) fun t58 =>
  .done e) h Q := Iff.rfl
def c19 : CFn := ⟨(.seq (.seq (.region c19_r0) (.cond (fun e => e 9) .ret .skip)) (.seq (.region c19_r1) (.seq (.region c19_r2) (.seq (.seq (.region c19_r3) (.cond (fun e => e 32) (.seq (.region c19_r4) (.region c19_r5)) .skip)) (.region c19_r6))))), []⟩
def p19 : Pers := ⟨8, [9, 32], 59⟩
-- 20: (*weighbridge/ring.Ring).Estimate
def c20_r0 : Env → Reg := fun e =>
  .op (.mv (.int .i64 0)) fun t4 =>
  .done (e.upd 4 t4)
theorem c20_r0_run {CP : CProg} (e : Env) (h : Heap) (Q : Post) : RunR CP (c20_r0 e) h Q ↔ RunR CP (
  .op (.mv (.int .i64 0)) fun t4 =>
  .done (e.upd 4 t4)) h Q := Iff.rfl
def c20_r1 : Env → Reg := fun e =>
  .op (.mv (e 0)) fun t5 =>
  .op (.eqK .ptr false t5 (.pointer none)) fun t6 =>
  .done (e.upd 6 t6)
theorem c20_r1_run {CP : CProg} (e : Env) (h : Heap) (Q : Post) : RunR CP (c20_r1 e) h Q ↔ RunR CP (
  .op (.mv (e 0)) fun t5 =>
  .op (.eqK .ptr false t5 (.pointer none)) fun t6 =>
  .done (e.upd 6 t6)) h Q := Iff.rfl
def c20_r2 : Env → Reg := fun e =>
  .op (.mv (.int .i64 0)) fun t4 =>
  .done (e.upd 4 t4)
theorem c20_r2_run {CP : CProg} (e : Env) (h : Heap) (Q : Post) : RunR CP (c20_r2 e) h Q ↔ RunR CP (
  .op (.mv (.int .i64 0)) fun t4 =>
  .done (e.upd 4 t4)) h Q := Iff.rfl
def c20_r3_c2 (e : Env) (t7 : Value) (t8 : Value) (h7 : Heap) (t14 : Value) (t18 : Value) (t20 : Value) : Reg :=
  .op (.fieldAddr 2 t20) fun t21 =>
  .op (.load none t21) fun t22 =>
  .chk none (some h7) (.load none t21) t22 <|
  .op (.bin .rem t18 t22) fun t23 =>
  .snap fun h17 =>
  .op (.call 30 [t7, t8, t14, t23]) fun t24 =>
  .op (.mv t24) fun t4 =>
  .done (e.upd 4 t4)
theorem c20_r3_c2_run {CP : CProg} (e : Env) (t7 : Value) (t8 : Value) (h7 : Heap) (t14 : Value) (t18 : Value) (t20 : Value) (h : Heap) (Q : Post) : RunR CP (c20_r3_c2 e t7 t8 h7 t14 t18 t20) h Q ↔ RunR CP (
  .op (.fieldAddr 2 t20) fun t21 =>
  .op (.load none t21) fun t22 =>
  .chk none (some h7) (.load none t21) t22 <|
  .op (.bin .rem t18 t22) fun t23 =>
  .snap fun h17 =>
  .op (.call 30 [t7, t8, t14, t23]) fun t24 =>
  .op (.mv t24) fun t4 =>
  .done (e.upd 4 t4)) h Q := Iff.rfl
def c20_r3_c1 (e : Env) (t7 : Value) (t8 : Value) (t9 : Value) (t13 : Value) (h7 : Heap) : Reg :=
  .op (.call 14 [t9, t13]) fun t14 =>
  .op (.mv (e 0)) fun t15 =>
  .op (.nilCheck t15) fun t16 =>
  .op (.fieldAddr 6 t16) fun t17 =>
  .op (.load none t17) fun t18 =>
  .chk none (some h7) (.load none t17) t18 <|
  .op (.mv (e 0)) fun t19 =>
  .op (.nilCheck t19) fun t20 =>
  c20_r3_c2 e t7 t8 h7 t14 t18 t20
theorem c20_r3_c1_run {CP : CProg} (e : Env) (t7 : Value) (t8 : Value) (t9 : Value) (t13 : Value) (h7 : Heap) (h : Heap) (Q : Post) : RunR CP (c20_r3_c1 e t7 t8 t9 t13 h7) h Q ↔ RunR CP (
  .op (.call 14 [t9, t13]) fun t14 =>
  .op (.mv (e 0)) fun t15 =>
  .op (.nilCheck t15) fun t16 =>
  .op (.fieldAddr 6 t16) fun t17 =>
  .op (.load none t17) fun t18 =>
  .chk none (some h7) (.load none t17) t18 <|
  .op (.mv (e 0)) fun t19 =>
  .op (.nilCheck t19) fun t20 =>
  c20_r3_c2 e t7 t8 h7 t14 t18 t20) h Q := Iff.rfl
def c20_r3 : Env → Reg := fun e =>
  .op (.mv (e 0)) fun t7 =>
  .op (.mv (e 1)) fun t8 =>
  .op (.mv (e 0)) fun t9 =>
  .op (.mv (e 0)) fun t10 =>
  .op (.nilCheck t10) fun t11 =>
  .op (.fieldAddr 6 t11) fun t12 =>
  .op (.load none t12) fun t13 =>
  .snap fun h7 =>
  c20_r3_c1 e t7 t8 t9 t13 h7
theorem c20_r3_run {CP : CProg} (e : Env) (h : Heap) (Q : Post) : RunR CP (c20_r3 e) h Q ↔ RunR CP (
  .op (.mv (e 0)) fun t7 =>
  .op (.mv (e 1)) fun t8 =>
  .op (.mv (e 0)) fun t9 =>
  .op (.mv (e 0)) fun t10 =>
  .op (.nilCheck t10) fun t11 =>
  .op (.fieldAddr 6 t11) fun t12 =>
  .op (.load none t12) fun t13 =>
  .snap fun h7 =>
  c20_r3_c1 e t7 t8 t9 t13 h7) h Q := Iff.rfl
def c20 : CFn := ⟨(.seq (.region c20_r0) (.seq (.seq (.region c20_r1) (.cond (fun e => e 6) (.seq (.region c20_r2) .ret) .skip)) (.seq (.region c20_r3) .ret))), [.t 4]⟩
def p20 : Pers := ⟨5, [6], 25⟩
-- 21: (*weighbridge/ring.Ring).Mass
def c21_r0 : Env → Reg := fun e =>
  .op (.mv (.int .i64 0)) fun t6 =>
  .done (e.upd 6 t6)
theorem c21_r0_run {CP : CProg} (e : Env) (h : Heap) (Q : Post) : RunR CP (c21_r0 e) h Q ↔ RunR CP (
  .op (.mv (.int .i64 0)) fun t6 =>
  .done (e.upd 6 t6)) h Q := Iff.rfl
def c21_r1 : Env → Reg := fun e =>
  .op (.mv (e 0)) fun t10 =>
  .op (.eqK .ptr false t10 (.pointer none)) fun t11 =>
  .done (e.upd 11 t11)
theorem c21_r1_run {CP : CProg} (e : Env) (h : Heap) (Q : Post) : RunR CP (c21_r1 e) h Q ↔ RunR CP (
  .op (.mv (e 0)) fun t10 =>
  .op (.eqK .ptr false t10 (.pointer none)) fun t11 =>
  .done (e.upd 11 t11)) h Q := Iff.rfl
def c21_r2 : Env → Reg := fun e =>
  .op (.mv (.int .i64 0)) fun t6 =>
  .done (e.upd 6 t6)
theorem c21_r2_run {CP : CProg} (e : Env) (h : Heap) (Q : Post) : RunR CP (c21_r2 e) h Q ↔ RunR CP (
  .op (.mv (.int .i64 0)) fun t6 =>
  .done (e.upd 6 t6)) h Q := Iff.rfl
def c21_r3 : Env → Reg := fun e =>
  .op (.mv (e 0)) fun t12 =>
  .op (.mv (e 0)) fun t13 =>
  .op (.nilCheck t13) fun t14 =>
  .op (.fieldAddr 6 t14) fun t15 =>
  .op (.load none t15) fun t16 =>
  .op (.call 14 [t12, t16]) fun t17 =>
  .op (.mv t17) fun t7 =>
  .op (.mv (.int .i64 0)) fun t8 =>
  .done ((e.upd 7 t7).upd 8 t8)
theorem c21_r3_run {CP : CProg} (e : Env) (h : Heap) (Q : Post) : RunR CP (c21_r3 e) h Q ↔ RunR CP (
  .op (.mv (e 0)) fun t12 =>
  .op (.mv (e 0)) fun t13 =>
  .op (.nilCheck t13) fun t14 =>
  .op (.fieldAddr 6 t14) fun t15 =>
  .op (.load none t15) fun t16 =>
  .op (.call 14 [t12, t16]) fun t17 =>
  .op (.mv t17) fun t7 =>
  .op (.mv (.int .i64 0)) fun t8 =>
  .done ((e.upd 7 t7).upd 8 t8)) h Q := Iff.rfl
def c21_r4 : Env → Reg := fun e =>
  .op (.mv (e 7)) fun t18 =>
  .op (.mv (e 0)) fun t19 =>
  .op (.nilCheck t19) fun t20 =>
  .op (.fieldAddr 0 t20) fun t21 =>
  .op (.load none t21) fun t22 =>
  .op (.lenSl t22) fun t23 =>
  .op (.bin .sub t18 t23) fun t24 =>
  .op (.bin .add t24 (.int .i64 1)) fun t25 =>
  .op (.mv t25) fun t9 =>
  .done (e.upd 9 t9)
theorem c21_r4_run {CP : CProg} (e : Env) (h : Heap) (Q : Post) : RunR CP (c21_r4 e) h Q ↔ RunR CP (
  .op (.mv (e 7)) fun t18 =>
  .op (.mv (e 0)) fun t19 =>
  .op (.nilCheck t19) fun t20 =>
  .op (.fieldAddr 0 t20) fun t21 =>
  .op (.load none t21) fun t22 =>
  .op (.lenSl t22) fun t23 =>
  .op (.bin .sub t18 t23) fun t24 =>
  .op (.bin .add t24 (.int .i64 1)) fun t25 =>
  .op (.mv t25) fun t9 =>
  .done (e.upd 9 t9)) h Q := Iff.rfl
def c21_r5 : Env → Reg := fun e =>
  .op (.mv (e 9)) fun t26 =>
  .op (.mv (e 7)) fun t27 =>
  .op (.bin .leq t26 t27) fun t28 =>
  .done (e.upd 28 t28)
theorem c21_r5_run {CP : CProg} (e : Env) (h : Heap) (Q : Post) : RunR CP (c21_r5 e) h Q ↔ RunR CP (
  .op (.mv (e 9)) fun t26 =>
  .op (.mv (e 7)) fun t27 =>
  .op (.bin .leq t26 t27) fun t28 =>
  .done (e.upd 28 t28)) h Q := Iff.rfl
def c21_r7 : Env → Reg := fun e =>
  .op (.mv (e 8)) fun t31 =>
  .op (.mv (e 0)) fun t32 =>
  .op (.mv (e 9)) fun t33 =>
  .op (.call 32 [t32, t33]) fun t34 =>
  .op (.mv (e 1)) fun t35 =>
  .op (.mv (e 2)) fun t36 =>
  .op (.call 33 [t34, t35, t36]) fun t37 =>
  .op (.call 31 [t31, t37]) fun t38 =>
  .op (.mv t38) fun t8 =>
  .done (e.upd 8 t8)
theorem c21_r7_run {CP : CProg} (e : Env) (h : Heap) (Q : Post) : RunR CP (c21_r7 e) h Q ↔ RunR CP (
  .op (.mv (e 8)) fun t31 =>
  .op (.mv (e 0)) fun t32 =>
  .op (.mv (e 9)) fun t33 =>
  .op (.call 32 [t32, t33]) fun t34 =>
  .op (.mv (e 1)) fun t35 =>
  .op (.mv (e 2)) fun t36 =>
  .op (.call 33 [t34, t35, t36]) fun t37 =>
  .op (.call 31 [t31, t37]) fun t38 =>
  .op (.mv t38) fun t8 =>
  .done (e.upd 8 t8)) h Q := Iff.rfl
def c21_r6 : Env → Reg := fun e =>
  .op (.mv (e 9)) fun t29 =>
  .op (.bin .add t29 (.int .i64 1)) fun t30 =>
  .op (.mv t30) fun t9 =>
  .done (e.upd 9 t9)
theorem c21_r6_run {CP : CProg} (e : Env) (h : Heap) (Q : Post) : RunR CP (c21_r6 e) h Q ↔ RunR CP (
  .op (.mv (e 9)) fun t29 =>
  .op (.bin .add t29 (.int .i64 1)) fun t30 =>
  .op (.mv t30) fun t9 =>
  .done (e.upd 9 t9)) h Q := Iff.rfl
def c21_l0 : CC := (.seq (.seq (.region c21_r5) (.cond (fun e => e 28) .skip (.exit 0))) (.seq (.block 1 (.region c21_r7)) (.region c21_r6)))
def c21_r8 : Env → Reg := fun e =>
  .op (.mv (e 8)) fun t39 =>
  .op (.mv t39) fun t6 =>
  .done (e.upd 6 t6)
theorem c21_r8_run {CP : CProg} (e : Env) (h : Heap) (Q : Post) : RunR CP (c21_r8 e) h Q ↔ RunR CP (
  .op (.mv (e 8)) fun t39 =>
  .op (.mv t39) fun t6 =>
  .done (e.upd 6 t6)) h Q := Iff.rfl
def c21 : CFn := ⟨(.seq (.region c21_r0) (.seq (.seq (.region c21_r1) (.cond (fun e => e 11) (.seq (.region c21_r2) .ret) .skip)) (.seq (.region c21_r3) (.seq (.seq (.region c21_r4) (.block 0 (.loop c21_l0))) (.seq (.region c21_r8) .ret))))), [.t 6]⟩
def p21 : Pers := ⟨10, [11, 28], 40⟩
-- 22: (*weighbridge/ring.Ring).Wait
def c22_r0 : Env → Reg := fun e =>
  .op (.mv (.int .i64 0)) fun t6 =>
  .done (e.upd 6 t6)
theorem c22_r0_run {CP : CProg} (e : Env) (h : Heap) (Q : Post) : RunR CP (c22_r0 e) h Q ↔ RunR CP (
  .op (.mv (.int .i64 0)) fun t6 =>
  .done (e.upd 6 t6)) h Q := Iff.rfl
def c22_r1_c1 (e : Env) (t11 : Value) (h5 : Heap) (t14 : Value) (t15 : Value) : Reg :=
  .snap fun h7 =>
  .opg t11 false (.call 31 [t14, t15]) fun t16 =>
  .opg t11 false (.mv (e 0)) fun t17 =>
  .opg t11 false (.nilCheck t17) fun t18 =>
  .opg t11 false (.fieldAddr 4 t18) fun t19 =>
  .opg t11 false (.load none t19) fun t20 =>
  .chk (some (t11, false)) (some h7) (.load none t19) t20 <|
  .chk (some (t11, false)) (some h5) (.load none t19) t20 <|
  .opg t11 false (.bin .leq t16 t20) fun t21 =>
  .op (.pick t11 (.bool true) t21) fun t22 =>
  .done (e.upd 22 t22)
theorem c22_r1_c1_run {CP : CProg} (e : Env) (t11 : Value) (h5 : Heap) (t14 : Value) (t15 : Value) (h : Heap) (Q : Post) : RunR CP (c22_r1_c1 e t11 h5 t14 t15) h Q ↔ RunR CP (
  .snap fun h7 =>
  .opg t11 false (.call 31 [t14, t15]) fun t16 =>
  .opg t11 false (.mv (e 0)) fun t17 =>
  .opg t11 false (.nilCheck t17) fun t18 =>
  .opg t11 false (.fieldAddr 4 t18) fun t19 =>
  .opg t11 false (.load none t19) fun t20 =>
  .chk (some (t11, false)) (some h7) (.load none t19) t20 <|
  .chk (some (t11, false)) (some h5) (.load none t19) t20 <|
  .opg t11 false (.bin .leq t16 t20) fun t21 =>
  .op (.pick t11 (.bool true) t21) fun t22 =>
  .done (e.upd 22 t22)) h Q := Iff.rfl
def c22_r1 : Env → Reg := fun e =>
  .op (.mv (e 0)) fun t9 =>
  .op (.eqK .ptr false t9 (.pointer none)) fun t10 =>
  .op (.mv t10) fun t11 =>
  .opg t11 false (.mv (e 0)) fun t12 =>
  .opg t11 false (.mv (e 1)) fun t13 =>
  .snap fun h5 =>
  .opg t11 false (.call 20 [t12, t13]) fun t14 =>
  .opg t11 false (.mv (e 2)) fun t15 =>
  c22_r1_c1 e t11 h5 t14 t15
theorem c22_r1_run {CP : CProg} (e : Env) (h : Heap) (Q : Post) : RunR CP (c22_r1 e) h Q ↔ RunR CP (
  .op (.mv (e 0)) fun t9 =>
  .op (.eqK .ptr false t9 (.pointer none)) fun t10 =>
  .op (.mv t10) fun t11 =>
  .opg t11 false (.mv (e 0)) fun t12 =>
  .opg t11 false (.mv (e 1)) fun t13 =>
  .snap fun h5 =>
  .opg t11 false (.call 20 [t12, t13]) fun t14 =>
  .opg t11 false (.mv (e 2)) fun t15 =>
  c22_r1_c1 e t11 h5 t14 t15) h Q := Iff.rfl
def c22_r2 : Env → Reg := fun e =>
  .op (.mv (.int .i64 0)) fun t6 =>
  .done (e.upd 6 t6)
theorem c22_r2_run {CP : CProg} (e : Env) (h : Heap) (Q : Post) : RunR CP (c22_r2 e) h Q ↔ RunR CP (
  .op (.mv (.int .i64 0)) fun t6 =>
  .done (e.upd 6 t6)) h Q := Iff.rfl
def c22_r3 : Env → Reg := fun e =>
  .op (.mv (e 0)) fun t23 =>
  .op (.mv (e 0)) fun t24 =>
  .op (.nilCheck t24) fun t25 =>
  .op (.fieldAddr 6 t25) fun t26 =>
  .op (.load none t26) fun t27 =>
  .op (.call 14 [t23, t27]) fun t28 =>
  .op (.mv t28) fun t7 =>
  .done (e.upd 7 t7)
theorem c22_r3_run {CP : CProg} (e : Env) (h : Heap) (Q : Post) : RunR CP (c22_r3 e) h Q ↔ RunR CP (
  .op (.mv (e 0)) fun t23 =>
  .op (.mv (e 0)) fun t24 =>
  .op (.nilCheck t24) fun t25 =>
  .op (.fieldAddr 6 t25) fun t26 =>
  .op (.load none t26) fun t27 =>
  .op (.call 14 [t23, t27]) fun t28 =>
  .op (.mv t28) fun t7 =>
  .done (e.upd 7 t7)) h Q := Iff.rfl
def c22_r4 : Env → Reg := fun e =>
  .op (.mv (.int .i64 1)) fun t8 =>
  .done (e.upd 8 t8)
theorem c22_r4_run {CP : CProg} (e : Env) (h : Heap) (Q : Post) : RunR CP (c22_r4 e) h Q ↔ RunR CP (
  .op (.mv (.int .i64 1)) fun t8 =>
  .done (e.upd 8 t8)) h Q := Iff.rfl
def c22_r5 : Env → Reg := fun e =>
  .op (.mv (e 8)) fun t29 =>
  .op (.mv (e 0)) fun t30 =>
  .op (.nilCheck t30) fun t31 =>
  .op (.fieldAddr 0 t31) fun t32 =>
  .op (.load none t32) fun t33 =>
  .op (.lenSl t33) fun t34 =>
  .op (.bin .leq t29 t34) fun t35 =>
  .done (e.upd 35 t35)
theorem c22_r5_run {CP : CProg} (e : Env) (h : Heap) (Q : Post) : RunR CP (c22_r5 e) h Q ↔ RunR CP (
  .op (.mv (e 8)) fun t29 =>
  .op (.mv (e 0)) fun t30 =>
  .op (.nilCheck t30) fun t31 =>
  .op (.fieldAddr 0 t31) fun t32 =>
  .op (.load none t32) fun t33 =>
  .op (.lenSl t33) fun t34 =>
  .op (.bin .leq t29 t34) fun t35 =>
  .done (e.upd 35 t35)) h Q := Iff.rfl
def c22_r7_c1 (e : Env) (h5 : Heap) (t43 : Value) (t44 : Value) : Reg :=
  .snap fun h7 =>
  .op (.call 31 [t43, t44]) fun t45 =>
  .op (.mv (e 0)) fun t46 =>
  .op (.nilCheck t46) fun t47 =>
  .op (.fieldAddr 4 t47) fun t48 =>
  .op (.load none t48) fun t49 =>
  .chk none (some h7) (.load none t48) t49 <|
  .chk none (some h5) (.load none t48) t49 <|
  .op (.bin .leq t45 t49) fun t50 =>
  .done (e.upd 50 t50)
theorem c22_r7_c1_run {CP : CProg} (e : Env) (h5 : Heap) (t43 : Value) (t44 : Value) (h : Heap) (Q : Post) : RunR CP (c22_r7_c1 e h5 t43 t44) h Q ↔ RunR CP (
  .snap fun h7 =>
  .op (.call 31 [t43, t44]) fun t45 =>
  .op (.mv (e 0)) fun t46 =>
  .op (.nilCheck t46) fun t47 =>
  .op (.fieldAddr 4 t47) fun t48 =>
  .op (.load none t48) fun t49 =>
  .chk none (some h7) (.load none t48) t49 <|
  .chk none (some h5) (.load none t48) t49 <|
  .op (.bin .leq t45 t49) fun t50 =>
  .done (e.upd 50 t50)) h Q := Iff.rfl
def c22_r7 : Env → Reg := fun e =>
  .op (.mv (e 0)) fun t38 =>
  .op (.mv (e 1)) fun t39 =>
  .op (.mv (e 7)) fun t40 =>
  .op (.mv (e 8)) fun t41 =>
  .op (.bin .add t40 t41) fun t42 =>
  .snap fun h5 =>
  .op (.call 30 [t38, t39, t42, (.int .i64 0)]) fun t43 =>
  .op (.mv (e 2)) fun t44 =>
  c22_r7_c1 e h5 t43 t44
theorem c22_r7_run {CP : CProg} (e : Env) (h : Heap) (Q : Post) : RunR CP (c22_r7 e) h Q ↔ RunR CP (
  .op (.mv (e 0)) fun t38 =>
  .op (.mv (e 1)) fun t39 =>
  .op (.mv (e 7)) fun t40 =>
  .op (.mv (e 8)) fun t41 =>
  .op (.bin .add t40 t41) fun t42 =>
  .snap fun h5 =>
  .op (.call 30 [t38, t39, t42, (.int .i64 0)]) fun t43 =>
  .op (.mv (e 2)) fun t44 =>
  c22_r7_c1 e h5 t43 t44) h Q := Iff.rfl
def c22_r8_c1 (e : Env) (t53 : Value) (t57 : Value) (h7 : Heap) : Reg :=
  .op (.call 34 [t53, t57]) fun t58 =>
  .op (.mv (e 0)) fun t59 =>
  .op (.nilCheck t59) fun t60 =>
  .op (.fieldAddr 6 t60) fun t61 =>
  .op (.load none t61) fun t62 =>
  .chk none (some h7) (.load none t61) t62 <|
  .op (.un .neg t62) fun t63 =>
  .snap fun h13 =>
  .op (.call 31 [t58, t63]) fun t64 =>
  .op (.mv t64) fun t6 =>
  .done (e.upd 6 t6)
theorem c22_r8_c1_run {CP : CProg} (e : Env) (t53 : Value) (t57 : Value) (h7 : Heap) (h : Heap) (Q : Post) : RunR CP (c22_r8_c1 e t53 t57 h7) h Q ↔ RunR CP (
  .op (.call 34 [t53, t57]) fun t58 =>
  .op (.mv (e 0)) fun t59 =>
  .op (.nilCheck t59) fun t60 =>
  .op (.fieldAddr 6 t60) fun t61 =>
  .op (.load none t61) fun t62 =>
  .chk none (some h7) (.load none t61) t62 <|
  .op (.un .neg t62) fun t63 =>
  .snap fun h13 =>
  .op (.call 31 [t58, t63]) fun t64 =>
  .op (.mv t64) fun t6 =>
  .done (e.upd 6 t6)) h Q := Iff.rfl
def c22_r8 : Env → Reg := fun e =>
  .op (.mv (e 7)) fun t51 =>
  .op (.mv (e 8)) fun t52 =>
  .op (.bin .add t51 t52) fun t53 =>
  .op (.mv (e 0)) fun t54 =>
  .op (.nilCheck t54) fun t55 =>
  .op (.fieldAddr 2 t55) fun t56 =>
  .op (.load none t56) fun t57 =>
  .snap fun h7 =>
  c22_r8_c1 e t53 t57 h7
theorem c22_r8_run {CP : CProg} (e : Env) (h : Heap) (Q : Post) : RunR CP (c22_r8 e) h Q ↔ RunR CP (
  .op (.mv (e 7)) fun t51 =>
  .op (.mv (e 8)) fun t52 =>
  .op (.bin .add t51 t52) fun t53 =>
  .op (.mv (e 0)) fun t54 =>
  .op (.nilCheck t54) fun t55 =>
  .op (.fieldAddr 2 t55) fun t56 =>
  .op (.load none t56) fun t57 =>
  .snap fun h7 =>
  c22_r8_c1 e t53 t57 h7) h Q := Iff.rfl
def c22_r6 : Env → Reg := fun e =>
  .op (.mv (e 8)) fun t36 =>
  .op (.bin .add t36 (.int .i64 1)) fun t37 =>
  .op (.mv t37) fun t8 =>
  .done (e.upd 8 t8)
theorem c22_r6_run {CP : CProg} (e : Env) (h : Heap) (Q : Post) : RunR CP (c22_r6 e) h Q ↔ RunR CP (
  .op (.mv (e 8)) fun t36 =>
  .op (.bin .add t36 (.int .i64 1)) fun t37 =>
  .op (.mv t37) fun t8 =>
  .done (e.upd 8 t8)) h Q := Iff.rfl
def c22_l0 : CC := (.seq (.seq (.region c22_r5) (.cond (fun e => e 35) .skip (.exit 0))) (.seq (.block 1 (.seq (.region c22_r7) (.cond (fun e => e 50) (.seq (.region c22_r8) .ret) .skip))) (.region c22_r6)))
def c22_r9_c2 (e : Env) (h11 : Heap) (t76 : Value) (t79 : Value) : Reg :=
  .op (.load none t79) fun t80 =>
  .chk none (some h11) (.load none t79) t80 <|
  .op (.un .neg t80) fun t81 =>
  .snap fun h17 =>
  .op (.call 31 [t76, t81]) fun t82 =>
  .op (.mv t82) fun t6 =>
  .done (e.upd 6 t6)
theorem c22_r9_c2_run {CP : CProg} (e : Env) (h11 : Heap) (t76 : Value) (t79 : Value) (h : Heap) (Q : Post) : RunR CP (c22_r9_c2 e h11 t76 t79) h Q ↔ RunR CP (
  .op (.load none t79) fun t80 =>
  .chk none (some h11) (.load none t79) t80 <|
  .op (.un .neg t80) fun t81 =>
  .snap fun h17 =>
  .op (.call 31 [t76, t81]) fun t82 =>
  .op (.mv t82) fun t6 =>
  .done (e.upd 6 t6)) h Q := Iff.rfl
def c22_r9_c1 (e : Env) (t71 : Value) (t72 : Value) : Reg :=
  .op (.nilCheck t72) fun t73 =>
  .op (.fieldAddr 2 t73) fun t74 =>
  .op (.load none t74) fun t75 =>
  .snap fun h11 =>
  .op (.call 34 [t71, t75]) fun t76 =>
  .op (.mv (e 0)) fun t77 =>
  .op (.nilCheck t77) fun t78 =>
  .op (.fieldAddr 6 t78) fun t79 =>
  c22_r9_c2 e h11 t76 t79
theorem c22_r9_c1_run {CP : CProg} (e : Env) (t71 : Value) (t72 : Value) (h : Heap) (Q : Post) : RunR CP (c22_r9_c1 e t71 t72) h Q ↔ RunR CP (
  .op (.nilCheck t72) fun t73 =>
  .op (.fieldAddr 2 t73) fun t74 =>
  .op (.load none t74) fun t75 =>
  .snap fun h11 =>
  .op (.call 34 [t71, t75]) fun t76 =>
  .op (.mv (e 0)) fun t77 =>
  .op (.nilCheck t77) fun t78 =>
  .op (.fieldAddr 6 t78) fun t79 =>
  c22_r9_c2 e h11 t76 t79) h Q := Iff.rfl
def c22_r9 : Env → Reg := fun e =>
  .op (.mv (e 7)) fun t65 =>
  .op (.mv (e 0)) fun t66 =>
  .op (.nilCheck t66) fun t67 =>
  .op (.fieldAddr 0 t67) fun t68 =>
  .op (.load none t68) fun t69 =>
  .op (.lenSl t69) fun t70 =>
  .op (.bin .add t65 t70) fun t71 =>
  .op (.mv (e 0)) fun t72 =>
  c22_r9_c1 e t71 t72
theorem c22_r9_run {CP : CProg} (e : Env) (h : Heap) (Q : Post) : RunR CP (c22_r9 e) h Q ↔ RunR CP (
  .op (.mv (e 7)) fun t65 =>
  .op (.mv (e 0)) fun t66 =>
  .op (.nilCheck t66) fun t67 =>
  .op (.fieldAddr 0 t67) fun t68 =>
  .op (.load none t68) fun t69 =>
  .op (.lenSl t69) fun t70 =>
  .op (.bin .add t65 t70) fun t71 =>
  .op (.mv (e 0)) fun t72 =>
  c22_r9_c1 e t71 t72) h Q := Iff.rfl
def c22 : CFn := ⟨(.seq (.region c22_r0) (.seq (.seq (.region c22_r1) (.cond (fun e => e 22) (.seq (.region c22_r2) .ret) .skip)) (.seq (.region c22_r3) (.seq (.seq (.region c22_r4) (.block 0 (.loop c22_l0))) (.seq (.region c22_r9) .ret))))), [.t 6]⟩
def p22 : Pers := ⟨9, [22, 35, 50], 83⟩
-- 23: weighbridge/slot.New
def c23_r0 : Env → Reg := fun e =>
  .op (.mv (.pointer none)) fun t4 =>
  .done (e.upd 4 t4)
theorem c23_r0_run {CP : CProg} (e : Env) (h : Heap) (Q : Post) : RunR CP (c23_r0 e) h Q ↔ RunR CP (
  .op (.mv (.pointer none)) fun t4 =>
  .done (e.upd 4 t4)) h Q := Iff.rfl
def c23_r1 : Env → Reg := fun e =>
  .op (.mv (e 0)) fun t5 =>
  .op (.lenSl t5) fun t6 =>
  .op (.bin .eql t6 (.int .i64 0)) fun t7 =>
  .op (.mv t7) fun t8 =>
  .opg t8 false (.mv (e 1)) fun t9 =>
  .opg t8 false (.bin .lss t9 (.int .i64 1)) fun t10 =>
  .op (.pick t8 (.bool true) t10) fun t11 =>
  .done (e.upd 11 t11)
theorem c23_r1_run {CP : CProg} (e : Env) (h : Heap) (Q : Post) : RunR CP (c23_r1 e) h Q ↔ RunR CP (
  .op (.mv (e 0)) fun t5 =>
  .op (.lenSl t5) fun t6 =>
  .op (.bin .eql t6 (.int .i64 0)) fun t7 =>
  .op (.mv t7) fun t8 =>
  .opg t8 false (.mv (e 1)) fun t9 =>
  .opg t8 false (.bin .lss t9 (.int .i64 1)) fun t10 =>
  .op (.pick t8 (.bool true) t10) fun t11 =>
  .done (e.upd 11 t11)) h Q := Iff.rfl
def c23_r2 : Env → Reg := fun e =>
  .op (.mv (.pointer none)) fun t4 =>
  .done (e.upd 4 t4)
theorem c23_r2_run {CP : CProg} (e : Env) (h : Heap) (Q : Post) : RunR CP (c23_r2 e) h Q ↔ RunR CP (
  .op (.mv (.pointer none)) fun t4 =>
  .done (e.upd 4 t4)) h Q := Iff.rfl
def c23_r3 : Env → Reg := fun e =>
  .op (.mv (e 0)) fun t12 =>
  .op (.mv (e 1)) fun t13 =>
  .op (.mv (e 0)) fun t14 =>
  .op (.lenSl t14) fun t15 =>
  .op (.mv (e 1)) fun t16 =>
  .op (.bin .mul t15 t16) fun t17 =>
  .op (.makeSlice 2 1 8 [(.int .i64 0)] t17 t17) fun t18 =>
  .op (.build [(.slice none 0 0), (.int .i64 0), (.slice none 0 0)] [(0, 1, t12), (1, 1, t13), (2, 1, t18)]) fun t19 =>
  .op (.box 70 t19) fun t20 =>
  .op (.mv t20) fun t4 =>
  .done (e.upd 4 t4)
theorem c23_r3_run {CP : CProg} (e : Env) (h : Heap) (Q : Post) : RunR CP (c23_r3 e) h Q ↔ RunR CP (
  .op (.mv (e 0)) fun t12 =>
  .op (.mv (e 1)) fun t13 =>
  .op (.mv (e 0)) fun t14 =>
  .op (.lenSl t14) fun t15 =>
  .op (.mv (e 1)) fun t16 =>
  .op (.bin .mul t15 t16) fun t17 =>
  .op (.makeSlice 2 1 8 [(.int .i64 0)] t17 t17) fun t18 =>
  .op (.build [(.slice none 0 0), (.int .i64 0), (.slice none 0 0)] [(0, 1, t12), (1, 1, t13), (2, 1, t18)]) fun t19 =>
  .op (.box 70 t19) fun t20 =>
  .op (.mv t20) fun t4 =>
  .done (e.upd 4 t4)) h Q := Iff.rfl
def c23 : CFn := ⟨(.seq (.region c23_r0) (.seq (.seq (.region c23_r1) (.cond (fun e => e 11) (.seq (.region c23_r2) .ret) .skip)) (.seq (.region c23_r3) .ret))), [.t 4]⟩
def p23 : Pers := ⟨5, [11], 21⟩
-- 24: weighbridge/hash.whole
def c24_r0 : Env → Reg := fun e =>
  .op (.mv (.int .u64 0)) fun t4 =>
  .done (e.upd 4 t4)
theorem c24_r0_run {CP : CProg} (e : Env) (h : Heap) (Q : Post) : RunR CP (c24_r0 e) h Q ↔ RunR CP (
  .op (.mv (.int .u64 0)) fun t4 =>
  .done (e.upd 4 t4)) h Q := Iff.rfl
def c24_r1 : Env → Reg := fun e =>
  .op (.mv (e 0)) fun t5 =>
  .op (.mv (e 1)) fun t6 =>
  .op (.call 26 [t5, t6]) fun t7 =>
  .op (.bin .rem t7 (.int .u64 2305843009213693950)) fun t8 =>
  .op (.bin .add t8 (.int .u64 1)) fun t9 =>
  .op (.mv t9) fun t4 =>
  .done (e.upd 4 t4)
theorem c24_r1_run {CP : CProg} (e : Env) (h : Heap) (Q : Post) : RunR CP (c24_r1 e) h Q ↔ RunR CP (
  .op (.mv (e 0)) fun t5 =>
  .op (.mv (e 1)) fun t6 =>
  .op (.call 26 [t5, t6]) fun t7 =>
  .op (.bin .rem t7 (.int .u64 2305843009213693950)) fun t8 =>
  .op (.bin .add t8 (.int .u64 1)) fun t9 =>
  .op (.mv t9) fun t4 =>
  .done (e.upd 4 t4)) h Q := Iff.rfl
def c24 : CFn := ⟨(.seq (.region c24_r0) (.seq (.region c24_r1) .ret)), [.t 4]⟩
def p24 : Pers := ⟨5, [], 10⟩
-- 25: weighbridge/field.Of
def c25_r0 : Env → Reg := fun e =>
  .op (.mv (.int .u64 0)) fun t2 =>
  .done (e.upd 2 t2)
theorem c25_r0_run {CP : CProg} (e : Env) (h : Heap) (Q : Post) : RunR CP (c25_r0 e) h Q ↔ RunR CP (
  .op (.mv (.int .u64 0)) fun t2 =>
  .done (e.upd 2 t2)) h Q := Iff.rfl
def c25_r1 : Env → Reg := fun e =>
  .op (.mv (e 0)) fun t3 =>
  .op (.bin .shr t3 (.int .u64 61)) fun t4 =>
  .op (.mv (e 0)) fun t5 =>
  .op (.bin .and t5 (.int .u64 2305843009213693951)) fun t6 =>
  .op (.bin .add t4 t6) fun t7 =>
  .op (.mv t7) fun t0 =>
  .done (e.upd 0 t0)
theorem c25_r1_run {CP : CProg} (e : Env) (h : Heap) (Q : Post) : RunR CP (c25_r1 e) h Q ↔ RunR CP (
  .op (.mv (e 0)) fun t3 =>
  .op (.bin .shr t3 (.int .u64 61)) fun t4 =>
  .op (.mv (e 0)) fun t5 =>
  .op (.bin .and t5 (.int .u64 2305843009213693951)) fun t6 =>
  .op (.bin .add t4 t6) fun t7 =>
  .op (.mv t7) fun t0 =>
  .done (e.upd 0 t0)) h Q := Iff.rfl
def c25_r2 : Env → Reg := fun e =>
  .op (.mv (e 0)) fun t8 =>
  .op (.bin .geq t8 (.int .u64 2305843009213693951)) fun t9 =>
  .done (e.upd 9 t9)
theorem c25_r2_run {CP : CProg} (e : Env) (h : Heap) (Q : Post) : RunR CP (c25_r2 e) h Q ↔ RunR CP (
  .op (.mv (e 0)) fun t8 =>
  .op (.bin .geq t8 (.int .u64 2305843009213693951)) fun t9 =>
  .done (e.upd 9 t9)) h Q := Iff.rfl
def c25_r3 : Env → Reg := fun e =>
  .op (.mv (e 0)) fun t10 =>
  .op (.bin .sub t10 (.int .u64 2305843009213693951)) fun t11 =>
  .op (.mv t11) fun t0 =>
  .done (e.upd 0 t0)
theorem c25_r3_run {CP : CProg} (e : Env) (h : Heap) (Q : Post) : RunR CP (c25_r3 e) h Q ↔ RunR CP (
  .op (.mv (e 0)) fun t10 =>
  .op (.bin .sub t10 (.int .u64 2305843009213693951)) fun t11 =>
  .op (.mv t11) fun t0 =>
  .done (e.upd 0 t0)) h Q := Iff.rfl
def c25_r4 : Env → Reg := fun e =>
  .op (.mv (e 0)) fun t12 =>
  .op (.mv t12) fun t2 =>
  .done (e.upd 2 t2)
theorem c25_r4_run {CP : CProg} (e : Env) (h : Heap) (Q : Post) : RunR CP (c25_r4 e) h Q ↔ RunR CP (
  .op (.mv (e 0)) fun t12 =>
  .op (.mv t12) fun t2 =>
  .done (e.upd 2 t2)) h Q := Iff.rfl
def c25 : CFn := ⟨(.seq (.region c25_r0) (.seq (.region c25_r1) (.seq (.seq (.region c25_r2) (.cond (fun e => e 9) (.region c25_r3) .skip)) (.seq (.region c25_r4) .ret)))), [.t 2]⟩
def p25 : Pers := ⟨3, [9], 13⟩
-- 26: weighbridge/hash.draw
def c26_r0 : Env → Reg := fun e =>
  .op (.mv (.int .u64 0)) fun t4 =>
  .done (e.upd 4 t4)
theorem c26_r0_run {CP : CProg} (e : Env) (h : Heap) (Q : Post) : RunR CP (c26_r0 e) h Q ↔ RunR CP (
  .op (.mv (.int .u64 0)) fun t4 =>
  .done (e.upd 4 t4)) h Q := Iff.rfl
def c26_r1 : Env → Reg := fun e =>
  .op (.mv (e 1)) fun t5 =>
  .op (.mv (e 0)) fun t6 =>
  .op (.lenSl t6) fun t7 =>
  .op (.bin .geq t5 t7) fun t8 =>
  .done (e.upd 8 t8)
theorem c26_r1_run {CP : CProg} (e : Env) (h : Heap) (Q : Post) : RunR CP (c26_r1 e) h Q ↔ RunR CP (
  .op (.mv (e 1)) fun t5 =>
  .op (.mv (e 0)) fun t6 =>
  .op (.lenSl t6) fun t7 =>
  .op (.bin .geq t5 t7) fun t8 =>
  .done (e.upd 8 t8)) h Q := Iff.rfl
def c26_r2 : Env → Reg := fun e =>
  .op (.mv (.int .u64 0)) fun t4 =>
  .done (e.upd 4 t4)
theorem c26_r2_run {CP : CProg} (e : Env) (h : Heap) (Q : Post) : RunR CP (c26_r2 e) h Q ↔ RunR CP (
  .op (.mv (.int .u64 0)) fun t4 =>
  .done (e.upd 4 t4)) h Q := Iff.rfl
def c26_r3 : Env → Reg := fun e =>
  .op (.mv (e 0)) fun t9 =>
  .op (.mv (e 1)) fun t10 =>
  .op (.indexSl 1 t9 t10) fun t11 =>
  .op (.load none t11) fun t12 =>
  .op (.mv t12) fun t4 =>
  .done (e.upd 4 t4)
theorem c26_r3_run {CP : CProg} (e : Env) (h : Heap) (Q : Post) : RunR CP (c26_r3 e) h Q ↔ RunR CP (
  .op (.mv (e 0)) fun t9 =>
  .op (.mv (e 1)) fun t10 =>
  .op (.indexSl 1 t9 t10) fun t11 =>
  .op (.load none t11) fun t12 =>
  .op (.mv t12) fun t4 =>
  .done (e.upd 4 t4)) h Q := Iff.rfl
def c26 : CFn := ⟨(.seq (.region c26_r0) (.seq (.seq (.region c26_r1) (.cond (fun e => e 8) (.seq (.region c26_r2) .ret) .skip)) (.seq (.region c26_r3) .ret))), [.t 4]⟩
def p26 : Pers := ⟨5, [8], 13⟩
-- 27: weighbridge/slot.Bytes
def c27_r0 : Env → Reg := fun e =>
  .op (.mv (.int .i64 0)) fun t4 =>
  .done (e.upd 4 t4)
theorem c27_r0_run {CP : CProg} (e : Env) (h : Heap) (Q : Post) : RunR CP (c27_r0 e) h Q ↔ RunR CP (
  .op (.mv (.int .i64 0)) fun t4 =>
  .done (e.upd 4 t4)) h Q := Iff.rfl
def c27_r1 : Env → Reg := fun e =>
  .op (.mv (e 0)) fun t5 =>
  .op (.bin .mul (.int .i64 8) t5) fun t6 =>
  .op (.mv (e 1)) fun t7 =>
  .op (.bin .mul t6 t7) fun t8 =>
  .op (.mv t8) fun t4 =>
  .done (e.upd 4 t4)
theorem c27_r1_run {CP : CProg} (e : Env) (h : Heap) (Q : Post) : RunR CP (c27_r1 e) h Q ↔ RunR CP (
  .op (.mv (e 0)) fun t5 =>
  .op (.bin .mul (.int .i64 8) t5) fun t6 =>
  .op (.mv (e 1)) fun t7 =>
  .op (.bin .mul t6 t7) fun t8 =>
  .op (.mv t8) fun t4 =>
  .done (e.upd 4 t4)) h Q := Iff.rfl
def c27 : CFn := ⟨(.seq (.region c27_r0) (.seq (.region c27_r1) .ret)), [.t 4]⟩
def p27 : Pers := ⟨5, [], 9⟩
-- 28: (*weighbridge/slot.Slot).Clear
def c28_r0 : Env → Reg := fun e =>
  .op (.mv (e 0)) fun t2 =>
  .op (.eqK .ptr true t2 (.pointer none)) fun t3 =>
  .done (e.upd 3 t3)
theorem c28_r0_run {CP : CProg} (e : Env) (h : Heap) (Q : Post) : RunR CP (c28_r0 e) h Q ↔ RunR CP (
  .op (.mv (e 0)) fun t2 =>
  .op (.eqK .ptr true t2 (.pointer none)) fun t3 =>
  .done (e.upd 3 t3)) h Q := Iff.rfl
def c28_r1 : Env → Reg := fun e =>
  .op (.mv (e 0)) fun t4 =>
  .op (.nilCheck t4) fun t5 =>
  .op (.fieldAddr 2 t5) fun t6 =>
  .op (.load none t6) fun t7 =>
  .op (.clearSl [(.int .i64 0)] t7) fun _ =>
  .done e
theorem c28_r1_run {CP : CProg} (e : Env) (h : Heap) (Q : Post) : RunR CP (c28_r1 e) h Q ↔ RunR CP (
  .op (.mv (e 0)) fun t4 =>
  .op (.nilCheck t4) fun t5 =>
  .op (.fieldAddr 2 t5) fun t6 =>
  .op (.load none t6) fun t7 =>
  .op (.clearSl [(.int .i64 0)] t7) fun _ =>
  .done e) h Q := Iff.rfl
def c28 : CFn := ⟨(.seq (.region c28_r0) (.cond (fun e => e 3) (.region c28_r1) .skip)), []⟩
def p28 : Pers := ⟨2, [3], 8⟩
-- 29: (*weighbridge/slot.Slot).Add
def c29_r0 : Env → Reg := fun e =>
  .op (.mv (e 0)) fun t9 =>
  .op (.eqK .ptr false t9 (.pointer none)) fun t10 =>
  .op (.mv t10) fun t11 =>
  .opg t11 false (.mv (e 2)) fun t12 =>
  .opg t11 false (.bin .lss t12 (.int .i64 1)) fun t13 =>
  .op (.pick t11 (.bool true) t13) fun t14 =>
  .done (e.upd 14 t14)
theorem c29_r0_run {CP : CProg} (e : Env) (h : Heap) (Q : Post) : RunR CP (c29_r0 e) h Q ↔ RunR CP (
  .op (.mv (e 0)) fun t9 =>
  .op (.eqK .ptr false t9 (.pointer none)) fun t10 =>
  .op (.mv t10) fun t11 =>
  .opg t11 false (.mv (e 2)) fun t12 =>
  .opg t11 false (.bin .lss t12 (.int .i64 1)) fun t13 =>
  .op (.pick t11 (.bool true) t13) fun t14 =>
  .done (e.upd 14 t14)) h Q := Iff.rfl
def c29_r1 : Env → Reg := fun e =>
  .op (.mv (e 0)) fun t15 =>
  .op (.mv (e 1)) fun t16 =>
  .op (.call 35 [t15, t16]) fun t17 =>
  .op (.mv (e 2)) fun t18 =>
  .op (.call 31 [t17, t18]) fun t19 =>
  .op (.mv t19) fun t6 =>
  .done (e.upd 6 t6)
theorem c29_r1_run {CP : CProg} (e : Env) (h : Heap) (Q : Post) : RunR CP (c29_r1 e) h Q ↔ RunR CP (
  .op (.mv (e 0)) fun t15 =>
  .op (.mv (e 1)) fun t16 =>
  .op (.call 35 [t15, t16]) fun t17 =>
  .op (.mv (e 2)) fun t18 =>
  .op (.call 31 [t17, t18]) fun t19 =>
  .op (.mv t19) fun t6 =>
  .done (e.upd 6 t6)) h Q := Iff.rfl
def c29_r2 : Env → Reg := fun e =>
  .op (.mv (e 0)) fun t20 =>
  .op (.nilCheck t20) fun t21 =>
  .op (.fieldAddr 0 t21) fun t22 =>
  .op (.load none t22) fun t23 =>
  .op (.lenSl t23) fun t24 =>
  .op (.mv (.int .i64 0)) fun t25 =>
  .done ((e.upd 24 t24).upd 25 t25)
theorem c29_r2_run {CP : CProg} (e : Env) (h : Heap) (Q : Post) : RunR CP (c29_r2 e) h Q ↔ RunR CP (
  .op (.mv (e 0)) fun t20 =>
  .op (.nilCheck t20) fun t21 =>
  .op (.fieldAddr 0 t21) fun t22 =>
  .op (.load none t22) fun t23 =>
  .op (.lenSl t23) fun t24 =>
  .op (.mv (.int .i64 0)) fun t25 =>
  .done ((e.upd 24 t24).upd 25 t25)) h Q := Iff.rfl
def c29_r3 : Env → Reg := fun e =>
  .op (.bin .lss (e 25) (e 24)) fun t26 =>
  .done (e.upd 26 t26)
theorem c29_r3_run {CP : CProg} (e : Env) (h : Heap) (Q : Post) : RunR CP (c29_r3 e) h Q ↔ RunR CP (
  .op (.bin .lss (e 25) (e 24)) fun t26 =>
  .done (e.upd 26 t26)) h Q := Iff.rfl
def c29_r4 : Env → Reg := fun e =>
  .op (.mv (e 25)) fun t27 =>
  .op (.mv t27) fun t7 =>
  .done (e.upd 7 t7)
theorem c29_r4_run {CP : CProg} (e : Env) (h : Heap) (Q : Post) : RunR CP (c29_r4 e) h Q ↔ RunR CP (
  .op (.mv (e 25)) fun t27 =>
  .op (.mv t27) fun t7 =>
  .done (e.upd 7 t7)) h Q := Iff.rfl
def c29_r5 : Env → Reg := fun e =>
  .op (.mv (e 0)) fun t28 =>
  .op (.mv (e 7)) fun t29 =>
  .op (.mv (e 1)) fun t30 =>
  .op (.call 36 [t28, t29, t30]) fun t31 =>
  .op (.mv t31) fun t8 =>
  .done (e.upd 8 t8)
theorem c29_r5_run {CP : CProg} (e : Env) (h : Heap) (Q : Post) : RunR CP (c29_r5 e) h Q ↔ RunR CP (
  .op (.mv (e 0)) fun t28 =>
  .op (.mv (e 7)) fun t29 =>
  .op (.mv (e 1)) fun t30 =>
  .op (.call 36 [t28, t29, t30]) fun t31 =>
  .op (.mv t31) fun t8 =>
  .done (e.upd 8 t8)) h Q := Iff.rfl
def c29_r6 : Env → Reg := fun e =>
  .op (.mv (e 8)) fun t32 =>
  .op (.mv (e 8)) fun t33 =>
  .op (.nilCheck t33) fun t34 =>
  .op (.load none t34) fun t35 =>
  .op (.mv (e 6)) fun t36 =>
  .op (.minmax true [t35, t36]) fun t37 =>
  .op (.nilCheck t32) fun t38 =>
  .op (.store 1 t38 t37) fun _ =>
  .done e
theorem c29_r6_run {CP : CProg} (e : Env) (h : Heap) (Q : Post) : RunR CP (c29_r6 e) h Q ↔ RunR CP (
  .op (.mv (e 8)) fun t32 =>
  .op (.mv (e 8)) fun t33 =>
  .op (.nilCheck t33) fun t34 =>
  .op (.load none t34) fun t35 =>
  .op (.mv (e 6)) fun t36 =>
  .op (.minmax true [t35, t36]) fun t37 =>
  .op (.nilCheck t32) fun t38 =>
  .op (.store 1 t38 t37) fun _ =>
  .done e) h Q := Iff.rfl
def c29_r7 : Env → Reg := fun e =>
  .op (.bin .add (e 25) (.int .i64 1)) fun t39 =>
  .op (.mv t39) fun t25 =>
  .done (e.upd 25 t25)
theorem c29_r7_run {CP : CProg} (e : Env) (h : Heap) (Q : Post) : RunR CP (c29_r7 e) h Q ↔ RunR CP (
  .op (.bin .add (e 25) (.int .i64 1)) fun t39 =>
  .op (.mv t39) fun t25 =>
  .done (e.upd 25 t25)) h Q := Iff.rfl
def c29_l0 : CC := (.seq (.region c29_r3) (.seq (.cond (fun e => e 26) .skip (.exit 0)) (.seq (.block 1 (.seq (.region c29_r4) (.seq (.region c29_r5) (.region c29_r6)))) (.region c29_r7))))
def c29 : CFn := ⟨(.seq (.seq (.region c29_r0) (.cond (fun e => e 14) .ret .skip)) (.seq (.region c29_r1) (.seq (.region c29_r2) (.block 0 (.loop c29_l0))))), []⟩
def p29 : Pers := ⟨9, [14, 24, 25, 26], 40⟩
-- 30: (*weighbridge/ring.Ring).from
def c30_r0 : Env → Reg := fun e =>
  .op (.mv (.int .i64 0)) fun t8 =>
  .done (e.upd 8 t8)
theorem c30_r0_run {CP : CProg} (e : Env) (h : Heap) (Q : Post) : RunR CP (c30_r0 e) h Q ↔ RunR CP (
  .op (.mv (.int .i64 0)) fun t8 =>
  .done (e.upd 8 t8)) h Q := Iff.rfl
def c30_r1 : Env → Reg := fun e =>
  .op (.mv (.int .i64 0)) fun t9 =>
  .done (e.upd 9 t9)
theorem c30_r1_run {CP : CProg} (e : Env) (h : Heap) (Q : Post) : RunR CP (c30_r1 e) h Q ↔ RunR CP (
  .op (.mv (.int .i64 0)) fun t9 =>
  .done (e.upd 9 t9)) h Q := Iff.rfl
def c30_r2 : Env → Reg := fun e =>
  .op (.mv (e 2)) fun t12 =>
  .op (.mv (e 0)) fun t13 =>
  .op (.nilCheck t13) fun t14 =>
  .op (.fieldAddr 0 t14) fun t15 =>
  .op (.load none t15) fun t16 =>
  .op (.lenSl t16) fun t17 =>
  .op (.bin .sub t12 t17) fun t18 =>
  .op (.bin .add t18 (.int .i64 1)) fun t19 =>
  .op (.mv t19) fun t10 =>
  .done (e.upd 10 t10)
theorem c30_r2_run {CP : CProg} (e : Env) (h : Heap) (Q : Post) : RunR CP (c30_r2 e) h Q ↔ RunR CP (
  .op (.mv (e 2)) fun t12 =>
  .op (.mv (e 0)) fun t13 =>
  .op (.nilCheck t13) fun t14 =>
  .op (.fieldAddr 0 t14) fun t15 =>
  .op (.load none t15) fun t16 =>
  .op (.lenSl t16) fun t17 =>
  .op (.bin .sub t12 t17) fun t18 =>
  .op (.bin .add t18 (.int .i64 1)) fun t19 =>
  .op (.mv t19) fun t10 =>
  .done (e.upd 10 t10)) h Q := Iff.rfl
def c30_r3 : Env → Reg := fun e =>
  .op (.mv (e 10)) fun t20 =>
  .op (.mv (e 2)) fun t21 =>
  .op (.bin .leq t20 t21) fun t22 =>
  .done (e.upd 22 t22)
theorem c30_r3_run {CP : CProg} (e : Env) (h : Heap) (Q : Post) : RunR CP (c30_r3 e) h Q ↔ RunR CP (
  .op (.mv (e 10)) fun t20 =>
  .op (.mv (e 2)) fun t21 =>
  .op (.bin .leq t20 t21) fun t22 =>
  .done (e.upd 22 t22)) h Q := Iff.rfl
def c30_r5 : Env → Reg := fun e =>
  .op (.mv (e 0)) fun t25 =>
  .op (.mv (e 10)) fun t26 =>
  .op (.call 32 [t25, t26]) fun t27 =>
  .op (.mv (e 1)) fun t28 =>
  .op (.call 35 [t27, t28]) fun t29 =>
  .op (.mv t29) fun t11 =>
  .done (e.upd 11 t11)
theorem c30_r5_run {CP : CProg} (e : Env) (h : Heap) (Q : Post) : RunR CP (c30_r5 e) h Q ↔ RunR CP (
  .op (.mv (e 0)) fun t25 =>
  .op (.mv (e 10)) fun t26 =>
  .op (.call 32 [t25, t26]) fun t27 =>
  .op (.mv (e 1)) fun t28 =>
  .op (.call 35 [t27, t28]) fun t29 =>
  .op (.mv t29) fun t11 =>
  .done (e.upd 11 t11)) h Q := Iff.rfl
def c30_r6 : Env → Reg := fun e =>
  .op (.mv (e 10)) fun t30 =>
  .op (.mv (e 2)) fun t31 =>
  .op (.mv (e 0)) fun t32 =>
  .op (.nilCheck t32) fun t33 =>
  .op (.fieldAddr 0 t33) fun t34 =>
  .op (.load none t34) fun t35 =>
  .op (.lenSl t35) fun t36 =>
  .op (.bin .sub t31 t36) fun t37 =>
  .op (.bin .add t37 (.int .i64 1)) fun t38 =>
  .op (.bin .eql t30 t38) fun t39 =>
  .done (e.upd 39 t39)
theorem c30_r6_run {CP : CProg} (e : Env) (h : Heap) (Q : Post) : RunR CP (c30_r6 e) h Q ↔ RunR CP (
  .op (.mv (e 10)) fun t30 =>
  .op (.mv (e 2)) fun t31 =>
  .op (.mv (e 0)) fun t32 =>
  .op (.nilCheck t32) fun t33 =>
  .op (.fieldAddr 0 t33) fun t34 =>
  .op (.load none t34) fun t35 =>
  .op (.lenSl t35) fun t36 =>
  .op (.bin .sub t31 t36) fun t37 =>
  .op (.bin .add t37 (.int .i64 1)) fun t38 =>
  .op (.bin .eql t30 t38) fun t39 =>
  .done (e.upd 39 t39)) h Q := Iff.rfl
def c30_r7 : Env → Reg := fun e =>
  .op (.mv (e 0)) fun t40 =>
  .op (.mv (e 11)) fun t41 =>
  .op (.mv (e 3)) fun t42 =>
  .op (.call 37 [t40, t41, t42]) fun t43 =>
  .op (.mv t43) fun t11 =>
  .done (e.upd 11 t11)
theorem c30_r7_run {CP : CProg} (e : Env) (h : Heap) (Q : Post) : RunR CP (c30_r7 e) h Q ↔ RunR CP (
  .op (.mv (e 0)) fun t40 =>
  .op (.mv (e 11)) fun t41 =>
  .op (.mv (e 3)) fun t42 =>
  .op (.call 37 [t40, t41, t42]) fun t43 =>
  .op (.mv t43) fun t11 =>
  .done (e.upd 11 t11)) h Q := Iff.rfl
def c30_r8 : Env → Reg := fun e =>
  .op (.mv (e 9)) fun t44 =>
  .op (.mv (e 11)) fun t45 =>
  .op (.call 31 [t44, t45]) fun t46 =>
  .op (.mv t46) fun t9 =>
  .done (e.upd 9 t9)
theorem c30_r8_run {CP : CProg} (e : Env) (h : Heap) (Q : Post) : RunR CP (c30_r8 e) h Q ↔ RunR CP (
  .op (.mv (e 9)) fun t44 =>
  .op (.mv (e 11)) fun t45 =>
  .op (.call 31 [t44, t45]) fun t46 =>
  .op (.mv t46) fun t9 =>
  .done (e.upd 9 t9)) h Q := Iff.rfl
def c30_r4 : Env → Reg := fun e =>
  .op (.mv (e 10)) fun t23 =>
  .op (.bin .add t23 (.int .i64 1)) fun t24 =>
  .op (.mv t24) fun t10 =>
  .done (e.upd 10 t10)
theorem c30_r4_run {CP : CProg} (e : Env) (h : Heap) (Q : Post) : RunR CP (c30_r4 e) h Q ↔ RunR CP (
  .op (.mv (e 10)) fun t23 =>
  .op (.bin .add t23 (.int .i64 1)) fun t24 =>
  .op (.mv t24) fun t10 =>
  .done (e.upd 10 t10)) h Q := Iff.rfl
def c30_l0 : CC := (.seq (.seq (.region c30_r3) (.cond (fun e => e 22) .skip (.exit 0))) (.seq (.block 1 (.seq (.region c30_r5) (.seq (.seq (.region c30_r6) (.cond (fun e => e 39) (.region c30_r7) .skip)) (.region c30_r8)))) (.region c30_r4)))
def c30_r9 : Env → Reg := fun e =>
  .op (.mv (e 9)) fun t47 =>
  .op (.mv t47) fun t8 =>
  .done (e.upd 8 t8)
theorem c30_r9_run {CP : CProg} (e : Env) (h : Heap) (Q : Post) : RunR CP (c30_r9 e) h Q ↔ RunR CP (
  .op (.mv (e 9)) fun t47 =>
  .op (.mv t47) fun t8 =>
  .done (e.upd 8 t8)) h Q := Iff.rfl
def c30 : CFn := ⟨(.seq (.region c30_r0) (.seq (.region c30_r1) (.seq (.seq (.region c30_r2) (.block 0 (.loop c30_l0))) (.seq (.region c30_r9) .ret)))), [.t 8]⟩
def p30 : Pers := ⟨12, [22, 39], 48⟩
-- 31: weighbridge/arith.Sum
def c31_r0 : Env → Reg := fun e =>
  .op (.mv (.int .i64 0)) fun t4 =>
  .done (e.upd 4 t4)
theorem c31_r0_run {CP : CProg} (e : Env) (h : Heap) (Q : Post) : RunR CP (c31_r0 e) h Q ↔ RunR CP (
  .op (.mv (.int .i64 0)) fun t4 =>
  .done (e.upd 4 t4)) h Q := Iff.rfl
def c31_r1 : Env → Reg := fun e =>
  .op (.mv (e 0)) fun t8 =>
  .op (.mv (e 1)) fun t9 =>
  .op (.call 38 [t8, t9]) fun t10 =>
  .op (.mv t10) fun t7 =>
  .op (.extract t7 0) fun t11 =>
  .op (.extract t7 1) fun t12 =>
  .op (.mv t11) fun t5 =>
  .op (.mv t12) fun t6 =>
  .done ((e.upd 5 t5).upd 6 t6)
theorem c31_r1_run {CP : CProg} (e : Env) (h : Heap) (Q : Post) : RunR CP (c31_r1 e) h Q ↔ RunR CP (
  .op (.mv (e 0)) fun t8 =>
  .op (.mv (e 1)) fun t9 =>
  .op (.call 38 [t8, t9]) fun t10 =>
  .op (.mv t10) fun t7 =>
  .op (.extract t7 0) fun t11 =>
  .op (.extract t7 1) fun t12 =>
  .op (.mv t11) fun t5 =>
  .op (.mv t12) fun t6 =>
  .done ((e.upd 5 t5).upd 6 t6)) h Q := Iff.rfl
def c31_r2 : Env → Reg := fun e =>
  .op (.mv (e 6)) fun t13 =>
  .op (.un .not t13) fun t14 =>
  .done (e.upd 14 t14)
theorem c31_r2_run {CP : CProg} (e : Env) (h : Heap) (Q : Post) : RunR CP (c31_r2 e) h Q ↔ RunR CP (
  .op (.mv (e 6)) fun t13 =>
  .op (.un .not t13) fun t14 =>
  .done (e.upd 14 t14)) h Q := Iff.rfl
def c31_r3 : Env → Reg := fun e =>
  .op (.mv (e 0)) fun t15 =>
  .op (.bin .lss t15 (.int .i64 0)) fun t16 =>
  .op (.call 39 [t16]) fun t17 =>
  .op (.mv t17) fun t4 =>
  .done (e.upd 4 t4)
theorem c31_r3_run {CP : CProg} (e : Env) (h : Heap) (Q : Post) : RunR CP (c31_r3 e) h Q ↔ RunR CP (
  .op (.mv (e 0)) fun t15 =>
  .op (.bin .lss t15 (.int .i64 0)) fun t16 =>
  .op (.call 39 [t16]) fun t17 =>
  .op (.mv t17) fun t4 =>
  .done (e.upd 4 t4)) h Q := Iff.rfl
def c31_r4 : Env → Reg := fun e =>
  .op (.mv (e 5)) fun t18 =>
  .op (.mv t18) fun t4 =>
  .done (e.upd 4 t4)
theorem c31_r4_run {CP : CProg} (e : Env) (h : Heap) (Q : Post) : RunR CP (c31_r4 e) h Q ↔ RunR CP (
  .op (.mv (e 5)) fun t18 =>
  .op (.mv t18) fun t4 =>
  .done (e.upd 4 t4)) h Q := Iff.rfl
def c31 : CFn := ⟨(.seq (.region c31_r0) (.seq (.region c31_r1) (.seq (.seq (.region c31_r2) (.cond (fun e => e 14) (.seq (.region c31_r3) .ret) .skip)) (.seq (.region c31_r4) .ret)))), [.t 4]⟩
def p31 : Pers := ⟨7, [14], 19⟩
-- 32: (*weighbridge/ring.Ring).of
def c32_r0 : Env → Reg := fun e =>
  .op (.mv (.pointer none)) fun t4 =>
  .done (e.upd 4 t4)
theorem c32_r0_run {CP : CProg} (e : Env) (h : Heap) (Q : Post) : RunR CP (c32_r0 e) h Q ↔ RunR CP (
  .op (.mv (.pointer none)) fun t4 =>
  .done (e.upd 4 t4)) h Q := Iff.rfl
def c32_r1 : Env → Reg := fun e =>
  .op (.mv (e 1)) fun t6 =>
  .op (.bin .lss t6 (.int .i64 0)) fun t7 =>
  .done (e.upd 7 t7)
theorem c32_r1_run {CP : CProg} (e : Env) (h : Heap) (Q : Post) : RunR CP (c32_r1 e) h Q ↔ RunR CP (
  .op (.mv (e 1)) fun t6 =>
  .op (.bin .lss t6 (.int .i64 0)) fun t7 =>
  .done (e.upd 7 t7)) h Q := Iff.rfl
def c32_r2 : Env → Reg := fun e =>
  .op (.mv (.pointer none)) fun t4 =>
  .done (e.upd 4 t4)
theorem c32_r2_run {CP : CProg} (e : Env) (h : Heap) (Q : Post) : RunR CP (c32_r2 e) h Q ↔ RunR CP (
  .op (.mv (.pointer none)) fun t4 =>
  .done (e.upd 4 t4)) h Q := Iff.rfl
def c32_r3 : Env → Reg := fun e =>
  .op (.mv (e 1)) fun t8 =>
  .op (.mv (e 0)) fun t9 =>
  .op (.nilCheck t9) fun t10 =>
  .op (.fieldAddr 0 t10) fun t11 =>
  .op (.load none t11) fun t12 =>
  .op (.lenSl t12) fun t13 =>
  .op (.bin .rem t8 t13) fun t14 =>
  .op (.mv t14) fun t5 =>
  .done (e.upd 5 t5)
theorem c32_r3_run {CP : CProg} (e : Env) (h : Heap) (Q : Post) : RunR CP (c32_r3 e) h Q ↔ RunR CP (
  .op (.mv (e 1)) fun t8 =>
  .op (.mv (e 0)) fun t9 =>
  .op (.nilCheck t9) fun t10 =>
  .op (.fieldAddr 0 t10) fun t11 =>
  .op (.load none t11) fun t12 =>
  .op (.lenSl t12) fun t13 =>
  .op (.bin .rem t8 t13) fun t14 =>
  .op (.mv t14) fun t5 =>
  .done (e.upd 5 t5)) h Q := Iff.rfl
def c32_r4 : Env → Reg := fun e =>
  .op (.mv (e 0)) fun t15 =>
  .op (.nilCheck t15) fun t16 =>
  .op (.fieldAddr 1 t16) fun t17 =>
  .op (.load none t17) fun t18 =>
  .op (.mv (e 5)) fun t19 =>
  .op (.indexSl 1 t18 t19) fun t20 =>
  .op (.load none t20) fun t21 =>
  .op (.mv (e 1)) fun t22 =>
  .op (.bin .add t22 (.int .i64 1)) fun t23 =>
  .op (.bin .neq t21 t23) fun t24 =>
  .done (e.upd 24 t24)
theorem c32_r4_run {CP : CProg} (e : Env) (h : Heap) (Q : Post) : RunR CP (c32_r4 e) h Q ↔ RunR CP (
  .op (.mv (e 0)) fun t15 =>
  .op (.nilCheck t15) fun t16 =>
  .op (.fieldAddr 1 t16) fun t17 =>
  .op (.load none t17) fun t18 =>
  .op (.mv (e 5)) fun t19 =>
  .op (.indexSl 1 t18 t19) fun t20 =>
  .op (.load none t20) fun t21 =>
  .op (.mv (e 1)) fun t22 =>
  .op (.bin .add t22 (.int .i64 1)) fun t23 =>
  .op (.bin .neq t21 t23) fun t24 =>
  .done (e.upd 24 t24)) h Q := Iff.rfl
def c32_r5 : Env → Reg := fun e =>
  .op (.mv (.pointer none)) fun t4 =>
  .done (e.upd 4 t4)
theorem c32_r5_run {CP : CProg} (e : Env) (h : Heap) (Q : Post) : RunR CP (c32_r5 e) h Q ↔ RunR CP (
  .op (.mv (.pointer none)) fun t4 =>
  .done (e.upd 4 t4)) h Q := Iff.rfl
def c32_r6 : Env → Reg := fun e =>
  .op (.mv (e 0)) fun t25 =>
  .op (.nilCheck t25) fun t26 =>
  .op (.fieldAddr 0 t26) fun t27 =>
  .op (.load none t27) fun t28 =>
  .op (.mv (e 5)) fun t29 =>
  .op (.indexSl 1 t28 t29) fun t30 =>
  .op (.load none t30) fun t31 =>
  .op (.mv t31) fun t4 =>
  .done (e.upd 4 t4)
theorem c32_r6_run {CP : CProg} (e : Env) (h : Heap) (Q : Post) : RunR CP (c32_r6 e) h Q ↔ RunR CP (
  .op (.mv (e 0)) fun t25 =>
  .op (.nilCheck t25) fun t26 =>
  .op (.fieldAddr 0 t26) fun t27 =>
  .op (.load none t27) fun t28 =>
  .op (.mv (e 5)) fun t29 =>
  .op (.indexSl 1 t28 t29) fun t30 =>
  .op (.load none t30) fun t31 =>
  .op (.mv t31) fun t4 =>
  .done (e.upd 4 t4)) h Q := Iff.rfl
def c32 : CFn := ⟨(.seq (.region c32_r0) (.seq (.seq (.region c32_r1) (.cond (fun e => e 7) (.seq (.region c32_r2) .ret) .skip)) (.seq (.region c32_r3) (.seq (.seq (.region c32_r4) (.cond (fun e => e 24) (.seq (.region c32_r5) .ret) .skip)) (.seq (.region c32_r6) .ret))))), [.t 4]⟩
def p32 : Pers := ⟨6, [7, 24], 32⟩
-- 33: (*weighbridge/slot.Slot).Count
def c33_r0 : Env → Reg := fun e =>
  .op (.mv (.int .i64 0)) fun t6 =>
  .done (e.upd 6 t6)
theorem c33_r0_run {CP : CProg} (e : Env) (h : Heap) (Q : Post) : RunR CP (c33_r0 e) h Q ↔ RunR CP (
  .op (.mv (.int .i64 0)) fun t6 =>
  .done (e.upd 6 t6)) h Q := Iff.rfl
def c33_r1_c1 (e : Env) (t13 : Value) (t14 : Value) : Reg :=
  .opg t13 false (.mv (e 0)) fun t15 =>
  .opg t13 false (.nilCheck t15) fun t16 =>
  .opg t13 false (.fieldAddr 0 t16) fun t17 =>
  .opg t13 false (.load none t17) fun t18 =>
  .opg t13 false (.lenSl t18) fun t19 =>
  .opg t13 false (.bin .geq t14 t19) fun t20 =>
  .op (.pick t13 (.bool true) t20) fun t21 =>
  .done (e.upd 21 t21)
theorem c33_r1_c1_run {CP : CProg} (e : Env) (t13 : Value) (t14 : Value) (h : Heap) (Q : Post) : RunR CP (c33_r1_c1 e t13 t14) h Q ↔ RunR CP (
  .opg t13 false (.mv (e 0)) fun t15 =>
  .opg t13 false (.nilCheck t15) fun t16 =>
  .opg t13 false (.fieldAddr 0 t16) fun t17 =>
  .opg t13 false (.load none t17) fun t18 =>
  .opg t13 false (.lenSl t18) fun t19 =>
  .opg t13 false (.bin .geq t14 t19) fun t20 =>
  .op (.pick t13 (.bool true) t20) fun t21 =>
  .done (e.upd 21 t21)) h Q := Iff.rfl
def c33_r1 : Env → Reg := fun e =>
  .op (.mv (e 0)) fun t7 =>
  .op (.eqK .ptr false t7 (.pointer none)) fun t8 =>
  .op (.mv t8) fun t9 =>
  .opg t9 false (.mv (e 1)) fun t10 =>
  .opg t9 false (.bin .lss t10 (.int .i64 0)) fun t11 =>
  .op (.pick t9 (.bool true) t11) fun t12 =>
  .op (.mv t12) fun t13 =>
  .opg t13 false (.mv (e 1)) fun t14 =>
  c33_r1_c1 e t13 t14
theorem c33_r1_run {CP : CProg} (e : Env) (h : Heap) (Q : Post) : RunR CP (c33_r1 e) h Q ↔ RunR CP (
  .op (.mv (e 0)) fun t7 =>
  .op (.eqK .ptr false t7 (.pointer none)) fun t8 =>
  .op (.mv t8) fun t9 =>
  .opg t9 false (.mv (e 1)) fun t10 =>
  .opg t9 false (.bin .lss t10 (.int .i64 0)) fun t11 =>
  .op (.pick t9 (.bool true) t11) fun t12 =>
  .op (.mv t12) fun t13 =>
  .opg t13 false (.mv (e 1)) fun t14 =>
  c33_r1_c1 e t13 t14) h Q := Iff.rfl
def c33_r2 : Env → Reg := fun e =>
  .op (.mv (.int .i64 0)) fun t6 =>
  .done (e.upd 6 t6)
theorem c33_r2_run {CP : CProg} (e : Env) (h : Heap) (Q : Post) : RunR CP (c33_r2 e) h Q ↔ RunR CP (
  .op (.mv (.int .i64 0)) fun t6 =>
  .done (e.upd 6 t6)) h Q := Iff.rfl
def c33_r3 : Env → Reg := fun e =>
  .op (.mv (e 0)) fun t22 =>
  .op (.mv (e 1)) fun t23 =>
  .op (.mv (e 2)) fun t24 =>
  .op (.call 36 [t22, t23, t24]) fun t25 =>
  .op (.nilCheck t25) fun t26 =>
  .op (.load none t26) fun t27 =>
  .op (.mv t27) fun t6 =>
  .done (e.upd 6 t6)
theorem c33_r3_run {CP : CProg} (e : Env) (h : Heap) (Q : Post) : RunR CP (c33_r3 e) h Q ↔ RunR CP (
  .op (.mv (e 0)) fun t22 =>
  .op (.mv (e 1)) fun t23 =>
  .op (.mv (e 2)) fun t24 =>
  .op (.call 36 [t22, t23, t24]) fun t25 =>
  .op (.nilCheck t25) fun t26 =>
  .op (.load none t26) fun t27 =>
  .op (.mv t27) fun t6 =>
  .done (e.upd 6 t6)) h Q := Iff.rfl
def c33 : CFn := ⟨(.seq (.region c33_r0) (.seq (.seq (.region c33_r1) (.cond (fun e => e 21) (.seq (.region c33_r2) .ret) .skip)) (.seq (.region c33_r3) .ret))), [.t 6]⟩
def p33 : Pers := ⟨7, [21], 28⟩
-- 34: weighbridge/arith.Product
def c34_r0 : Env → Reg := fun e =>
  .op (.mv (.int .i64 0)) fun t4 =>
  .done (e.upd 4 t4)
theorem c34_r0_run {CP : CProg} (e : Env) (h : Heap) (Q : Post) : RunR CP (c34_r0 e) h Q ↔ RunR CP (
  .op (.mv (.int .i64 0)) fun t4 =>
  .done (e.upd 4 t4)) h Q := Iff.rfl
def c34_r1 : Env → Reg := fun e =>
  .op (.mv (e 0)) fun t8 =>
  .op (.mv (e 1)) fun t9 =>
  .op (.call 40 [t8, t9]) fun t10 =>
  .op (.mv t10) fun t7 =>
  .op (.extract t7 0) fun t11 =>
  .op (.extract t7 1) fun t12 =>
  .op (.mv t11) fun t5 =>
  .op (.mv t12) fun t6 =>
  .done ((e.upd 5 t5).upd 6 t6)
theorem c34_r1_run {CP : CProg} (e : Env) (h : Heap) (Q : Post) : RunR CP (c34_r1 e) h Q ↔ RunR CP (
  .op (.mv (e 0)) fun t8 =>
  .op (.mv (e 1)) fun t9 =>
  .op (.call 40 [t8, t9]) fun t10 =>
  .op (.mv t10) fun t7 =>
  .op (.extract t7 0) fun t11 =>
  .op (.extract t7 1) fun t12 =>
  .op (.mv t11) fun t5 =>
  .op (.mv t12) fun t6 =>
  .done ((e.upd 5 t5).upd 6 t6)) h Q := Iff.rfl
def c34_r2 : Env → Reg := fun e =>
  .op (.mv (e 6)) fun t13 =>
  .op (.un .not t13) fun t14 =>
  .done (e.upd 14 t14)
theorem c34_r2_run {CP : CProg} (e : Env) (h : Heap) (Q : Post) : RunR CP (c34_r2 e) h Q ↔ RunR CP (
  .op (.mv (e 6)) fun t13 =>
  .op (.un .not t13) fun t14 =>
  .done (e.upd 14 t14)) h Q := Iff.rfl
def c34_r3 : Env → Reg := fun e =>
  .op (.mv (e 0)) fun t15 =>
  .op (.bin .lss t15 (.int .i64 0)) fun t16 =>
  .op (.mv (e 1)) fun t17 =>
  .op (.bin .lss t17 (.int .i64 0)) fun t18 =>
  .op (.eqK .bool true t16 t18) fun t19 =>
  .op (.call 39 [t19]) fun t20 =>
  .op (.mv t20) fun t4 =>
  .done (e.upd 4 t4)
theorem c34_r3_run {CP : CProg} (e : Env) (h : Heap) (Q : Post) : RunR CP (c34_r3 e) h Q ↔ RunR CP (
  .op (.mv (e 0)) fun t15 =>
  .op (.bin .lss t15 (.int .i64 0)) fun t16 =>
  .op (.mv (e 1)) fun t17 =>
  .op (.bin .lss t17 (.int .i64 0)) fun t18 =>
  .op (.eqK .bool true t16 t18) fun t19 =>
  .op (.call 39 [t19]) fun t20 =>
  .op (.mv t20) fun t4 =>
  .done (e.upd 4 t4)) h Q := Iff.rfl
def c34_r4 : Env → Reg := fun e =>
  .op (.mv (e 5)) fun t21 =>
  .op (.mv t21) fun t4 =>
  .done (e.upd 4 t4)
theorem c34_r4_run {CP : CProg} (e : Env) (h : Heap) (Q : Post) : RunR CP (c34_r4 e) h Q ↔ RunR CP (
  .op (.mv (e 5)) fun t21 =>
  .op (.mv t21) fun t4 =>
  .done (e.upd 4 t4)) h Q := Iff.rfl
def c34 : CFn := ⟨(.seq (.region c34_r0) (.seq (.region c34_r1) (.seq (.seq (.region c34_r2) (.cond (fun e => e 14) (.seq (.region c34_r3) .ret) .skip)) (.seq (.region c34_r4) .ret)))), [.t 4]⟩
def p34 : Pers := ⟨7, [14], 22⟩
-- 35: (*weighbridge/slot.Slot).Least
def c35_r0 : Env → Reg := fun e =>
  .op (.mv (.int .i64 0)) fun t4 =>
  .done (e.upd 4 t4)
theorem c35_r0_run {CP : CProg} (e : Env) (h : Heap) (Q : Post) : RunR CP (c35_r0 e) h Q ↔ RunR CP (
  .op (.mv (.int .i64 0)) fun t4 =>
  .done (e.upd 4 t4)) h Q := Iff.rfl
def c35_r1 : Env → Reg := fun e =>
  .op (.mv (e 0)) fun t7 =>
  .op (.eqK .ptr false t7 (.pointer none)) fun t8 =>
  .done (e.upd 8 t8)
theorem c35_r1_run {CP : CProg} (e : Env) (h : Heap) (Q : Post) : RunR CP (c35_r1 e) h Q ↔ RunR CP (
  .op (.mv (e 0)) fun t7 =>
  .op (.eqK .ptr false t7 (.pointer none)) fun t8 =>
  .done (e.upd 8 t8)) h Q := Iff.rfl
def c35_r2 : Env → Reg := fun e =>
  .op (.mv (.int .i64 0)) fun t4 =>
  .done (e.upd 4 t4)
theorem c35_r2_run {CP : CProg} (e : Env) (h : Heap) (Q : Post) : RunR CP (c35_r2 e) h Q ↔ RunR CP (
  .op (.mv (.int .i64 0)) fun t4 =>
  .done (e.upd 4 t4)) h Q := Iff.rfl
def c35_r3 : Env → Reg := fun e =>
  .op (.mv (e 0)) fun t9 =>
  .op (.mv (e 1)) fun t10 =>
  .op (.call 36 [t9, (.int .i64 0), t10]) fun t11 =>
  .op (.nilCheck t11) fun t12 =>
  .op (.load none t12) fun t13 =>
  .op (.mv t13) fun t5 =>
  .done (e.upd 5 t5)
theorem c35_r3_run {CP : CProg} (e : Env) (h : Heap) (Q : Post) : RunR CP (c35_r3 e) h Q ↔ RunR CP (
  .op (.mv (e 0)) fun t9 =>
  .op (.mv (e 1)) fun t10 =>
  .op (.call 36 [t9, (.int .i64 0), t10]) fun t11 =>
  .op (.nilCheck t11) fun t12 =>
  .op (.load none t12) fun t13 =>
  .op (.mv t13) fun t5 =>
  .done (e.upd 5 t5)) h Q := Iff.rfl
def c35_r4 : Env → Reg := fun e =>
  .op (.mv (.int .i64 1)) fun t6 =>
  .done (e.upd 6 t6)
theorem c35_r4_run {CP : CProg} (e : Env) (h : Heap) (Q : Post) : RunR CP (c35_r4 e) h Q ↔ RunR CP (
  .op (.mv (.int .i64 1)) fun t6 =>
  .done (e.upd 6 t6)) h Q := Iff.rfl
def c35_r5 : Env → Reg := fun e =>
  .op (.mv (e 6)) fun t14 =>
  .op (.mv (e 0)) fun t15 =>
  .op (.nilCheck t15) fun t16 =>
  .op (.fieldAddr 0 t16) fun t17 =>
  .op (.load none t17) fun t18 =>
  .op (.lenSl t18) fun t19 =>
  .op (.bin .lss t14 t19) fun t20 =>
  .done (e.upd 20 t20)
theorem c35_r5_run {CP : CProg} (e : Env) (h : Heap) (Q : Post) : RunR CP (c35_r5 e) h Q ↔ RunR CP (
  .op (.mv (e 6)) fun t14 =>
  .op (.mv (e 0)) fun t15 =>
  .op (.nilCheck t15) fun t16 =>
  .op (.fieldAddr 0 t16) fun t17 =>
  .op (.load none t17) fun t18 =>
  .op (.lenSl t18) fun t19 =>
  .op (.bin .lss t14 t19) fun t20 =>
  .done (e.upd 20 t20)) h Q := Iff.rfl
def c35_r7 : Env → Reg := fun e =>
  .op (.mv (e 5)) fun t23 =>
  .op (.mv (e 0)) fun t24 =>
  .op (.mv (e 6)) fun t25 =>
  .op (.mv (e 1)) fun t26 =>
  .op (.call 36 [t24, t25, t26]) fun t27 =>
  .op (.nilCheck t27) fun t28 =>
  .op (.load none t28) fun t29 =>
  .op (.minmax false [t23, t29]) fun t30 =>
  .op (.mv t30) fun t5 =>
  .done (e.upd 5 t5)
theorem c35_r7_run {CP : CProg} (e : Env) (h : Heap) (Q : Post) : RunR CP (c35_r7 e) h Q ↔ RunR CP (
  .op (.mv (e 5)) fun t23 =>
  .op (.mv (e 0)) fun t24 =>
  .op (.mv (e 6)) fun t25 =>
  .op (.mv (e 1)) fun t26 =>
  .op (.call 36 [t24, t25, t26]) fun t27 =>
  .op (.nilCheck t27) fun t28 =>
  .op (.load none t28) fun t29 =>
  .op (.minmax false [t23, t29]) fun t30 =>
  .op (.mv t30) fun t5 =>
  .done (e.upd 5 t5)) h Q := Iff.rfl
def c35_r6 : Env → Reg := fun e =>
  .op (.mv (e 6)) fun t21 =>
  .op (.bin .add t21 (.int .i64 1)) fun t22 =>
  .op (.mv t22) fun t6 =>
  .done (e.upd 6 t6)
theorem c35_r6_run {CP : CProg} (e : Env) (h : Heap) (Q : Post) : RunR CP (c35_r6 e) h Q ↔ RunR CP (
  .op (.mv (e 6)) fun t21 =>
  .op (.bin .add t21 (.int .i64 1)) fun t22 =>
  .op (.mv t22) fun t6 =>
  .done (e.upd 6 t6)) h Q := Iff.rfl
def c35_l0 : CC := (.seq (.seq (.region c35_r5) (.cond (fun e => e 20) .skip (.exit 0))) (.seq (.block 1 (.region c35_r7)) (.region c35_r6)))
def c35_r8 : Env → Reg := fun e =>
  .op (.mv (e 5)) fun t31 =>
  .op (.mv t31) fun t4 =>
  .done (e.upd 4 t4)
theorem c35_r8_run {CP : CProg} (e : Env) (h : Heap) (Q : Post) : RunR CP (c35_r8 e) h Q ↔ RunR CP (
  .op (.mv (e 5)) fun t31 =>
  .op (.mv t31) fun t4 =>
  .done (e.upd 4 t4)) h Q := Iff.rfl
def c35 : CFn := ⟨(.seq (.region c35_r0) (.seq (.seq (.region c35_r1) (.cond (fun e => e 8) (.seq (.region c35_r2) .ret) .skip)) (.seq (.region c35_r3) (.seq (.seq (.region c35_r4) (.block 0 (.loop c35_l0))) (.seq (.region c35_r8) .ret))))), [.t 4]⟩
def p35 : Pers := ⟨7, [8, 20], 32⟩
-- 36: (*weighbridge/slot.Slot).at
def c36_r0 : Env → Reg := fun e =>
  .op (.mv (.pointer none)) fun t6 =>
  .done (e.upd 6 t6)
theorem c36_r0_run {CP : CProg} (e : Env) (h : Heap) (Q : Post) : RunR CP (c36_r0 e) h Q ↔ RunR CP (
  .op (.mv (.pointer none)) fun t6 =>
  .done (e.upd 6 t6)) h Q := Iff.rfl
def c36_r1_c3 (e : Env) (t9 : Value) (t10 : Value) (t14 : Value) (t15 : Value) (t16 : Value) (t29 : Value) : Reg :=
  .chk none none (.load none t14) t15 <|
  .chk none none (.load none t9) t10 <|
  .op (.bin .add t16 t29) fun t30 =>
  .op (.indexSl 1 t10 t30) fun t31 =>
  .op (.mv t31) fun t6 =>
  .done (e.upd 6 t6)
theorem c36_r1_c3_run {CP : CProg} (e : Env) (t9 : Value) (t10 : Value) (t14 : Value) (t15 : Value) (t16 : Value) (t29 : Value) (h : Heap) (Q : Post) : RunR CP (c36_r1_c3 e t9 t10 t14 t15 t16 t29) h Q ↔ RunR CP (
  .chk none none (.load none t14) t15 <|
  .chk none none (.load none t9) t10 <|
  .op (.bin .add t16 t29) fun t30 =>
  .op (.indexSl 1 t10 t30) fun t31 =>
  .op (.mv t31) fun t6 =>
  .done (e.upd 6 t6)) h Q := Iff.rfl
def c36_r1_c2 (e : Env) (t9 : Value) (t10 : Value) (t14 : Value) (t15 : Value) (t16 : Value) (t22 : Value) : Reg :=
  .op (.load (some 3) t22) fun t23 =>
  .op (.mv (e 2)) fun t24 =>
  .op (.mv (e 0)) fun t25 =>
  .op (.nilCheck t25) fun t26 =>
  .op (.fieldAddr 1 t26) fun t27 =>
  .op (.load none t27) fun t28 =>
  .snap fun h22 =>
  .op (.call 41 [t23, t24, t28]) fun t29 =>
  c36_r1_c3 e t9 t10 t14 t15 t16 t29
theorem c36_r1_c2_run {CP : CProg} (e : Env) (t9 : Value) (t10 : Value) (t14 : Value) (t15 : Value) (t16 : Value) (t22 : Value) (h : Heap) (Q : Post) : RunR CP (c36_r1_c2 e t9 t10 t14 t15 t16 t22) h Q ↔ RunR CP (
  .op (.load (some 3) t22) fun t23 =>
  .op (.mv (e 2)) fun t24 =>
  .op (.mv (e 0)) fun t25 =>
  .op (.nilCheck t25) fun t26 =>
  .op (.fieldAddr 1 t26) fun t27 =>
  .op (.load none t27) fun t28 =>
  .snap fun h22 =>
  .op (.call 41 [t23, t24, t28]) fun t29 =>
  c36_r1_c3 e t9 t10 t14 t15 t16 t29) h Q := Iff.rfl
def c36_r1_c1 (e : Env) (t9 : Value) (t10 : Value) (t11 : Value) (t14 : Value) : Reg :=
  .op (.load none t14) fun t15 =>
  .op (.bin .mul t11 t15) fun t16 =>
  .op (.mv (e 0)) fun t17 =>
  .op (.nilCheck t17) fun t18 =>
  .op (.fieldAddr 0 t18) fun t19 =>
  .op (.load none t19) fun t20 =>
  .op (.mv (e 1)) fun t21 =>
  .op (.indexSl 3 t20 t21) fun t22 =>
  c36_r1_c2 e t9 t10 t14 t15 t16 t22
theorem c36_r1_c1_run {CP : CProg} (e : Env) (t9 : Value) (t10 : Value) (t11 : Value) (t14 : Value) (h : Heap) (Q : Post) : RunR CP (c36_r1_c1 e t9 t10 t11 t14) h Q ↔ RunR CP (
  .op (.load none t14) fun t15 =>
  .op (.bin .mul t11 t15) fun t16 =>
  .op (.mv (e 0)) fun t17 =>
  .op (.nilCheck t17) fun t18 =>
  .op (.fieldAddr 0 t18) fun t19 =>
  .op (.load none t19) fun t20 =>
  .op (.mv (e 1)) fun t21 =>
  .op (.indexSl 3 t20 t21) fun t22 =>
  c36_r1_c2 e t9 t10 t14 t15 t16 t22) h Q := Iff.rfl
def c36_r1 : Env → Reg := fun e =>
  .op (.mv (e 0)) fun t7 =>
  .op (.nilCheck t7) fun t8 =>
  .op (.fieldAddr 2 t8) fun t9 =>
  .op (.load none t9) fun t10 =>
  .op (.mv (e 1)) fun t11 =>
  .op (.mv (e 0)) fun t12 =>
  .op (.nilCheck t12) fun t13 =>
  .op (.fieldAddr 1 t13) fun t14 =>
  c36_r1_c1 e t9 t10 t11 t14
theorem c36_r1_run {CP : CProg} (e : Env) (h : Heap) (Q : Post) : RunR CP (c36_r1 e) h Q ↔ RunR CP (
  .op (.mv (e 0)) fun t7 =>
  .op (.nilCheck t7) fun t8 =>
  .op (.fieldAddr 2 t8) fun t9 =>
  .op (.load none t9) fun t10 =>
  .op (.mv (e 1)) fun t11 =>
  .op (.mv (e 0)) fun t12 =>
  .op (.nilCheck t12) fun t13 =>
  .op (.fieldAddr 1 t13) fun t14 =>
  c36_r1_c1 e t9 t10 t11 t14) h Q := Iff.rfl
def c36 : CFn := ⟨(.seq (.region c36_r0) (.seq (.region c36_r1) .ret)), [.t 6]⟩
def p36 : Pers := ⟨7, [], 32⟩
-- 37: (*weighbridge/ring.Ring).eldest
def c37_r0 : Env → Reg := fun e =>
  .op (.mv (.int .i64 0)) fun t6 =>
  .done (e.upd 6 t6)
theorem c37_r0_run {CP : CProg} (e : Env) (h : Heap) (Q : Post) : RunR CP (c37_r0 e) h Q ↔ RunR CP (
  .op (.mv (.int .i64 0)) fun t6 =>
  .done (e.upd 6 t6)) h Q := Iff.rfl
def c37_r1 : Env → Reg := fun e =>
  .op (.mv (e 0)) fun t9 =>
  .op (.nilCheck t9) fun t10 =>
  .op (.fieldAddr 5 t10) fun t11 =>
  .op (.load none t11) fun t12 =>
  .op (.un .not t12) fun t13 =>
  .done (e.upd 13 t13)
theorem c37_r1_run {CP : CProg} (e : Env) (h : Heap) (Q : Post) : RunR CP (c37_r1 e) h Q ↔ RunR CP (
  .op (.mv (e 0)) fun t9 =>
  .op (.nilCheck t9) fun t10 =>
  .op (.fieldAddr 5 t10) fun t11 =>
  .op (.load none t11) fun t12 =>
  .op (.un .not t12) fun t13 =>
  .done (e.upd 13 t13)) h Q := Iff.rfl
def c37_r2 : Env → Reg := fun e =>
  .op (.mv (e 1)) fun t14 =>
  .op (.mv t14) fun t6 =>
  .done (e.upd 6 t6)
theorem c37_r2_run {CP : CProg} (e : Env) (h : Heap) (Q : Post) : RunR CP (c37_r2 e) h Q ↔ RunR CP (
  .op (.mv (e 1)) fun t14 =>
  .op (.mv t14) fun t6 =>
  .done (e.upd 6 t6)) h Q := Iff.rfl
def c37_r3_c2 (e : Env) (t30 : Value) : Reg :=
  .op (.mv t30) fun t15 =>
  .op (.extract t15 0) fun t31 =>
  .op (.extract t15 1) fun t32 =>
  .op (.mv t31) fun t7 =>
  .op (.mv t32) fun t8 =>
  .done ((e.upd 7 t7).upd 8 t8)
theorem c37_r3_c2_run {CP : CProg} (e : Env) (t30 : Value) (h : Heap) (Q : Post) : RunR CP (c37_r3_c2 e t30) h Q ↔ RunR CP (
  .op (.mv t30) fun t15 =>
  .op (.extract t15 0) fun t31 =>
  .op (.extract t15 1) fun t32 =>
  .op (.mv t31) fun t7 =>
  .op (.mv t32) fun t8 =>
  .done ((e.upd 7 t7).upd 8 t8)) h Q := Iff.rfl
def c37_r3_c1 (e : Env) (t17 : Value) (t23 : Value) : Reg :=
  .op (.conv .u64 t23) fun t24 =>
  .op (.mv (e 0)) fun t25 =>
  .op (.nilCheck t25) fun t26 =>
  .op (.fieldAddr 2 t26) fun t27 =>
  .op (.load none t27) fun t28 =>
  .op (.conv .u64 t28) fun t29 =>
  .snap fun h14 =>
  .op (.call 42 [t17, t24, t29]) fun t30 =>
  c37_r3_c2 e t30
theorem c37_r3_c1_run {CP : CProg} (e : Env) (t17 : Value) (t23 : Value) (h : Heap) (Q : Post) : RunR CP (c37_r3_c1 e t17 t23) h Q ↔ RunR CP (
  .op (.conv .u64 t23) fun t24 =>
  .op (.mv (e 0)) fun t25 =>
  .op (.nilCheck t25) fun t26 =>
  .op (.fieldAddr 2 t26) fun t27 =>
  .op (.load none t27) fun t28 =>
  .op (.conv .u64 t28) fun t29 =>
  .snap fun h14 =>
  .op (.call 42 [t17, t24, t29]) fun t30 =>
  c37_r3_c2 e t30) h Q := Iff.rfl
def c37_r3 : Env → Reg := fun e =>
  .op (.mv (e 1)) fun t16 =>
  .op (.conv .u64 t16) fun t17 =>
  .op (.mv (e 0)) fun t18 =>
  .op (.nilCheck t18) fun t19 =>
  .op (.fieldAddr 2 t19) fun t20 =>
  .op (.load none t20) fun t21 =>
  .op (.mv (e 2)) fun t22 =>
  .op (.bin .sub t21 t22) fun t23 =>
  c37_r3_c1 e t17 t23
theorem c37_r3_run {CP : CProg} (e : Env) (h : Heap) (Q : Post) : RunR CP (c37_r3 e) h Q ↔ RunR CP (
  .op (.mv (e 1)) fun t16 =>
  .op (.conv .u64 t16) fun t17 =>
  .op (.mv (e 0)) fun t18 =>
  .op (.nilCheck t18) fun t19 =>
  .op (.fieldAddr 2 t19) fun t20 =>
  .op (.load none t20) fun t21 =>
  .op (.mv (e 2)) fun t22 =>
  .op (.bin .sub t21 t22) fun t23 =>
  c37_r3_c1 e t17 t23) h Q := Iff.rfl
def c37_r4 : Env → Reg := fun e =>
  .op (.mv (e 7)) fun t33 =>
  .op (.conv .i64 t33) fun t34 =>
  .op (.mv t34) fun t6 =>
  .done (e.upd 6 t6)
theorem c37_r4_run {CP : CProg} (e : Env) (h : Heap) (Q : Post) : RunR CP (c37_r4 e) h Q ↔ RunR CP (
  .op (.mv (e 7)) fun t33 =>
  .op (.conv .i64 t33) fun t34 =>
  .op (.mv t34) fun t6 =>
  .done (e.upd 6 t6)) h Q := Iff.rfl
def c37 : CFn := ⟨(.seq (.region c37_r0) (.seq (.seq (.region c37_r1) (.cond (fun e => e 13) (.seq (.region c37_r2) .ret) .skip)) (.seq (.region c37_r3) (.seq (.region c37_r4) .ret)))), [.t 6]⟩
def p37 : Pers := ⟨9, [13], 35⟩
-- 38: weighbridge/arith.Add
def c38_r0 : Env → Reg := fun e =>
  .op (.mv (.int .i64 0)) fun t4 =>
  .op (.mv (.bool false)) fun t5 =>
  .done ((e.upd 4 t4).upd 5 t5)
theorem c38_r0_run {CP : CProg} (e : Env) (h : Heap) (Q : Post) : RunR CP (c38_r0 e) h Q ↔ RunR CP (
  .op (.mv (.int .i64 0)) fun t4 =>
  .op (.mv (.bool false)) fun t5 =>
  .done ((e.upd 4 t4).upd 5 t5)) h Q := Iff.rfl
def c38_r1 : Env → Reg := fun e =>
  .op (.mv (e 0)) fun t7 =>
  .op (.mv (e 1)) fun t8 =>
  .op (.bin .add t7 t8) fun t9 =>
  .op (.mv t9) fun t6 =>
  .done (e.upd 6 t6)
theorem c38_r1_run {CP : CProg} (e : Env) (h : Heap) (Q : Post) : RunR CP (c38_r1 e) h Q ↔ RunR CP (
  .op (.mv (e 0)) fun t7 =>
  .op (.mv (e 1)) fun t8 =>
  .op (.bin .add t7 t8) fun t9 =>
  .op (.mv t9) fun t6 =>
  .done (e.upd 6 t6)) h Q := Iff.rfl
def c38_r2 : Env → Reg := fun e =>
  .op (.mv (e 6)) fun t10 =>
  .op (.mv (e 6)) fun t11 =>
  .op (.mv (e 0)) fun t12 =>
  .op (.bin .gtr t11 t12) fun t13 =>
  .op (.mv (e 1)) fun t14 =>
  .op (.bin .gtr t14 (.int .i64 0)) fun t15 =>
  .op (.eqK .bool false t13 t15) fun t16 =>
  .op (.mv t10) fun t4 =>
  .op (.mv t16) fun t5 =>
  .done ((e.upd 4 t4).upd 5 t5)
theorem c38_r2_run {CP : CProg} (e : Env) (h : Heap) (Q : Post) : RunR CP (c38_r2 e) h Q ↔ RunR CP (
  .op (.mv (e 6)) fun t10 =>
  .op (.mv (e 6)) fun t11 =>
  .op (.mv (e 0)) fun t12 =>
  .op (.bin .gtr t11 t12) fun t13 =>
  .op (.mv (e 1)) fun t14 =>
  .op (.bin .gtr t14 (.int .i64 0)) fun t15 =>
  .op (.eqK .bool false t13 t15) fun t16 =>
  .op (.mv t10) fun t4 =>
  .op (.mv t16) fun t5 =>
  .done ((e.upd 4 t4).upd 5 t5)) h Q := Iff.rfl
def c38 : CFn := ⟨(.seq (.region c38_r0) (.seq (.region c38_r1) (.seq (.region c38_r2) .ret))), [.t 4, .t 5]⟩
def p38 : Pers := ⟨7, [], 17⟩
-- 39: weighbridge/arith.end
def c39_r0 : Env → Reg := fun e =>
  .op (.mv (.int .i64 0)) fun t2 =>
  .done (e.upd 2 t2)
theorem c39_r0_run {CP : CProg} (e : Env) (h : Heap) (Q : Post) : RunR CP (c39_r0 e) h Q ↔ RunR CP (
  .op (.mv (.int .i64 0)) fun t2 =>
  .done (e.upd 2 t2)) h Q := Iff.rfl
def c39_r1 : Env → Reg := fun e =>
  .op (.mv (e 0)) fun t3 =>
  .done (e.upd 3 t3)
theorem c39_r1_run {CP : CProg} (e : Env) (h : Heap) (Q : Post) : RunR CP (c39_r1 e) h Q ↔ RunR CP (
  .op (.mv (e 0)) fun t3 =>
  .done (e.upd 3 t3)) h Q := Iff.rfl
def c39_r2 : Env → Reg := fun e =>
  .op (.mv (.int .i64 (-9223372036854775808))) fun t2 =>
  .done (e.upd 2 t2)
theorem c39_r2_run {CP : CProg} (e : Env) (h : Heap) (Q : Post) : RunR CP (c39_r2 e) h Q ↔ RunR CP (
  .op (.mv (.int .i64 (-9223372036854775808))) fun t2 =>
  .done (e.upd 2 t2)) h Q := Iff.rfl
def c39_r3 : Env → Reg := fun e =>
  .op (.mv (.int .i64 9223372036854775807)) fun t2 =>
  .done (e.upd 2 t2)
theorem c39_r3_run {CP : CProg} (e : Env) (h : Heap) (Q : Post) : RunR CP (c39_r3 e) h Q ↔ RunR CP (
  .op (.mv (.int .i64 9223372036854775807)) fun t2 =>
  .done (e.upd 2 t2)) h Q := Iff.rfl
def c39 : CFn := ⟨(.seq (.region c39_r0) (.seq (.seq (.region c39_r1) (.cond (fun e => e 3) (.seq (.region c39_r2) .ret) .skip)) (.seq (.region c39_r3) .ret))), [.t 2]⟩
def p39 : Pers := ⟨3, [3], 4⟩
-- 40: weighbridge/arith.Mul
def c40_r0 : Env → Reg := fun e =>
  .op (.mv (.int .i64 0)) fun t4 =>
  .op (.mv (.bool false)) fun t5 =>
  .done ((e.upd 4 t4).upd 5 t5)
theorem c40_r0_run {CP : CProg} (e : Env) (h : Heap) (Q : Post) : RunR CP (c40_r0 e) h Q ↔ RunR CP (
  .op (.mv (.int .i64 0)) fun t4 =>
  .op (.mv (.bool false)) fun t5 =>
  .done ((e.upd 4 t4).upd 5 t5)) h Q := Iff.rfl
def c40_r1 : Env → Reg := fun e =>
  .op (.mv (e 0)) fun t10 =>
  .op (.conv .u64 t10) fun t11 =>
  .op (.mv (e 1)) fun t12 =>
  .op (.conv .u64 t12) fun t13 =>
  .op (.call 43 [t11, t13]) fun t14 =>
  .op (.mv t14) fun t9 =>
  .op (.extract t9 0) fun t15 =>
  .op (.extract t9 1) fun t16 =>
  .op (.mv t15) fun t6 =>
  .op (.mv t16) fun t7 =>
  .done ((e.upd 6 t6).upd 7 t7)
theorem c40_r1_run {CP : CProg} (e : Env) (h : Heap) (Q : Post) : RunR CP (c40_r1 e) h Q ↔ RunR CP (
  .op (.mv (e 0)) fun t10 =>
  .op (.conv .u64 t10) fun t11 =>
  .op (.mv (e 1)) fun t12 =>
  .op (.conv .u64 t12) fun t13 =>
  .op (.call 43 [t11, t13]) fun t14 =>
  .op (.mv t14) fun t9 =>
  .op (.extract t9 0) fun t15 =>
  .op (.extract t9 1) fun t16 =>
  .op (.mv t15) fun t6 =>
  .op (.mv t16) fun t7 =>
  .done ((e.upd 6 t6).upd 7 t7)) h Q := Iff.rfl
def c40_r2 : Env → Reg := fun e =>
  .op (.mv (e 6)) fun t17 =>
  .op (.conv .i64 t17) fun t18 =>
  .op (.mv t18) fun t8 =>
  .done (e.upd 8 t8)
theorem c40_r2_run {CP : CProg} (e : Env) (h : Heap) (Q : Post) : RunR CP (c40_r2 e) h Q ↔ RunR CP (
  .op (.mv (e 6)) fun t17 =>
  .op (.conv .i64 t17) fun t18 =>
  .op (.mv t18) fun t8 =>
  .done (e.upd 8 t8)) h Q := Iff.rfl
def c40_r3 : Env → Reg := fun e =>
  .op (.mv (e 0)) fun t19 =>
  .op (.bin .lss t19 (.int .i64 0)) fun t20 =>
  .done (e.upd 20 t20)
theorem c40_r3_run {CP : CProg} (e : Env) (h : Heap) (Q : Post) : RunR CP (c40_r3 e) h Q ↔ RunR CP (
  .op (.mv (e 0)) fun t19 =>
  .op (.bin .lss t19 (.int .i64 0)) fun t20 =>
  .done (e.upd 20 t20)) h Q := Iff.rfl
def c40_r4 : Env → Reg := fun e =>
  .op (.mv (e 8)) fun t21 =>
  .op (.mv (e 1)) fun t22 =>
  .op (.bin .sub t21 t22) fun t23 =>
  .op (.mv t23) fun t8 =>
  .done (e.upd 8 t8)
theorem c40_r4_run {CP : CProg} (e : Env) (h : Heap) (Q : Post) : RunR CP (c40_r4 e) h Q ↔ RunR CP (
  .op (.mv (e 8)) fun t21 =>
  .op (.mv (e 1)) fun t22 =>
  .op (.bin .sub t21 t22) fun t23 =>
  .op (.mv t23) fun t8 =>
  .done (e.upd 8 t8)) h Q := Iff.rfl
def c40_r5 : Env → Reg := fun e =>
  .op (.mv (e 1)) fun t24 =>
  .op (.bin .lss t24 (.int .i64 0)) fun t25 =>
  .done (e.upd 25 t25)
theorem c40_r5_run {CP : CProg} (e : Env) (h : Heap) (Q : Post) : RunR CP (c40_r5 e) h Q ↔ RunR CP (
  .op (.mv (e 1)) fun t24 =>
  .op (.bin .lss t24 (.int .i64 0)) fun t25 =>
  .done (e.upd 25 t25)) h Q := Iff.rfl
def c40_r6 : Env → Reg := fun e =>
  .op (.mv (e 8)) fun t26 =>
  .op (.mv (e 0)) fun t27 =>
  .op (.bin .sub t26 t27) fun t28 =>
  .op (.mv t28) fun t8 =>
  .done (e.upd 8 t8)
theorem c40_r6_run {CP : CProg} (e : Env) (h : Heap) (Q : Post) : RunR CP (c40_r6 e) h Q ↔ RunR CP (
  .op (.mv (e 8)) fun t26 =>
  .op (.mv (e 0)) fun t27 =>
  .op (.bin .sub t26 t27) fun t28 =>
  .op (.mv t28) fun t8 =>
  .done (e.upd 8 t8)) h Q := Iff.rfl
def c40_r7 : Env → Reg := fun e =>
  .op (.mv (e 7)) fun t29 =>
  .op (.conv .i64 t29) fun t30 =>
  .op (.mv (e 8)) fun t31 =>
  .op (.mv (e 7)) fun t32 =>
  .op (.conv .i64 t32) fun t33 =>
  .op (.bin .shr t33 (.int .u64 63)) fun t34 =>
  .op (.bin .eql t31 t34) fun t35 =>
  .op (.mv t30) fun t4 =>
  .op (.mv t35) fun t5 =>
  .done ((e.upd 4 t4).upd 5 t5)
theorem c40_r7_run {CP : CProg} (e : Env) (h : Heap) (Q : Post) : RunR CP (c40_r7 e) h Q ↔ RunR CP (
  .op (.mv (e 7)) fun t29 =>
  .op (.conv .i64 t29) fun t30 =>
  .op (.mv (e 8)) fun t31 =>
  .op (.mv (e 7)) fun t32 =>
  .op (.conv .i64 t32) fun t33 =>
  .op (.bin .shr t33 (.int .u64 63)) fun t34 =>
  .op (.bin .eql t31 t34) fun t35 =>
  .op (.mv t30) fun t4 =>
  .op (.mv t35) fun t5 =>
  .done ((e.upd 4 t4).upd 5 t5)) h Q := Iff.rfl
def c40 : CFn := ⟨(.seq (.region c40_r0) (.seq (.region c40_r1) (.seq (.region c40_r2) (.seq (.seq (.region c40_r3) (.cond (fun e => e 20) (.region c40_r4) .skip)) (.seq (.seq (.region c40_r5) (.cond (fun e => e 25) (.region c40_r6) .skip)) (.seq (.region c40_r7) .ret)))))), [.t 4, .t 5]⟩
def p40 : Pers := ⟨9, [20, 25], 36⟩
-- 41: (weighbridge/hash.Row).Bucket
def c41_r0 : Env → Reg := fun e =>
  .op (.box 63 (e 0)) fun t3 =>
  .op (.mv (.int .i64 0)) fun t6 =>
  .done ((e.upd 3 t3).upd 6 t6)
theorem c41_r0_run {CP : CProg} (e : Env) (h : Heap) (Q : Post) : RunR CP (c41_r0 e) h Q ↔ RunR CP (
  .op (.box 63 (e 0)) fun t3 =>
  .op (.mv (.int .i64 0)) fun t6 =>
  .done ((e.upd 3 t3).upd 6 t6)) h Q := Iff.rfl
def c41_r1 : Env → Reg := fun e =>
  .op (.load (some 3) (e 3)) fun t7 =>
  .op (.mv (e 1)) fun t8 =>
  .op (.call 45 [t7, t8]) fun t9 =>
  .op (.mv (e 2)) fun t10 =>
  .op (.call 44 [t9, t10]) fun t11 =>
  .op (.mv t11) fun t6 =>
  .done (e.upd 6 t6)
theorem c41_r1_run {CP : CProg} (e : Env) (h : Heap) (Q : Post) : RunR CP (c41_r1 e) h Q ↔ RunR CP (
  .op (.load (some 3) (e 3)) fun t7 =>
  .op (.mv (e 1)) fun t8 =>
  .op (.call 45 [t7, t8]) fun t9 =>
  .op (.mv (e 2)) fun t10 =>
  .op (.call 44 [t9, t10]) fun t11 =>
  .op (.mv t11) fun t6 =>
  .done (e.upd 6 t6)) h Q := Iff.rfl
def c41 : CFn := ⟨(.seq (.region c41_r0) (.seq (.region c41_r1) .ret)), [.t 6]⟩
def p41 : Pers := ⟨7, [], 12⟩
-- 42: weighbridge/arith.Up
def c42_r0 : Env → Reg := fun e =>
  .op (.mv (.int .u64 0)) fun t6 =>
  .op (.mv (.bool false)) fun t7 =>
  .done ((e.upd 6 t6).upd 7 t7)
theorem c42_r0_run {CP : CProg} (e : Env) (h : Heap) (Q : Post) : RunR CP (c42_r0 e) h Q ↔ RunR CP (
  .op (.mv (.int .u64 0)) fun t6 =>
  .op (.mv (.bool false)) fun t7 =>
  .done ((e.upd 6 t6).upd 7 t7)) h Q := Iff.rfl
def c42_r1_c1 (e : Env) (t16 : Value) (t17 : Value) (t18 : Value) : Reg :=
  .op (.mv t16) fun t8 =>
  .op (.mv t17) fun t9 =>
  .op (.mv t18) fun t10 =>
  .done (((e.upd 8 t8).upd 9 t9).upd 10 t10)
theorem c42_r1_c1_run {CP : CProg} (e : Env) (t16 : Value) (t17 : Value) (t18 : Value) (h : Heap) (Q : Post) : RunR CP (c42_r1_c1 e t16 t17 t18) h Q ↔ RunR CP (
  .op (.mv t16) fun t8 =>
  .op (.mv t17) fun t9 =>
  .op (.mv t18) fun t10 =>
  .done (((e.upd 8 t8).upd 9 t9).upd 10 t10)) h Q := Iff.rfl
def c42_r1 : Env → Reg := fun e =>
  .op (.mv (e 0)) fun t12 =>
  .op (.mv (e 1)) fun t13 =>
  .op (.mv (e 2)) fun t14 =>
  .op (.call 46 [t12, t13, t14]) fun t15 =>
  .op (.mv t15) fun t11 =>
  .op (.extract t11 0) fun t16 =>
  .op (.extract t11 1) fun t17 =>
  .op (.extract t11 2) fun t18 =>
  c42_r1_c1 e t16 t17 t18
theorem c42_r1_run {CP : CProg} (e : Env) (h : Heap) (Q : Post) : RunR CP (c42_r1 e) h Q ↔ RunR CP (
  .op (.mv (e 0)) fun t12 =>
  .op (.mv (e 1)) fun t13 =>
  .op (.mv (e 2)) fun t14 =>
  .op (.call 46 [t12, t13, t14]) fun t15 =>
  .op (.mv t15) fun t11 =>
  .op (.extract t11 0) fun t16 =>
  .op (.extract t11 1) fun t17 =>
  .op (.extract t11 2) fun t18 =>
  c42_r1_c1 e t16 t17 t18) h Q := Iff.rfl
def c42_r2 : Env → Reg := fun e =>
  .op (.mv (e 10)) fun t19 =>
  .op (.un .not t19) fun t20 =>
  .op (.mv t20) fun t21 =>
  .opg t21 false (.mv (e 9)) fun t22 =>
  .opg t21 false (.bin .gtr t22 (.int .u64 0)) fun t23 =>
  .opg t21 false (.mv t23) fun t24 =>
  .opg t24 true (.mv (e 8)) fun t25 =>
  .opg t24 true (.bin .eql t25 (.int .u64 18446744073709551615)) fun t26 =>
  .opg t21 false (.pick t24 t26 (.bool false)) fun t27 =>
  .op (.pick t21 (.bool true) t27) fun t28 =>
  .done (e.upd 28 t28)
theorem c42_r2_run {CP : CProg} (e : Env) (h : Heap) (Q : Post) : RunR CP (c42_r2 e) h Q ↔ RunR CP (
  .op (.mv (e 10)) fun t19 =>
  .op (.un .not t19) fun t20 =>
  .op (.mv t20) fun t21 =>
  .opg t21 false (.mv (e 9)) fun t22 =>
  .opg t21 false (.bin .gtr t22 (.int .u64 0)) fun t23 =>
  .opg t21 false (.mv t23) fun t24 =>
  .opg t24 true (.mv (e 8)) fun t25 =>
  .opg t24 true (.bin .eql t25 (.int .u64 18446744073709551615)) fun t26 =>
  .opg t21 false (.pick t24 t26 (.bool false)) fun t27 =>
  .op (.pick t21 (.bool true) t27) fun t28 =>
  .done (e.upd 28 t28)) h Q := Iff.rfl
def c42_r3 : Env → Reg := fun e =>
  .op (.mv (.int .u64 0)) fun t6 =>
  .op (.mv (.bool false)) fun t7 =>
  .done ((e.upd 6 t6).upd 7 t7)
theorem c42_r3_run {CP : CProg} (e : Env) (h : Heap) (Q : Post) : RunR CP (c42_r3 e) h Q ↔ RunR CP (
  .op (.mv (.int .u64 0)) fun t6 =>
  .op (.mv (.bool false)) fun t7 =>
  .done ((e.upd 6 t6).upd 7 t7)) h Q := Iff.rfl
def c42_r4 : Env → Reg := fun e =>
  .op (.mv (e 9)) fun t29 =>
  .op (.bin .gtr t29 (.int .u64 0)) fun t30 =>
  .done (e.upd 30 t30)
theorem c42_r4_run {CP : CProg} (e : Env) (h : Heap) (Q : Post) : RunR CP (c42_r4 e) h Q ↔ RunR CP (
  .op (.mv (e 9)) fun t29 =>
  .op (.bin .gtr t29 (.int .u64 0)) fun t30 =>
  .done (e.upd 30 t30)) h Q := Iff.rfl
def c42_r5 : Env → Reg := fun e =>
  .op (.mv (e 8)) fun t31 =>
  .op (.bin .add t31 (.int .u64 1)) fun t32 =>
  .op (.mv t32) fun t8 =>
  .done (e.upd 8 t8)
theorem c42_r5_run {CP : CProg} (e : Env) (h : Heap) (Q : Post) : RunR CP (c42_r5 e) h Q ↔ RunR CP (
  .op (.mv (e 8)) fun t31 =>
  .op (.bin .add t31 (.int .u64 1)) fun t32 =>
  .op (.mv t32) fun t8 =>
  .done (e.upd 8 t8)) h Q := Iff.rfl
def c42_r6 : Env → Reg := fun e =>
  .op (.mv (e 8)) fun t33 =>
  .op (.mv t33) fun t6 =>
  .op (.mv (.bool true)) fun t7 =>
  .done ((e.upd 6 t6).upd 7 t7)
theorem c42_r6_run {CP : CProg} (e : Env) (h : Heap) (Q : Post) : RunR CP (c42_r6 e) h Q ↔ RunR CP (
  .op (.mv (e 8)) fun t33 =>
  .op (.mv t33) fun t6 =>
  .op (.mv (.bool true)) fun t7 =>
  .done ((e.upd 6 t6).upd 7 t7)) h Q := Iff.rfl
def c42 : CFn := ⟨(.seq (.region c42_r0) (.seq (.region c42_r1) (.seq (.seq (.region c42_r2) (.cond (fun e => e 28) (.seq (.region c42_r3) .ret) .skip)) (.seq (.seq (.region c42_r4) (.cond (fun e => e 30) (.region c42_r5) .skip)) (.seq (.region c42_r6) .ret))))), [.t 6, .t 7]⟩
def p42 : Pers := ⟨11, [28, 30], 34⟩
-- 43: math/bits.Mul64
def c43_r0 : Env → Reg := fun e =>
  .op (.mv (.int .u64 0)) fun t4 =>
  .op (.mv (.int .u64 0)) fun t5 =>
  .done ((e.upd 4 t4).upd 5 t5)
theorem c43_r0_run {CP : CProg} (e : Env) (h : Heap) (Q : Post) : RunR CP (c43_r0 e) h Q ↔ RunR CP (
  .op (.mv (.int .u64 0)) fun t4 =>
  .op (.mv (.int .u64 0)) fun t5 =>
  .done ((e.upd 4 t4).upd 5 t5)) h Q := Iff.rfl
def c43_r1 : Env → Reg := fun e =>
  .op (.mv (e 0)) fun t14 =>
  .op (.bin .and t14 (.int .u64 4294967295)) fun t15 =>
  .op (.mv t15) fun t6 =>
  .done (e.upd 6 t6)
theorem c43_r1_run {CP : CProg} (e : Env) (h : Heap) (Q : Post) : RunR CP (c43_r1 e) h Q ↔ RunR CP (
  .op (.mv (e 0)) fun t14 =>
  .op (.bin .and t14 (.int .u64 4294967295)) fun t15 =>
  .op (.mv t15) fun t6 =>
  .done (e.upd 6 t6)) h Q := Iff.rfl
def c43_r2 : Env → Reg := fun e =>
  .op (.mv (e 0)) fun t16 =>
  .op (.bin .shr t16 (.int .u64 32)) fun t17 =>
  .op (.mv t17) fun t7 =>
  .done (e.upd 7 t7)
theorem c43_r2_run {CP : CProg} (e : Env) (h : Heap) (Q : Post) : RunR CP (c43_r2 e) h Q ↔ RunR CP (
  .op (.mv (e 0)) fun t16 =>
  .op (.bin .shr t16 (.int .u64 32)) fun t17 =>
  .op (.mv t17) fun t7 =>
  .done (e.upd 7 t7)) h Q := Iff.rfl
def c43_r3 : Env → Reg := fun e =>
  .op (.mv (e 1)) fun t18 =>
  .op (.bin .and t18 (.int .u64 4294967295)) fun t19 =>
  .op (.mv t19) fun t8 =>
  .done (e.upd 8 t8)
theorem c43_r3_run {CP : CProg} (e : Env) (h : Heap) (Q : Post) : RunR CP (c43_r3 e) h Q ↔ RunR CP (
  .op (.mv (e 1)) fun t18 =>
  .op (.bin .and t18 (.int .u64 4294967295)) fun t19 =>
  .op (.mv t19) fun t8 =>
  .done (e.upd 8 t8)) h Q := Iff.rfl
def c43_r4 : Env → Reg := fun e =>
  .op (.mv (e 1)) fun t20 =>
  .op (.bin .shr t20 (.int .u64 32)) fun t21 =>
  .op (.mv t21) fun t9 =>
  .done (e.upd 9 t9)
theorem c43_r4_run {CP : CProg} (e : Env) (h : Heap) (Q : Post) : RunR CP (c43_r4 e) h Q ↔ RunR CP (
  .op (.mv (e 1)) fun t20 =>
  .op (.bin .shr t20 (.int .u64 32)) fun t21 =>
  .op (.mv t21) fun t9 =>
  .done (e.upd 9 t9)) h Q := Iff.rfl
def c43_r5 : Env → Reg := fun e =>
  .op (.mv (e 6)) fun t22 =>
  .op (.mv (e 8)) fun t23 =>
  .op (.bin .mul t22 t23) fun t24 =>
  .op (.mv t24) fun t10 =>
  .done (e.upd 10 t10)
theorem c43_r5_run {CP : CProg} (e : Env) (h : Heap) (Q : Post) : RunR CP (c43_r5 e) h Q ↔ RunR CP (
  .op (.mv (e 6)) fun t22 =>
  .op (.mv (e 8)) fun t23 =>
  .op (.bin .mul t22 t23) fun t24 =>
  .op (.mv t24) fun t10 =>
  .done (e.upd 10 t10)) h Q := Iff.rfl
def c43_r6 : Env → Reg := fun e =>
  .op (.mv (e 7)) fun t25 =>
  .op (.mv (e 8)) fun t26 =>
  .op (.bin .mul t25 t26) fun t27 =>
  .op (.mv (e 10)) fun t28 =>
  .op (.bin .shr t28 (.int .u64 32)) fun t29 =>
  .op (.bin .add t27 t29) fun t30 =>
  .op (.mv t30) fun t11 =>
  .done (e.upd 11 t11)
theorem c43_r6_run {CP : CProg} (e : Env) (h : Heap) (Q : Post) : RunR CP (c43_r6 e) h Q ↔ RunR CP (
  .op (.mv (e 7)) fun t25 =>
  .op (.mv (e 8)) fun t26 =>
  .op (.bin .mul t25 t26) fun t27 =>
  .op (.mv (e 10)) fun t28 =>
  .op (.bin .shr t28 (.int .u64 32)) fun t29 =>
  .op (.bin .add t27 t29) fun t30 =>
  .op (.mv t30) fun t11 =>
  .done (e.upd 11 t11)) h Q := Iff.rfl
def c43_r7 : Env → Reg := fun e =>
  .op (.mv (e 11)) fun t31 =>
  .op (.bin .and t31 (.int .u64 4294967295)) fun t32 =>
  .op (.mv t32) fun t12 =>
  .done (e.upd 12 t12)
theorem c43_r7_run {CP : CProg} (e : Env) (h : Heap) (Q : Post) : RunR CP (c43_r7 e) h Q ↔ RunR CP (
  .op (.mv (e 11)) fun t31 =>
  .op (.bin .and t31 (.int .u64 4294967295)) fun t32 =>
  .op (.mv t32) fun t12 =>
  .done (e.upd 12 t12)) h Q := Iff.rfl
def c43_r8 : Env → Reg := fun e =>
  .op (.mv (e 11)) fun t33 =>
  .op (.bin .shr t33 (.int .u64 32)) fun t34 =>
  .op (.mv t34) fun t13 =>
  .done (e.upd 13 t13)
theorem c43_r8_run {CP : CProg} (e : Env) (h : Heap) (Q : Post) : RunR CP (c43_r8 e) h Q ↔ RunR CP (
  .op (.mv (e 11)) fun t33 =>
  .op (.bin .shr t33 (.int .u64 32)) fun t34 =>
  .op (.mv t34) fun t13 =>
  .done (e.upd 13 t13)) h Q := Iff.rfl
def c43_r9 : Env → Reg := fun e =>
  .op (.mv (e 12)) fun t35 =>
  .op (.mv (e 6)) fun t36 =>
  .op (.mv (e 9)) fun t37 =>
  .op (.bin .mul t36 t37) fun t38 =>
  .op (.bin .add t35 t38) fun t39 =>
  .op (.mv t39) fun t12 =>
  .done (e.upd 12 t12)
theorem c43_r9_run {CP : CProg} (e : Env) (h : Heap) (Q : Post) : RunR CP (c43_r9 e) h Q ↔ RunR CP (
  .op (.mv (e 12)) fun t35 =>
  .op (.mv (e 6)) fun t36 =>
  .op (.mv (e 9)) fun t37 =>
  .op (.bin .mul t36 t37) fun t38 =>
  .op (.bin .add t35 t38) fun t39 =>
  .op (.mv t39) fun t12 =>
  .done (e.upd 12 t12)) h Q := Iff.rfl
def c43_r10 : Env → Reg := fun e =>
  .op (.mv (e 7)) fun t40 =>
  .op (.mv (e 9)) fun t41 =>
  .op (.bin .mul t40 t41) fun t42 =>
  .op (.mv (e 13)) fun t43 =>
  .op (.bin .add t42 t43) fun t44 =>
  .op (.mv (e 12)) fun t45 =>
  .op (.bin .shr t45 (.int .u64 32)) fun t46 =>
  .op (.bin .add t44 t46) fun t47 =>
  .op (.mv t47) fun t4 =>
  .done (e.upd 4 t4)
theorem c43_r10_run {CP : CProg} (e : Env) (h : Heap) (Q : Post) : RunR CP (c43_r10 e) h Q ↔ RunR CP (
  .op (.mv (e 7)) fun t40 =>
  .op (.mv (e 9)) fun t41 =>
  .op (.bin .mul t40 t41) fun t42 =>
  .op (.mv (e 13)) fun t43 =>
  .op (.bin .add t42 t43) fun t44 =>
  .op (.mv (e 12)) fun t45 =>
  .op (.bin .shr t45 (.int .u64 32)) fun t46 =>
  .op (.bin .add t44 t46) fun t47 =>
  .op (.mv t47) fun t4 =>
  .done (e.upd 4 t4)) h Q := Iff.rfl
def c43_r11 : Env → Reg := fun e =>
  .op (.mv (e 0)) fun t48 =>
  .op (.mv (e 1)) fun t49 =>
  .op (.bin .mul t48 t49) fun t50 =>
  .op (.mv t50) fun t5 =>
  .done (e.upd 5 t5)
theorem c43_r11_run {CP : CProg} (e : Env) (h : Heap) (Q : Post) : RunR CP (c43_r11 e) h Q ↔ RunR CP (
  .op (.mv (e 0)) fun t48 =>
  .op (.mv (e 1)) fun t49 =>
  .op (.bin .mul t48 t49) fun t50 =>
  .op (.mv t50) fun t5 =>
  .done (e.upd 5 t5)) h Q := Iff.rfl
def c43 : CFn := ⟨(.seq (.region c43_r0) (.seq (.region c43_r1) (.seq (.region c43_r2) (.seq (.region c43_r3) (.seq (.region c43_r4) (.seq (.region c43_r5) (.seq (.region c43_r6) (.seq (.region c43_r7) (.seq (.region c43_r8) (.seq (.region c43_r9) (.seq (.region c43_r10) (.seq (.region c43_r11) .ret)))))))))))), [.t 4, .t 5]⟩
def p43 : Pers := ⟨14, [], 51⟩
-- 44: weighbridge/hash.Place
def c44_r0 : Env → Reg := fun e =>
  .op (.mv (.int .i64 0)) fun t4 =>
  .done (e.upd 4 t4)
theorem c44_r0_run {CP : CProg} (e : Env) (h : Heap) (Q : Post) : RunR CP (c44_r0 e) h Q ↔ RunR CP (
  .op (.mv (.int .i64 0)) fun t4 =>
  .done (e.upd 4 t4)) h Q := Iff.rfl
def c44_r1 : Env → Reg := fun e =>
  .op (.mv (e 1)) fun t7 =>
  .op (.bin .lss t7 (.int .i64 1)) fun t8 =>
  .done (e.upd 8 t8)
theorem c44_r1_run {CP : CProg} (e : Env) (h : Heap) (Q : Post) : RunR CP (c44_r1 e) h Q ↔ RunR CP (
  .op (.mv (e 1)) fun t7 =>
  .op (.bin .lss t7 (.int .i64 1)) fun t8 =>
  .done (e.upd 8 t8)) h Q := Iff.rfl
def c44_r2 : Env → Reg := fun e =>
  .op (.mv (.int .i64 0)) fun t4 =>
  .done (e.upd 4 t4)
theorem c44_r2_run {CP : CProg} (e : Env) (h : Heap) (Q : Post) : RunR CP (c44_r2 e) h Q ↔ RunR CP (
  .op (.mv (.int .i64 0)) fun t4 =>
  .done (e.upd 4 t4)) h Q := Iff.rfl
def c44_r3 : Env → Reg := fun e =>
  .op (.mv (e 0)) fun t10 =>
  .op (.mv (e 1)) fun t11 =>
  .op (.conv .u64 t11) fun t12 =>
  .op (.call 47 [t10, t12, (.int .u64 2305843009213693951)]) fun t13 =>
  .op (.mv t13) fun t9 =>
  .op (.extract t9 0) fun t14 =>
  .op (.extract t9 1) fun t15 =>
  .op (.mv t14) fun t5 =>
  .op (.mv t15) fun t6 =>
  .done ((e.upd 5 t5).upd 6 t6)
theorem c44_r3_run {CP : CProg} (e : Env) (h : Heap) (Q : Post) : RunR CP (c44_r3 e) h Q ↔ RunR CP (
  .op (.mv (e 0)) fun t10 =>
  .op (.mv (e 1)) fun t11 =>
  .op (.conv .u64 t11) fun t12 =>
  .op (.call 47 [t10, t12, (.int .u64 2305843009213693951)]) fun t13 =>
  .op (.mv t13) fun t9 =>
  .op (.extract t9 0) fun t14 =>
  .op (.extract t9 1) fun t15 =>
  .op (.mv t14) fun t5 =>
  .op (.mv t15) fun t6 =>
  .done ((e.upd 5 t5).upd 6 t6)) h Q := Iff.rfl
def c44_r4 : Env → Reg := fun e =>
  .op (.mv (e 5)) fun t16 =>
  .op (.conv .i64 t16) fun t17 =>
  .op (.mv t17) fun t4 =>
  .done (e.upd 4 t4)
theorem c44_r4_run {CP : CProg} (e : Env) (h : Heap) (Q : Post) : RunR CP (c44_r4 e) h Q ↔ RunR CP (
  .op (.mv (e 5)) fun t16 =>
  .op (.conv .i64 t16) fun t17 =>
  .op (.mv t17) fun t4 =>
  .done (e.upd 4 t4)) h Q := Iff.rfl
def c44 : CFn := ⟨(.seq (.region c44_r0) (.seq (.seq (.region c44_r1) (.cond (fun e => e 8) (.seq (.region c44_r2) .ret) .skip)) (.seq (.region c44_r3) (.seq (.region c44_r4) .ret)))), [.t 4]⟩
def p44 : Pers := ⟨7, [8], 18⟩
-- 45: (weighbridge/hash.Row).Of
def c45_r0 : Env → Reg := fun e =>
  .op (.box 63 (e 0)) fun t2 =>
  .op (.mv (.int .u64 0)) fun t4 =>
  .done ((e.upd 2 t2).upd 4 t4)
theorem c45_r0_run {CP : CProg} (e : Env) (h : Heap) (Q : Post) : RunR CP (c45_r0 e) h Q ↔ RunR CP (
  .op (.box 63 (e 0)) fun t2 =>
  .op (.mv (.int .u64 0)) fun t4 =>
  .done ((e.upd 2 t2).upd 4 t4)) h Q := Iff.rfl
def c45_r1 : Env → Reg := fun e =>
  .op (.mv (e 1)) fun t7 =>
  .op (.lenStr t7) fun t8 =>
  .op (.conv .u64 t8) fun t9 =>
  .op (.bin .add t9 (.int .u64 1)) fun t10 =>
  .op (.mv t10) fun t5 =>
  .done (e.upd 5 t5)
theorem c45_r1_run {CP : CProg} (e : Env) (h : Heap) (Q : Post) : RunR CP (c45_r1 e) h Q ↔ RunR CP (
  .op (.mv (e 1)) fun t7 =>
  .op (.lenStr t7) fun t8 =>
  .op (.conv .u64 t8) fun t9 =>
  .op (.bin .add t9 (.int .u64 1)) fun t10 =>
  .op (.mv t10) fun t5 =>
  .done (e.upd 5 t5)) h Q := Iff.rfl
def c45_r2 : Env → Reg := fun e =>
  .op (.mv (.int .i64 0)) fun t6 =>
  .done (e.upd 6 t6)
theorem c45_r2_run {CP : CProg} (e : Env) (h : Heap) (Q : Post) : RunR CP (c45_r2 e) h Q ↔ RunR CP (
  .op (.mv (.int .i64 0)) fun t6 =>
  .done (e.upd 6 t6)) h Q := Iff.rfl
def c45_r3 : Env → Reg := fun e =>
  .op (.mv (e 6)) fun t11 =>
  .op (.mv (e 1)) fun t12 =>
  .op (.lenStr t12) fun t13 =>
  .op (.bin .lss t11 t13) fun t14 =>
  .done (e.upd 14 t14)
theorem c45_r3_run {CP : CProg} (e : Env) (h : Heap) (Q : Post) : RunR CP (c45_r3 e) h Q ↔ RunR CP (
  .op (.mv (e 6)) fun t11 =>
  .op (.mv (e 1)) fun t12 =>
  .op (.lenStr t12) fun t13 =>
  .op (.bin .lss t11 t13) fun t14 =>
  .done (e.upd 14 t14)) h Q := Iff.rfl
def c45_r5_c1 (e : Env) (t20 : Value) (t21 : Value) (t22 : Value) (t23 : Value) : Reg :=
  .op (.bin .add t23 (.int .i64 7)) fun t24 =>
  .op (.mv (e 1)) fun t25 =>
  .op (.lenStr t25) fun t26 =>
  .op (.minmax false [t24, t26]) fun t27 =>
  .op (.sliceStr t21 (some t22) (some t27)) fun t28 =>
  .snap fun h12 =>
  .op (.call 50 [t28]) fun t29 =>
  .snap fun h13 =>
  .op (.call 48 [t20, t29]) fun t30 =>
  .op (.mv t30) fun t5 =>
  .done (e.upd 5 t5)
theorem c45_r5_c1_run {CP : CProg} (e : Env) (t20 : Value) (t21 : Value) (t22 : Value) (t23 : Value) (h : Heap) (Q : Post) : RunR CP (c45_r5_c1 e t20 t21 t22 t23) h Q ↔ RunR CP (
  .op (.bin .add t23 (.int .i64 7)) fun t24 =>
  .op (.mv (e 1)) fun t25 =>
  .op (.lenStr t25) fun t26 =>
  .op (.minmax false [t24, t26]) fun t27 =>
  .op (.sliceStr t21 (some t22) (some t27)) fun t28 =>
  .snap fun h12 =>
  .op (.call 50 [t28]) fun t29 =>
  .snap fun h13 =>
  .op (.call 48 [t20, t29]) fun t30 =>
  .op (.mv t30) fun t5 =>
  .done (e.upd 5 t5)) h Q := Iff.rfl
def c45_r5 : Env → Reg := fun e =>
  .op (.mv (e 5)) fun t17 =>
  .op (.fieldAddr 0 (e 2)) fun t18 =>
  .op (.load none t18) fun t19 =>
  .snap fun h3 =>
  .op (.call 49 [t17, t19]) fun t20 =>
  .op (.mv (e 1)) fun t21 =>
  .op (.mv (e 6)) fun t22 =>
  .op (.mv (e 6)) fun t23 =>
  c45_r5_c1 e t20 t21 t22 t23
theorem c45_r5_run {CP : CProg} (e : Env) (h : Heap) (Q : Post) : RunR CP (c45_r5 e) h Q ↔ RunR CP (
  .op (.mv (e 5)) fun t17 =>
  .op (.fieldAddr 0 (e 2)) fun t18 =>
  .op (.load none t18) fun t19 =>
  .snap fun h3 =>
  .op (.call 49 [t17, t19]) fun t20 =>
  .op (.mv (e 1)) fun t21 =>
  .op (.mv (e 6)) fun t22 =>
  .op (.mv (e 6)) fun t23 =>
  c45_r5_c1 e t20 t21 t22 t23) h Q := Iff.rfl
def c45_r4 : Env → Reg := fun e =>
  .op (.mv (e 6)) fun t15 =>
  .op (.bin .add t15 (.int .i64 7)) fun t16 =>
  .op (.mv t16) fun t6 =>
  .done (e.upd 6 t6)
theorem c45_r4_run {CP : CProg} (e : Env) (h : Heap) (Q : Post) : RunR CP (c45_r4 e) h Q ↔ RunR CP (
  .op (.mv (e 6)) fun t15 =>
  .op (.bin .add t15 (.int .i64 7)) fun t16 =>
  .op (.mv t16) fun t6 =>
  .done (e.upd 6 t6)) h Q := Iff.rfl
def c45_l0 : CC := (.seq (.seq (.region c45_r3) (.cond (fun e => e 14) .skip (.exit 0))) (.seq (.block 1 (.region c45_r5)) (.region c45_r4)))
def c45_r6_c1 (e : Env) (t34 : Value) (t36 : Value) : Reg :=
  .snap fun h6 =>
  .op (.call 48 [t34, t36]) fun t37 =>
  .op (.mv t37) fun t4 =>
  .done (e.upd 4 t4)
theorem c45_r6_c1_run {CP : CProg} (e : Env) (t34 : Value) (t36 : Value) (h : Heap) (Q : Post) : RunR CP (c45_r6_c1 e t34 t36) h Q ↔ RunR CP (
  .snap fun h6 =>
  .op (.call 48 [t34, t36]) fun t37 =>
  .op (.mv t37) fun t4 =>
  .done (e.upd 4 t4)) h Q := Iff.rfl
def c45_r6 : Env → Reg := fun e =>
  .op (.mv (e 5)) fun t31 =>
  .op (.fieldAddr 1 (e 2)) fun t32 =>
  .op (.load none t32) fun t33 =>
  .snap fun h3 =>
  .op (.call 49 [t31, t33]) fun t34 =>
  .op (.fieldAddr 2 (e 2)) fun t35 =>
  .op (.load none t35) fun t36 =>
  .chk none (some h3) (.load none t35) t36 <|
  c45_r6_c1 e t34 t36
theorem c45_r6_run {CP : CProg} (e : Env) (h : Heap) (Q : Post) : RunR CP (c45_r6 e) h Q ↔ RunR CP (
  .op (.mv (e 5)) fun t31 =>
  .op (.fieldAddr 1 (e 2)) fun t32 =>
  .op (.load none t32) fun t33 =>
  .snap fun h3 =>
  .op (.call 49 [t31, t33]) fun t34 =>
  .op (.fieldAddr 2 (e 2)) fun t35 =>
  .op (.load none t35) fun t36 =>
  .chk none (some h3) (.load none t35) t36 <|
  c45_r6_c1 e t34 t36) h Q := Iff.rfl
def c45 : CFn := ⟨(.seq (.region c45_r0) (.seq (.region c45_r1) (.seq (.seq (.region c45_r2) (.block 0 (.loop c45_l0))) (.seq (.region c45_r6) .ret)))), [.t 4]⟩
def p45 : Pers := ⟨7, [14], 38⟩
-- 46: weighbridge/arith.divide
def c46_r0 : Env → Reg := fun e =>
  .op (.mv (.int .u64 0)) fun t6 =>
  .op (.mv (.int .u64 0)) fun t7 =>
  .op (.mv (.bool false)) fun t8 =>
  .done (((e.upd 6 t6).upd 7 t7).upd 8 t8)
theorem c46_r0_run {CP : CProg} (e : Env) (h : Heap) (Q : Post) : RunR CP (c46_r0 e) h Q ↔ RunR CP (
  .op (.mv (.int .u64 0)) fun t6 =>
  .op (.mv (.int .u64 0)) fun t7 =>
  .op (.mv (.bool false)) fun t8 =>
  .done (((e.upd 6 t6).upd 7 t7).upd 8 t8)) h Q := Iff.rfl
def c46_r1 : Env → Reg := fun e =>
  .op (.mv (e 0)) fun t14 =>
  .op (.mv (e 1)) fun t15 =>
  .op (.call 43 [t14, t15]) fun t16 =>
  .op (.mv t16) fun t13 =>
  .op (.extract t13 0) fun t17 =>
  .op (.extract t13 1) fun t18 =>
  .op (.mv t17) fun t9 =>
  .op (.mv t18) fun t10 =>
  .done ((e.upd 9 t9).upd 10 t10)
theorem c46_r1_run {CP : CProg} (e : Env) (h : Heap) (Q : Post) : RunR CP (c46_r1 e) h Q ↔ RunR CP (
  .op (.mv (e 0)) fun t14 =>
  .op (.mv (e 1)) fun t15 =>
  .op (.call 43 [t14, t15]) fun t16 =>
  .op (.mv t16) fun t13 =>
  .op (.extract t13 0) fun t17 =>
  .op (.extract t13 1) fun t18 =>
  .op (.mv t17) fun t9 =>
  .op (.mv t18) fun t10 =>
  .done ((e.upd 9 t9).upd 10 t10)) h Q := Iff.rfl
def c46_r2 : Env → Reg := fun e =>
  .op (.mv (e 2)) fun t19 =>
  .op (.bin .eql t19 (.int .u64 0)) fun t20 =>
  .op (.mv t20) fun t21 =>
  .opg t21 false (.mv (e 9)) fun t22 =>
  .opg t21 false (.mv (e 2)) fun t23 =>
  .opg t21 false (.bin .geq t22 t23) fun t24 =>
  .op (.pick t21 (.bool true) t24) fun t25 =>
  .done (e.upd 25 t25)
theorem c46_r2_run {CP : CProg} (e : Env) (h : Heap) (Q : Post) : RunR CP (c46_r2 e) h Q ↔ RunR CP (
  .op (.mv (e 2)) fun t19 =>
  .op (.bin .eql t19 (.int .u64 0)) fun t20 =>
  .op (.mv t20) fun t21 =>
  .opg t21 false (.mv (e 9)) fun t22 =>
  .opg t21 false (.mv (e 2)) fun t23 =>
  .opg t21 false (.bin .geq t22 t23) fun t24 =>
  .op (.pick t21 (.bool true) t24) fun t25 =>
  .done (e.upd 25 t25)) h Q := Iff.rfl
def c46_r3 : Env → Reg := fun e =>
  .op (.mv (.int .u64 0)) fun t6 =>
  .op (.mv (.int .u64 0)) fun t7 =>
  .op (.mv (.bool false)) fun t8 =>
  .done (((e.upd 6 t6).upd 7 t7).upd 8 t8)
theorem c46_r3_run {CP : CProg} (e : Env) (h : Heap) (Q : Post) : RunR CP (c46_r3 e) h Q ↔ RunR CP (
  .op (.mv (.int .u64 0)) fun t6 =>
  .op (.mv (.int .u64 0)) fun t7 =>
  .op (.mv (.bool false)) fun t8 =>
  .done (((e.upd 6 t6).upd 7 t7).upd 8 t8)) h Q := Iff.rfl
def c46_r4 : Env → Reg := fun e =>
  .op (.mv (e 9)) fun t27 =>
  .op (.mv (e 10)) fun t28 =>
  .op (.mv (e 2)) fun t29 =>
  .op (.call 51 [t27, t28, t29]) fun t30 =>
  .op (.mv t30) fun t26 =>
  .op (.extract t26 0) fun t31 =>
  .op (.extract t26 1) fun t32 =>
  .op (.mv t31) fun t11 =>
  .op (.mv t32) fun t12 =>
  .done ((e.upd 11 t11).upd 12 t12)
theorem c46_r4_run {CP : CProg} (e : Env) (h : Heap) (Q : Post) : RunR CP (c46_r4 e) h Q ↔ RunR CP (
  .op (.mv (e 9)) fun t27 =>
  .op (.mv (e 10)) fun t28 =>
  .op (.mv (e 2)) fun t29 =>
  .op (.call 51 [t27, t28, t29]) fun t30 =>
  .op (.mv t30) fun t26 =>
  .op (.extract t26 0) fun t31 =>
  .op (.extract t26 1) fun t32 =>
  .op (.mv t31) fun t11 =>
  .op (.mv t32) fun t12 =>
  .done ((e.upd 11 t11).upd 12 t12)) h Q := Iff.rfl
def c46_r5 : Env → Reg := fun e =>
  .op (.mv (e 11)) fun t33 =>
  .op (.mv (e 12)) fun t34 =>
  .op (.mv t33) fun t6 =>
  .op (.mv t34) fun t7 =>
  .op (.mv (.bool true)) fun t8 =>
  .done (((e.upd 6 t6).upd 7 t7).upd 8 t8)
theorem c46_r5_run {CP : CProg} (e : Env) (h : Heap) (Q : Post) : RunR CP (c46_r5 e) h Q ↔ RunR CP (
  .op (.mv (e 11)) fun t33 =>
  .op (.mv (e 12)) fun t34 =>
  .op (.mv t33) fun t6 =>
  .op (.mv t34) fun t7 =>
  .op (.mv (.bool true)) fun t8 =>
  .done (((e.upd 6 t6).upd 7 t7).upd 8 t8)) h Q := Iff.rfl
def c46 : CFn := ⟨(.seq (.region c46_r0) (.seq (.region c46_r1) (.seq (.seq (.region c46_r2) (.cond (fun e => e 25) (.seq (.region c46_r3) .ret) .skip)) (.seq (.region c46_r4) (.seq (.region c46_r5) .ret))))), [.t 6, .t 7, .t 8]⟩
def p46 : Pers := ⟨13, [25], 35⟩
-- 47: weighbridge/arith.Down
def c47_r0 : Env → Reg := fun e =>
  .op (.mv (.int .u64 0)) fun t6 =>
  .op (.mv (.bool false)) fun t7 =>
  .done ((e.upd 6 t6).upd 7 t7)
theorem c47_r0_run {CP : CProg} (e : Env) (h : Heap) (Q : Post) : RunR CP (c47_r0 e) h Q ↔ RunR CP (
  .op (.mv (.int .u64 0)) fun t6 =>
  .op (.mv (.bool false)) fun t7 =>
  .done ((e.upd 6 t6).upd 7 t7)) h Q := Iff.rfl
def c47_r1_c1 (e : Env) (t16 : Value) (t17 : Value) (t18 : Value) : Reg :=
  .op (.mv t16) fun t8 =>
  .op (.mv t17) fun t9 =>
  .op (.mv t18) fun t10 =>
  .done (((e.upd 8 t8).upd 9 t9).upd 10 t10)
theorem c47_r1_c1_run {CP : CProg} (e : Env) (t16 : Value) (t17 : Value) (t18 : Value) (h : Heap) (Q : Post) : RunR CP (c47_r1_c1 e t16 t17 t18) h Q ↔ RunR CP (
  .op (.mv t16) fun t8 =>
  .op (.mv t17) fun t9 =>
  .op (.mv t18) fun t10 =>
  .done (((e.upd 8 t8).upd 9 t9).upd 10 t10)) h Q := Iff.rfl
def c47_r1 : Env → Reg := fun e =>
  .op (.mv (e 0)) fun t12 =>
  .op (.mv (e 1)) fun t13 =>
  .op (.mv (e 2)) fun t14 =>
  .op (.call 46 [t12, t13, t14]) fun t15 =>
  .op (.mv t15) fun t11 =>
  .op (.extract t11 0) fun t16 =>
  .op (.extract t11 1) fun t17 =>
  .op (.extract t11 2) fun t18 =>
  c47_r1_c1 e t16 t17 t18
theorem c47_r1_run {CP : CProg} (e : Env) (h : Heap) (Q : Post) : RunR CP (c47_r1 e) h Q ↔ RunR CP (
  .op (.mv (e 0)) fun t12 =>
  .op (.mv (e 1)) fun t13 =>
  .op (.mv (e 2)) fun t14 =>
  .op (.call 46 [t12, t13, t14]) fun t15 =>
  .op (.mv t15) fun t11 =>
  .op (.extract t11 0) fun t16 =>
  .op (.extract t11 1) fun t17 =>
  .op (.extract t11 2) fun t18 =>
  c47_r1_c1 e t16 t17 t18) h Q := Iff.rfl
def c47_r2 : Env → Reg := fun e =>
  .op (.mv (e 8)) fun t19 =>
  .op (.mv (e 10)) fun t20 =>
  .op (.mv t19) fun t6 =>
  .op (.mv t20) fun t7 =>
  .done ((e.upd 6 t6).upd 7 t7)
theorem c47_r2_run {CP : CProg} (e : Env) (h : Heap) (Q : Post) : RunR CP (c47_r2 e) h Q ↔ RunR CP (
  .op (.mv (e 8)) fun t19 =>
  .op (.mv (e 10)) fun t20 =>
  .op (.mv t19) fun t6 =>
  .op (.mv t20) fun t7 =>
  .done ((e.upd 6 t6).upd 7 t7)) h Q := Iff.rfl
def c47 : CFn := ⟨(.seq (.region c47_r0) (.seq (.region c47_r1) (.seq (.region c47_r2) .ret))), [.t 6, .t 7]⟩
def p47 : Pers := ⟨11, [], 21⟩
-- 48: weighbridge/field.Add
def c48_r0 : Env → Reg := fun e =>
  .op (.mv (.int .u64 0)) fun t4 =>
  .done (e.upd 4 t4)
theorem c48_r0_run {CP : CProg} (e : Env) (h : Heap) (Q : Post) : RunR CP (c48_r0 e) h Q ↔ RunR CP (
  .op (.mv (.int .u64 0)) fun t4 =>
  .done (e.upd 4 t4)) h Q := Iff.rfl
def c48_r1 : Env → Reg := fun e =>
  .op (.mv (e 0)) fun t5 =>
  .op (.mv (e 1)) fun t6 =>
  .op (.bin .add t5 t6) fun t7 =>
  .op (.call 25 [t7]) fun t8 =>
  .op (.mv t8) fun t4 =>
  .done (e.upd 4 t4)
theorem c48_r1_run {CP : CProg} (e : Env) (h : Heap) (Q : Post) : RunR CP (c48_r1 e) h Q ↔ RunR CP (
  .op (.mv (e 0)) fun t5 =>
  .op (.mv (e 1)) fun t6 =>
  .op (.bin .add t5 t6) fun t7 =>
  .op (.call 25 [t7]) fun t8 =>
  .op (.mv t8) fun t4 =>
  .done (e.upd 4 t4)) h Q := Iff.rfl
def c48 : CFn := ⟨(.seq (.region c48_r0) (.seq (.region c48_r1) .ret)), [.t 4]⟩
def p48 : Pers := ⟨5, [], 9⟩
-- 49: weighbridge/field.Mul
def c49_r0 : Env → Reg := fun e =>
  .op (.mv (.int .u64 0)) fun t4 =>
  .done (e.upd 4 t4)
theorem c49_r0_run {CP : CProg} (e : Env) (h : Heap) (Q : Post) : RunR CP (c49_r0 e) h Q ↔ RunR CP (
  .op (.mv (.int .u64 0)) fun t4 =>
  .done (e.upd 4 t4)) h Q := Iff.rfl
def c49_r1 : Env → Reg := fun e =>
  .op (.mv (e 0)) fun t8 =>
  .op (.mv (e 1)) fun t9 =>
  .op (.call 43 [t8, t9]) fun t10 =>
  .op (.mv t10) fun t7 =>
  .op (.extract t7 0) fun t11 =>
  .op (.extract t7 1) fun t12 =>
  .op (.mv t11) fun t5 =>
  .op (.mv t12) fun t6 =>
  .done ((e.upd 5 t5).upd 6 t6)
theorem c49_r1_run {CP : CProg} (e : Env) (h : Heap) (Q : Post) : RunR CP (c49_r1 e) h Q ↔ RunR CP (
  .op (.mv (e 0)) fun t8 =>
  .op (.mv (e 1)) fun t9 =>
  .op (.call 43 [t8, t9]) fun t10 =>
  .op (.mv t10) fun t7 =>
  .op (.extract t7 0) fun t11 =>
  .op (.extract t7 1) fun t12 =>
  .op (.mv t11) fun t5 =>
  .op (.mv t12) fun t6 =>
  .done ((e.upd 5 t5).upd 6 t6)) h Q := Iff.rfl
def c49_r2_c1 (e : Env) (t18 : Value) (t20 : Value) : Reg :=
  .op (.bin .rem t20 (.int .u64 2305843009213693951)) fun t21 =>
  .op (.call 48 [t18, t21]) fun t22 =>
  .op (.mv t22) fun t4 =>
  .done (e.upd 4 t4)
theorem c49_r2_c1_run {CP : CProg} (e : Env) (t18 : Value) (t20 : Value) (h : Heap) (Q : Post) : RunR CP (c49_r2_c1 e t18 t20) h Q ↔ RunR CP (
  .op (.bin .rem t20 (.int .u64 2305843009213693951)) fun t21 =>
  .op (.call 48 [t18, t21]) fun t22 =>
  .op (.mv t22) fun t4 =>
  .done (e.upd 4 t4)) h Q := Iff.rfl
def c49_r2 : Env → Reg := fun e =>
  .op (.mv (e 5)) fun t13 =>
  .op (.bin .shl t13 (.int .u64 3)) fun t14 =>
  .op (.mv (e 6)) fun t15 =>
  .op (.bin .shr t15 (.int .u64 61)) fun t16 =>
  .op (.bin .or t14 t16) fun t17 =>
  .op (.call 25 [t17]) fun t18 =>
  .op (.mv (e 6)) fun t19 =>
  .op (.bin .and t19 (.int .u64 2305843009213693951)) fun t20 =>
  c49_r2_c1 e t18 t20
theorem c49_r2_run {CP : CProg} (e : Env) (h : Heap) (Q : Post) : RunR CP (c49_r2 e) h Q ↔ RunR CP (
  .op (.mv (e 5)) fun t13 =>
  .op (.bin .shl t13 (.int .u64 3)) fun t14 =>
  .op (.mv (e 6)) fun t15 =>
  .op (.bin .shr t15 (.int .u64 61)) fun t16 =>
  .op (.bin .or t14 t16) fun t17 =>
  .op (.call 25 [t17]) fun t18 =>
  .op (.mv (e 6)) fun t19 =>
  .op (.bin .and t19 (.int .u64 2305843009213693951)) fun t20 =>
  c49_r2_c1 e t18 t20) h Q := Iff.rfl
def c49 : CFn := ⟨(.seq (.region c49_r0) (.seq (.region c49_r1) (.seq (.region c49_r2) .ret))), [.t 4]⟩
def p49 : Pers := ⟨7, [], 23⟩
-- 50: weighbridge/hash.word
def c50_r0 : Env → Reg := fun e =>
  .op (.mv (.int .u64 0)) fun t2 =>
  .done (e.upd 2 t2)
theorem c50_r0_run {CP : CProg} (e : Env) (h : Heap) (Q : Post) : RunR CP (c50_r0 e) h Q ↔ RunR CP (
  .op (.mv (.int .u64 0)) fun t2 =>
  .done (e.upd 2 t2)) h Q := Iff.rfl
def c50_r1 : Env → Reg := fun e =>
  .op (.mv (.int .u64 0)) fun t3 =>
  .done (e.upd 3 t3)
theorem c50_r1_run {CP : CProg} (e : Env) (h : Heap) (Q : Post) : RunR CP (c50_r1 e) h Q ↔ RunR CP (
  .op (.mv (.int .u64 0)) fun t3 =>
  .done (e.upd 3 t3)) h Q := Iff.rfl
def c50_r2 : Env → Reg := fun e =>
  .op (.mv (e 0)) fun t5 =>
  .op (.lenStr t5) fun t6 =>
  .op (.mv (.int .i64 0)) fun t7 =>
  .done ((e.upd 6 t6).upd 7 t7)
theorem c50_r2_run {CP : CProg} (e : Env) (h : Heap) (Q : Post) : RunR CP (c50_r2 e) h Q ↔ RunR CP (
  .op (.mv (e 0)) fun t5 =>
  .op (.lenStr t5) fun t6 =>
  .op (.mv (.int .i64 0)) fun t7 =>
  .done ((e.upd 6 t6).upd 7 t7)) h Q := Iff.rfl
def c50_r3 : Env → Reg := fun e =>
  .op (.bin .lss (e 7) (e 6)) fun t8 =>
  .done (e.upd 8 t8)
theorem c50_r3_run {CP : CProg} (e : Env) (h : Heap) (Q : Post) : RunR CP (c50_r3 e) h Q ↔ RunR CP (
  .op (.bin .lss (e 7) (e 6)) fun t8 =>
  .done (e.upd 8 t8)) h Q := Iff.rfl
def c50_r4 : Env → Reg := fun e =>
  .op (.mv (e 7)) fun t9 =>
  .op (.mv t9) fun t4 =>
  .done (e.upd 4 t4)
theorem c50_r4_run {CP : CProg} (e : Env) (h : Heap) (Q : Post) : RunR CP (c50_r4 e) h Q ↔ RunR CP (
  .op (.mv (e 7)) fun t9 =>
  .op (.mv t9) fun t4 =>
  .done (e.upd 4 t4)) h Q := Iff.rfl
def c50_r5 : Env → Reg := fun e =>
  .op (.mv (e 3)) fun t10 =>
  .op (.bin .shl t10 (.int .u64 8)) fun t11 =>
  .op (.mv (e 0)) fun t12 =>
  .op (.mv (e 4)) fun t13 =>
  .op (.indexStr t12 t13) fun t14 =>
  .op (.conv .u64 t14) fun t15 =>
  .op (.bin .or t11 t15) fun t16 =>
  .op (.mv t16) fun t3 =>
  .done (e.upd 3 t3)
theorem c50_r5_run {CP : CProg} (e : Env) (h : Heap) (Q : Post) : RunR CP (c50_r5 e) h Q ↔ RunR CP (
  .op (.mv (e 3)) fun t10 =>
  .op (.bin .shl t10 (.int .u64 8)) fun t11 =>
  .op (.mv (e 0)) fun t12 =>
  .op (.mv (e 4)) fun t13 =>
  .op (.indexStr t12 t13) fun t14 =>
  .op (.conv .u64 t14) fun t15 =>
  .op (.bin .or t11 t15) fun t16 =>
  .op (.mv t16) fun t3 =>
  .done (e.upd 3 t3)) h Q := Iff.rfl
def c50_r6 : Env → Reg := fun e =>
  .op (.bin .add (e 7) (.int .i64 1)) fun t17 =>
  .op (.mv t17) fun t7 =>
  .done (e.upd 7 t7)
theorem c50_r6_run {CP : CProg} (e : Env) (h : Heap) (Q : Post) : RunR CP (c50_r6 e) h Q ↔ RunR CP (
  .op (.bin .add (e 7) (.int .i64 1)) fun t17 =>
  .op (.mv t17) fun t7 =>
  .done (e.upd 7 t7)) h Q := Iff.rfl
def c50_l0 : CC := (.seq (.region c50_r3) (.seq (.cond (fun e => e 8) .skip (.exit 0)) (.seq (.block 1 (.seq (.region c50_r4) (.region c50_r5))) (.region c50_r6))))
def c50_r7 : Env → Reg := fun e =>
  .op (.mv (e 3)) fun t18 =>
  .op (.mv t18) fun t2 =>
  .done (e.upd 2 t2)
theorem c50_r7_run {CP : CProg} (e : Env) (h : Heap) (Q : Post) : RunR CP (c50_r7 e) h Q ↔ RunR CP (
  .op (.mv (e 3)) fun t18 =>
  .op (.mv t18) fun t2 =>
  .done (e.upd 2 t2)) h Q := Iff.rfl
def c50 : CFn := ⟨(.seq (.region c50_r0) (.seq (.region c50_r1) (.seq (.seq (.region c50_r2) (.block 0 (.loop c50_l0))) (.seq (.region c50_r7) .ret)))), [.t 2]⟩
def p50 : Pers := ⟨5, [6, 7, 8], 19⟩
-- 51: math/bits.Div64
def c51_r0 : Env → Reg := fun e =>
  .op (.mv (.int .u64 0)) fun t6 =>
  .op (.mv (.int .u64 0)) fun t7 =>
  .done ((e.upd 6 t6).upd 7 t7)
theorem c51_r0_run {CP : CProg} (e : Env) (h : Heap) (Q : Post) : RunR CP (c51_r0 e) h Q ↔ RunR CP (
  .op (.mv (.int .u64 0)) fun t6 =>
  .op (.mv (.int .u64 0)) fun t7 =>
  .done ((e.upd 6 t6).upd 7 t7)) h Q := Iff.rfl
def c51_r1 : Env → Reg := fun e =>
  .op (.mv (e 2)) fun t19 =>
  .op (.bin .eql t19 (.int .u64 0)) fun t20 =>
  .done (e.upd 20 t20)
theorem c51_r1_run {CP : CProg} (e : Env) (h : Heap) (Q : Post) : RunR CP (c51_r1 e) h Q ↔ RunR CP (
  .op (.mv (e 2)) fun t19 =>
  .op (.bin .eql t19 (.int .u64 0)) fun t20 =>
  .done (e.upd 20 t20)) h Q := Iff.rfl
def c51_r2 : Env → Reg := fun e =>
  .op (.load none unk) fun t21 =>
  .op (.bad) fun _ =>
  .done e
theorem c51_r2_run {CP : CProg} (e : Env) (h : Heap) (Q : Post) : RunR CP (c51_r2 e) h Q ↔ RunR CP (
  .op (.load none unk) fun t21 =>
  .op (.bad) fun _ =>
  .done e) h Q := Iff.rfl
def c51_r3 : Env → Reg := fun e =>
  .op (.mv (e 2)) fun t22 =>
  .op (.mv (e 0)) fun t23 =>
  .op (.bin .leq t22 t23) fun t24 =>
  .done (e.upd 24 t24)
theorem c51_r3_run {CP : CProg} (e : Env) (h : Heap) (Q : Post) : RunR CP (c51_r3 e) h Q ↔ RunR CP (
  .op (.mv (e 2)) fun t22 =>
  .op (.mv (e 0)) fun t23 =>
  .op (.bin .leq t22 t23) fun t24 =>
  .done (e.upd 24 t24)) h Q := Iff.rfl
def c51_r4 : Env → Reg := fun e =>
  .op (.load none unk) fun t25 =>
  .op (.bad) fun _ =>
  .done e
theorem c51_r4_run {CP : CProg} (e : Env) (h : Heap) (Q : Post) : RunR CP (c51_r4 e) h Q ↔ RunR CP (
  .op (.load none unk) fun t25 =>
  .op (.bad) fun _ =>
  .done e) h Q := Iff.rfl
def c51_r5 : Env → Reg := fun e =>
  .op (.mv (e 0)) fun t26 =>
  .op (.bin .eql t26 (.int .u64 0)) fun t27 =>
  .done (e.upd 27 t27)
theorem c51_r5_run {CP : CProg} (e : Env) (h : Heap) (Q : Post) : RunR CP (c51_r5 e) h Q ↔ RunR CP (
  .op (.mv (e 0)) fun t26 =>
  .op (.bin .eql t26 (.int .u64 0)) fun t27 =>
  .done (e.upd 27 t27)) h Q := Iff.rfl
def c51_r6 : Env → Reg := fun e =>
  .op (.mv (e 1)) fun t28 =>
  .op (.mv (e 2)) fun t29 =>
  .op (.bin .quo t28 t29) fun t30 =>
  .op (.mv (e 1)) fun t31 =>
  .op (.mv (e 2)) fun t32 =>
  .op (.bin .rem t31 t32) fun t33 =>
  .op (.mv t30) fun t6 =>
  .op (.mv t33) fun t7 =>
  .done ((e.upd 6 t6).upd 7 t7)
theorem c51_r6_run {CP : CProg} (e : Env) (h : Heap) (Q : Post) : RunR CP (c51_r6 e) h Q ↔ RunR CP (
  .op (.mv (e 1)) fun t28 =>
  .op (.mv (e 2)) fun t29 =>
  .op (.bin .quo t28 t29) fun t30 =>
  .op (.mv (e 1)) fun t31 =>
  .op (.mv (e 2)) fun t32 =>
  .op (.bin .rem t31 t32) fun t33 =>
  .op (.mv t30) fun t6 =>
  .op (.mv t33) fun t7 =>
  .done ((e.upd 6 t6).upd 7 t7)) h Q := Iff.rfl
def c51_r7 : Env → Reg := fun e =>
  .op (.mv (e 2)) fun t34 =>
  .op (.call 52 [t34]) fun t35 =>
  .op (.conv .u64 t35) fun t36 =>
  .op (.mv t36) fun t8 =>
  .done (e.upd 8 t8)
theorem c51_r7_run {CP : CProg} (e : Env) (h : Heap) (Q : Post) : RunR CP (c51_r7 e) h Q ↔ RunR CP (
  .op (.mv (e 2)) fun t34 =>
  .op (.call 52 [t34]) fun t35 =>
  .op (.conv .u64 t35) fun t36 =>
  .op (.mv t36) fun t8 =>
  .done (e.upd 8 t8)) h Q := Iff.rfl
def c51_r8 : Env → Reg := fun e =>
  .op (.mv (e 2)) fun t37 =>
  .op (.mv (e 8)) fun t38 =>
  .op (.bin .shl t37 t38) fun t39 =>
  .op (.mv t39) fun t2 =>
  .done (e.upd 2 t2)
theorem c51_r8_run {CP : CProg} (e : Env) (h : Heap) (Q : Post) : RunR CP (c51_r8 e) h Q ↔ RunR CP (
  .op (.mv (e 2)) fun t37 =>
  .op (.mv (e 8)) fun t38 =>
  .op (.bin .shl t37 t38) fun t39 =>
  .op (.mv t39) fun t2 =>
  .done (e.upd 2 t2)) h Q := Iff.rfl
def c51_r9 : Env → Reg := fun e =>
  .op (.mv (e 2)) fun t40 =>
  .op (.bin .shr t40 (.int .u64 32)) fun t41 =>
  .op (.mv t41) fun t9 =>
  .done (e.upd 9 t9)
theorem c51_r9_run {CP : CProg} (e : Env) (h : Heap) (Q : Post) : RunR CP (c51_r9 e) h Q ↔ RunR CP (
  .op (.mv (e 2)) fun t40 =>
  .op (.bin .shr t40 (.int .u64 32)) fun t41 =>
  .op (.mv t41) fun t9 =>
  .done (e.upd 9 t9)) h Q := Iff.rfl
def c51_r10 : Env → Reg := fun e =>
  .op (.mv (e 2)) fun t42 =>
  .op (.bin .and t42 (.int .u64 4294967295)) fun t43 =>
  .op (.mv t43) fun t10 =>
  .done (e.upd 10 t10)
theorem c51_r10_run {CP : CProg} (e : Env) (h : Heap) (Q : Post) : RunR CP (c51_r10 e) h Q ↔ RunR CP (
  .op (.mv (e 2)) fun t42 =>
  .op (.bin .and t42 (.int .u64 4294967295)) fun t43 =>
  .op (.mv t43) fun t10 =>
  .done (e.upd 10 t10)) h Q := Iff.rfl
def c51_r11 : Env → Reg := fun e =>
  .op (.mv (e 0)) fun t44 =>
  .op (.mv (e 8)) fun t45 =>
  .op (.bin .shl t44 t45) fun t46 =>
  .op (.mv (e 1)) fun t47 =>
  .op (.mv (e 8)) fun t48 =>
  .op (.bin .sub (.int .u64 64) t48) fun t49 =>
  .op (.bin .shr t47 t49) fun t50 =>
  .op (.bin .or t46 t50) fun t51 =>
  .op (.mv t51) fun t11 =>
  .done (e.upd 11 t11)
theorem c51_r11_run {CP : CProg} (e : Env) (h : Heap) (Q : Post) : RunR CP (c51_r11 e) h Q ↔ RunR CP (
  .op (.mv (e 0)) fun t44 =>
  .op (.mv (e 8)) fun t45 =>
  .op (.bin .shl t44 t45) fun t46 =>
  .op (.mv (e 1)) fun t47 =>
  .op (.mv (e 8)) fun t48 =>
  .op (.bin .sub (.int .u64 64) t48) fun t49 =>
  .op (.bin .shr t47 t49) fun t50 =>
  .op (.bin .or t46 t50) fun t51 =>
  .op (.mv t51) fun t11 =>
  .done (e.upd 11 t11)) h Q := Iff.rfl
def c51_r12 : Env → Reg := fun e =>
  .op (.mv (e 1)) fun t52 =>
  .op (.mv (e 8)) fun t53 =>
  .op (.bin .shl t52 t53) fun t54 =>
  .op (.mv t54) fun t12 =>
  .done (e.upd 12 t12)
theorem c51_r12_run {CP : CProg} (e : Env) (h : Heap) (Q : Post) : RunR CP (c51_r12 e) h Q ↔ RunR CP (
  .op (.mv (e 1)) fun t52 =>
  .op (.mv (e 8)) fun t53 =>
  .op (.bin .shl t52 t53) fun t54 =>
  .op (.mv t54) fun t12 =>
  .done (e.upd 12 t12)) h Q := Iff.rfl
def c51_r13 : Env → Reg := fun e =>
  .op (.mv (e 12)) fun t55 =>
  .op (.bin .shr t55 (.int .u64 32)) fun t56 =>
  .op (.mv t56) fun t13 =>
  .done (e.upd 13 t13)
theorem c51_r13_run {CP : CProg} (e : Env) (h : Heap) (Q : Post) : RunR CP (c51_r13 e) h Q ↔ RunR CP (
  .op (.mv (e 12)) fun t55 =>
  .op (.bin .shr t55 (.int .u64 32)) fun t56 =>
  .op (.mv t56) fun t13 =>
  .done (e.upd 13 t13)) h Q := Iff.rfl
def c51_r14 : Env → Reg := fun e =>
  .op (.mv (e 12)) fun t57 =>
  .op (.bin .and t57 (.int .u64 4294967295)) fun t58 =>
  .op (.mv t58) fun t14 =>
  .done (e.upd 14 t14)
theorem c51_r14_run {CP : CProg} (e : Env) (h : Heap) (Q : Post) : RunR CP (c51_r14 e) h Q ↔ RunR CP (
  .op (.mv (e 12)) fun t57 =>
  .op (.bin .and t57 (.int .u64 4294967295)) fun t58 =>
  .op (.mv t58) fun t14 =>
  .done (e.upd 14 t14)) h Q := Iff.rfl
def c51_r15 : Env → Reg := fun e =>
  .op (.mv (e 11)) fun t59 =>
  .op (.mv (e 9)) fun t60 =>
  .op (.bin .quo t59 t60) fun t61 =>
  .op (.mv t61) fun t15 =>
  .done (e.upd 15 t15)
theorem c51_r15_run {CP : CProg} (e : Env) (h : Heap) (Q : Post) : RunR CP (c51_r15 e) h Q ↔ RunR CP (
  .op (.mv (e 11)) fun t59 =>
  .op (.mv (e 9)) fun t60 =>
  .op (.bin .quo t59 t60) fun t61 =>
  .op (.mv t61) fun t15 =>
  .done (e.upd 15 t15)) h Q := Iff.rfl
def c51_r16 : Env → Reg := fun e =>
  .op (.mv (e 11)) fun t62 =>
  .op (.mv (e 15)) fun t63 =>
  .op (.mv (e 9)) fun t64 =>
  .op (.bin .mul t63 t64) fun t65 =>
  .op (.bin .sub t62 t65) fun t66 =>
  .op (.mv t66) fun t16 =>
  .done (e.upd 16 t16)
theorem c51_r16_run {CP : CProg} (e : Env) (h : Heap) (Q : Post) : RunR CP (c51_r16 e) h Q ↔ RunR CP (
  .op (.mv (e 11)) fun t62 =>
  .op (.mv (e 15)) fun t63 =>
  .op (.mv (e 9)) fun t64 =>
  .op (.bin .mul t63 t64) fun t65 =>
  .op (.bin .sub t62 t65) fun t66 =>
  .op (.mv t66) fun t16 =>
  .done (e.upd 16 t16)) h Q := Iff.rfl
def c51_r17_c1 (e : Env) (t69 : Value) (t72 : Value) (t74 : Value) : Reg :=
  .opg t69 false (.mv (e 13)) fun t75 =>
  .opg t69 false (.bin .add t74 t75) fun t76 =>
  .opg t69 false (.bin .gtr t72 t76) fun t77 =>
  .op (.pick t69 (.bool true) t77) fun t78 =>
  .done (e.upd 78 t78)
theorem c51_r17_c1_run {CP : CProg} (e : Env) (t69 : Value) (t72 : Value) (t74 : Value) (h : Heap) (Q : Post) : RunR CP (c51_r17_c1 e t69 t72 t74) h Q ↔ RunR CP (
  .opg t69 false (.mv (e 13)) fun t75 =>
  .opg t69 false (.bin .add t74 t75) fun t76 =>
  .opg t69 false (.bin .gtr t72 t76) fun t77 =>
  .op (.pick t69 (.bool true) t77) fun t78 =>
  .done (e.upd 78 t78)) h Q := Iff.rfl
def c51_r17 : Env → Reg := fun e =>
  .op (.mv (e 15)) fun t67 =>
  .op (.bin .geq t67 (.int .u64 4294967296)) fun t68 =>
  .op (.mv t68) fun t69 =>
  .opg t69 false (.mv (e 15)) fun t70 =>
  .opg t69 false (.mv (e 10)) fun t71 =>
  .opg t69 false (.bin .mul t70 t71) fun t72 =>
  .opg t69 false (.mv (e 16)) fun t73 =>
  .opg t69 false (.bin .mul (.int .u64 4294967296) t73) fun t74 =>
  c51_r17_c1 e t69 t72 t74
theorem c51_r17_run {CP : CProg} (e : Env) (h : Heap) (Q : Post) : RunR CP (c51_r17 e) h Q ↔ RunR CP (
  .op (.mv (e 15)) fun t67 =>
  .op (.bin .geq t67 (.int .u64 4294967296)) fun t68 =>
  .op (.mv t68) fun t69 =>
  .opg t69 false (.mv (e 15)) fun t70 =>
  .opg t69 false (.mv (e 10)) fun t71 =>
  .opg t69 false (.bin .mul t70 t71) fun t72 =>
  .opg t69 false (.mv (e 16)) fun t73 =>
  .opg t69 false (.bin .mul (.int .u64 4294967296) t73) fun t74 =>
  c51_r17_c1 e t69 t72 t74) h Q := Iff.rfl
def c51_r18 : Env → Reg := fun e =>
  .op (.mv (e 15)) fun t79 =>
  .op (.bin .sub t79 (.int .u64 1)) fun t80 =>
  .op (.mv t80) fun t15 =>
  .done (e.upd 15 t15)
theorem c51_r18_run {CP : CProg} (e : Env) (h : Heap) (Q : Post) : RunR CP (c51_r18 e) h Q ↔ RunR CP (
  .op (.mv (e 15)) fun t79 =>
  .op (.bin .sub t79 (.int .u64 1)) fun t80 =>
  .op (.mv t80) fun t15 =>
  .done (e.upd 15 t15)) h Q := Iff.rfl
def c51_r19 : Env → Reg := fun e =>
  .op (.mv (e 16)) fun t81 =>
  .op (.mv (e 9)) fun t82 =>
  .op (.bin .add t81 t82) fun t83 =>
  .op (.mv t83) fun t16 =>
  .done (e.upd 16 t16)
theorem c51_r19_run {CP : CProg} (e : Env) (h : Heap) (Q : Post) : RunR CP (c51_r19 e) h Q ↔ RunR CP (
  .op (.mv (e 16)) fun t81 =>
  .op (.mv (e 9)) fun t82 =>
  .op (.bin .add t81 t82) fun t83 =>
  .op (.mv t83) fun t16 =>
  .done (e.upd 16 t16)) h Q := Iff.rfl
def c51_r20 : Env → Reg := fun e =>
  .op (.mv (e 16)) fun t84 =>
  .op (.bin .geq t84 (.int .u64 4294967296)) fun t85 =>
  .done (e.upd 85 t85)
theorem c51_r20_run {CP : CProg} (e : Env) (h : Heap) (Q : Post) : RunR CP (c51_r20 e) h Q ↔ RunR CP (
  .op (.mv (e 16)) fun t84 =>
  .op (.bin .geq t84 (.int .u64 4294967296)) fun t85 =>
  .done (e.upd 85 t85)) h Q := Iff.rfl
def c51_l0 : CC := (.seq (.seq (.region c51_r17) (.cond (fun e => e 78) .skip (.exit 0))) (.block 1 (.seq (.region c51_r18) (.seq (.region c51_r19) (.seq (.region c51_r20) (.cond (fun e => e 85) (.exit 0) .skip))))))
def c51_r21 : Env → Reg := fun e =>
  .op (.mv (e 11)) fun t86 =>
  .op (.bin .mul t86 (.int .u64 4294967296)) fun t87 =>
  .op (.mv (e 13)) fun t88 =>
  .op (.bin .add t87 t88) fun t89 =>
  .op (.mv (e 15)) fun t90 =>
  .op (.mv (e 2)) fun t91 =>
  .op (.bin .mul t90 t91) fun t92 =>
  .op (.bin .sub t89 t92) fun t93 =>
  .op (.mv t93) fun t17 =>
  .done (e.upd 17 t17)
theorem c51_r21_run {CP : CProg} (e : Env) (h : Heap) (Q : Post) : RunR CP (c51_r21 e) h Q ↔ RunR CP (
  .op (.mv (e 11)) fun t86 =>
  .op (.bin .mul t86 (.int .u64 4294967296)) fun t87 =>
  .op (.mv (e 13)) fun t88 =>
  .op (.bin .add t87 t88) fun t89 =>
  .op (.mv (e 15)) fun t90 =>
  .op (.mv (e 2)) fun t91 =>
  .op (.bin .mul t90 t91) fun t92 =>
  .op (.bin .sub t89 t92) fun t93 =>
  .op (.mv t93) fun t17 =>
  .done (e.upd 17 t17)) h Q := Iff.rfl
def c51_r22 : Env → Reg := fun e =>
  .op (.mv (e 17)) fun t94 =>
  .op (.mv (e 9)) fun t95 =>
  .op (.bin .quo t94 t95) fun t96 =>
  .op (.mv t96) fun t18 =>
  .done (e.upd 18 t18)
theorem c51_r22_run {CP : CProg} (e : Env) (h : Heap) (Q : Post) : RunR CP (c51_r22 e) h Q ↔ RunR CP (
  .op (.mv (e 17)) fun t94 =>
  .op (.mv (e 9)) fun t95 =>
  .op (.bin .quo t94 t95) fun t96 =>
  .op (.mv t96) fun t18 =>
  .done (e.upd 18 t18)) h Q := Iff.rfl
def c51_r23 : Env → Reg := fun e =>
  .op (.mv (e 17)) fun t97 =>
  .op (.mv (e 18)) fun t98 =>
  .op (.mv (e 9)) fun t99 =>
  .op (.bin .mul t98 t99) fun t100 =>
  .op (.bin .sub t97 t100) fun t101 =>
  .op (.mv t101) fun t16 =>
  .done (e.upd 16 t16)
theorem c51_r23_run {CP : CProg} (e : Env) (h : Heap) (Q : Post) : RunR CP (c51_r23 e) h Q ↔ RunR CP (
  .op (.mv (e 17)) fun t97 =>
  .op (.mv (e 18)) fun t98 =>
  .op (.mv (e 9)) fun t99 =>
  .op (.bin .mul t98 t99) fun t100 =>
  .op (.bin .sub t97 t100) fun t101 =>
  .op (.mv t101) fun t16 =>
  .done (e.upd 16 t16)) h Q := Iff.rfl
def c51_r24_c1 (e : Env) (t104 : Value) (t107 : Value) (t109 : Value) : Reg :=
  .opg t104 false (.mv (e 14)) fun t110 =>
  .opg t104 false (.bin .add t109 t110) fun t111 =>
  .opg t104 false (.bin .gtr t107 t111) fun t112 =>
  .op (.pick t104 (.bool true) t112) fun t113 =>
  .done (e.upd 113 t113)
theorem c51_r24_c1_run {CP : CProg} (e : Env) (t104 : Value) (t107 : Value) (t109 : Value) (h : Heap) (Q : Post) : RunR CP (c51_r24_c1 e t104 t107 t109) h Q ↔ RunR CP (
  .opg t104 false (.mv (e 14)) fun t110 =>
  .opg t104 false (.bin .add t109 t110) fun t111 =>
  .opg t104 false (.bin .gtr t107 t111) fun t112 =>
  .op (.pick t104 (.bool true) t112) fun t113 =>
  .done (e.upd 113 t113)) h Q := Iff.rfl
def c51_r24 : Env → Reg := fun e =>
  .op (.mv (e 18)) fun t102 =>
  .op (.bin .geq t102 (.int .u64 4294967296)) fun t103 =>
  .op (.mv t103) fun t104 =>
  .opg t104 false (.mv (e 18)) fun t105 =>
  .opg t104 false (.mv (e 10)) fun t106 =>
  .opg t104 false (.bin .mul t105 t106) fun t107 =>
  .opg t104 false (.mv (e 16)) fun t108 =>
  .opg t104 false (.bin .mul (.int .u64 4294967296) t108) fun t109 =>
  c51_r24_c1 e t104 t107 t109
theorem c51_r24_run {CP : CProg} (e : Env) (h : Heap) (Q : Post) : RunR CP (c51_r24 e) h Q ↔ RunR CP (
  .op (.mv (e 18)) fun t102 =>
  .op (.bin .geq t102 (.int .u64 4294967296)) fun t103 =>
  .op (.mv t103) fun t104 =>
  .opg t104 false (.mv (e 18)) fun t105 =>
  .opg t104 false (.mv (e 10)) fun t106 =>
  .opg t104 false (.bin .mul t105 t106) fun t107 =>
  .opg t104 false (.mv (e 16)) fun t108 =>
  .opg t104 false (.bin .mul (.int .u64 4294967296) t108) fun t109 =>
  c51_r24_c1 e t104 t107 t109) h Q := Iff.rfl
def c51_r25 : Env → Reg := fun e =>
  .op (.mv (e 18)) fun t114 =>
  .op (.bin .sub t114 (.int .u64 1)) fun t115 =>
  .op (.mv t115) fun t18 =>
  .done (e.upd 18 t18)
theorem c51_r25_run {CP : CProg} (e : Env) (h : Heap) (Q : Post) : RunR CP (c51_r25 e) h Q ↔ RunR CP (
  .op (.mv (e 18)) fun t114 =>
  .op (.bin .sub t114 (.int .u64 1)) fun t115 =>
  .op (.mv t115) fun t18 =>
  .done (e.upd 18 t18)) h Q := Iff.rfl
def c51_r26 : Env → Reg := fun e =>
  .op (.mv (e 16)) fun t116 =>
  .op (.mv (e 9)) fun t117 =>
  .op (.bin .add t116 t117) fun t118 =>
  .op (.mv t118) fun t16 =>
  .done (e.upd 16 t16)
theorem c51_r26_run {CP : CProg} (e : Env) (h : Heap) (Q : Post) : RunR CP (c51_r26 e) h Q ↔ RunR CP (
  .op (.mv (e 16)) fun t116 =>
  .op (.mv (e 9)) fun t117 =>
  .op (.bin .add t116 t117) fun t118 =>
  .op (.mv t118) fun t16 =>
  .done (e.upd 16 t16)) h Q := Iff.rfl
def c51_r27 : Env → Reg := fun e =>
  .op (.mv (e 16)) fun t119 =>
  .op (.bin .geq t119 (.int .u64 4294967296)) fun t120 =>
  .done (e.upd 120 t120)
theorem c51_r27_run {CP : CProg} (e : Env) (h : Heap) (Q : Post) : RunR CP (c51_r27 e) h Q ↔ RunR CP (
  .op (.mv (e 16)) fun t119 =>
  .op (.bin .geq t119 (.int .u64 4294967296)) fun t120 =>
  .done (e.upd 120 t120)) h Q := Iff.rfl
def c51_l1 : CC := (.seq (.seq (.region c51_r24) (.cond (fun e => e 113) .skip (.exit 2))) (.block 3 (.seq (.region c51_r25) (.seq (.region c51_r26) (.seq (.region c51_r27) (.cond (fun e => e 120) (.exit 2) .skip))))))
def c51_r28_c1 (e : Env) (t124 : Value) (t128 : Value) : Reg :=
  .op (.mv (e 18)) fun t129 =>
  .op (.mv (e 2)) fun t130 =>
  .op (.bin .mul t129 t130) fun t131 =>
  .op (.bin .sub t128 t131) fun t132 =>
  .op (.mv (e 8)) fun t133 =>
  .op (.bin .shr t132 t133) fun t134 =>
  .op (.mv t124) fun t6 =>
  .op (.mv t134) fun t7 =>
  .done ((e.upd 6 t6).upd 7 t7)
theorem c51_r28_c1_run {CP : CProg} (e : Env) (t124 : Value) (t128 : Value) (h : Heap) (Q : Post) : RunR CP (c51_r28_c1 e t124 t128) h Q ↔ RunR CP (
  .op (.mv (e 18)) fun t129 =>
  .op (.mv (e 2)) fun t130 =>
  .op (.bin .mul t129 t130) fun t131 =>
  .op (.bin .sub t128 t131) fun t132 =>
  .op (.mv (e 8)) fun t133 =>
  .op (.bin .shr t132 t133) fun t134 =>
  .op (.mv t124) fun t6 =>
  .op (.mv t134) fun t7 =>
  .done ((e.upd 6 t6).upd 7 t7)) h Q := Iff.rfl
def c51_r28 : Env → Reg := fun e =>
  .op (.mv (e 15)) fun t121 =>
  .op (.bin .mul t121 (.int .u64 4294967296)) fun t122 =>
  .op (.mv (e 18)) fun t123 =>
  .op (.bin .add t122 t123) fun t124 =>
  .op (.mv (e 17)) fun t125 =>
  .op (.bin .mul t125 (.int .u64 4294967296)) fun t126 =>
  .op (.mv (e 14)) fun t127 =>
  .op (.bin .add t126 t127) fun t128 =>
  c51_r28_c1 e t124 t128
theorem c51_r28_run {CP : CProg} (e : Env) (h : Heap) (Q : Post) : RunR CP (c51_r28 e) h Q ↔ RunR CP (
  .op (.mv (e 15)) fun t121 =>
  .op (.bin .mul t121 (.int .u64 4294967296)) fun t122 =>
  .op (.mv (e 18)) fun t123 =>
  .op (.bin .add t122 t123) fun t124 =>
  .op (.mv (e 17)) fun t125 =>
  .op (.bin .mul t125 (.int .u64 4294967296)) fun t126 =>
  .op (.mv (e 14)) fun t127 =>
  .op (.bin .add t126 t127) fun t128 =>
  c51_r28_c1 e t124 t128) h Q := Iff.rfl
def c51 : CFn := ⟨(.seq (.region c51_r0) (.seq (.seq (.region c51_r1) (.cond (fun e => e 20) (.region c51_r2) .skip)) (.seq (.seq (.region c51_r3) (.cond (fun e => e 24) (.region c51_r4) .skip)) (.seq (.seq (.region c51_r5) (.cond (fun e => e 27) (.seq (.region c51_r6) .ret) .skip)) (.seq (.region c51_r7) (.seq (.region c51_r8) (.seq (.region c51_r9) (.seq (.region c51_r10) (.seq (.region c51_r11) (.seq (.region c51_r12) (.seq (.region c51_r13) (.seq (.region c51_r14) (.seq (.region c51_r15) (.seq (.region c51_r16) (.seq (.block 0 (.loop c51_l0)) (.seq (.region c51_r21) (.seq (.region c51_r22) (.seq (.region c51_r23) (.seq (.block 2 (.loop c51_l1)) (.seq (.region c51_r28) .ret)))))))))))))))))))), [.t 6, .t 7]⟩
def p51 : Pers := ⟨19, [20, 24, 27, 78, 85, 113, 120], 135⟩
-- 52: math/bits.LeadingZeros64
def c52_r0 : Env → Reg := fun e =>
  .op (.mv (.int .i64 0)) fun t2 =>
  .done (e.upd 2 t2)
theorem c52_r0_run {CP : CProg} (e : Env) (h : Heap) (Q : Post) : RunR CP (c52_r0 e) h Q ↔ RunR CP (
  .op (.mv (.int .i64 0)) fun t2 =>
  .done (e.upd 2 t2)) h Q := Iff.rfl
def c52_r1 : Env → Reg := fun e =>
  .op (.mv (e 0)) fun t3 =>
  .op (.call 53 [t3]) fun t4 =>
  .op (.bin .sub (.int .i64 64) t4) fun t5 =>
  .op (.mv t5) fun t2 =>
  .done (e.upd 2 t2)
theorem c52_r1_run {CP : CProg} (e : Env) (h : Heap) (Q : Post) : RunR CP (c52_r1 e) h Q ↔ RunR CP (
  .op (.mv (e 0)) fun t3 =>
  .op (.call 53 [t3]) fun t4 =>
  .op (.bin .sub (.int .i64 64) t4) fun t5 =>
  .op (.mv t5) fun t2 =>
  .done (e.upd 2 t2)) h Q := Iff.rfl
def c52 : CFn := ⟨(.seq (.region c52_r0) (.seq (.region c52_r1) .ret)), [.t 2]⟩
def p52 : Pers := ⟨3, [], 6⟩
-- 53: math/bits.Len64
def c53_r0 : Env → Reg := fun e =>
  .op (.mv (.int .i64 0)) fun t2 =>
  .done (e.upd 2 t2)
theorem c53_r0_run {CP : CProg} (e : Env) (h : Heap) (Q : Post) : RunR CP (c53_r0 e) h Q ↔ RunR CP (
  .op (.mv (.int .i64 0)) fun t2 =>
  .done (e.upd 2 t2)) h Q := Iff.rfl
def c53_r1 : Env → Reg := fun e =>
  .op (.mv (e 0)) fun t3 =>
  .op (.bin .geq t3 (.int .u64 4294967296)) fun t4 =>
  .done (e.upd 4 t4)
theorem c53_r1_run {CP : CProg} (e : Env) (h : Heap) (Q : Post) : RunR CP (c53_r1 e) h Q ↔ RunR CP (
  .op (.mv (e 0)) fun t3 =>
  .op (.bin .geq t3 (.int .u64 4294967296)) fun t4 =>
  .done (e.upd 4 t4)) h Q := Iff.rfl
def c53_r2 : Env → Reg := fun e =>
  .op (.mv (e 0)) fun t5 =>
  .op (.bin .shr t5 (.int .u64 32)) fun t6 =>
  .op (.mv t6) fun t0 =>
  .done (e.upd 0 t0)
theorem c53_r2_run {CP : CProg} (e : Env) (h : Heap) (Q : Post) : RunR CP (c53_r2 e) h Q ↔ RunR CP (
  .op (.mv (e 0)) fun t5 =>
  .op (.bin .shr t5 (.int .u64 32)) fun t6 =>
  .op (.mv t6) fun t0 =>
  .done (e.upd 0 t0)) h Q := Iff.rfl
def c53_r3 : Env → Reg := fun e =>
  .op (.mv (.int .i64 32)) fun t2 =>
  .done (e.upd 2 t2)
theorem c53_r3_run {CP : CProg} (e : Env) (h : Heap) (Q : Post) : RunR CP (c53_r3 e) h Q ↔ RunR CP (
  .op (.mv (.int .i64 32)) fun t2 =>
  .done (e.upd 2 t2)) h Q := Iff.rfl
def c53_r4 : Env → Reg := fun e =>
  .op (.mv (e 0)) fun t7 =>
  .op (.bin .geq t7 (.int .u64 65536)) fun t8 =>
  .done (e.upd 8 t8)
theorem c53_r4_run {CP : CProg} (e : Env) (h : Heap) (Q : Post) : RunR CP (c53_r4 e) h Q ↔ RunR CP (
  .op (.mv (e 0)) fun t7 =>
  .op (.bin .geq t7 (.int .u64 65536)) fun t8 =>
  .done (e.upd 8 t8)) h Q := Iff.rfl
def c53_r5 : Env → Reg := fun e =>
  .op (.mv (e 0)) fun t9 =>
  .op (.bin .shr t9 (.int .u64 16)) fun t10 =>
  .op (.mv t10) fun t0 =>
  .done (e.upd 0 t0)
theorem c53_r5_run {CP : CProg} (e : Env) (h : Heap) (Q : Post) : RunR CP (c53_r5 e) h Q ↔ RunR CP (
  .op (.mv (e 0)) fun t9 =>
  .op (.bin .shr t9 (.int .u64 16)) fun t10 =>
  .op (.mv t10) fun t0 =>
  .done (e.upd 0 t0)) h Q := Iff.rfl
def c53_r6 : Env → Reg := fun e =>
  .op (.mv (e 2)) fun t11 =>
  .op (.bin .add t11 (.int .i64 16)) fun t12 =>
  .op (.mv t12) fun t2 =>
  .done (e.upd 2 t2)
theorem c53_r6_run {CP : CProg} (e : Env) (h : Heap) (Q : Post) : RunR CP (c53_r6 e) h Q ↔ RunR CP (
  .op (.mv (e 2)) fun t11 =>
  .op (.bin .add t11 (.int .i64 16)) fun t12 =>
  .op (.mv t12) fun t2 =>
  .done (e.upd 2 t2)) h Q := Iff.rfl
def c53_r7 : Env → Reg := fun e =>
  .op (.mv (e 0)) fun t13 =>
  .op (.bin .geq t13 (.int .u64 256)) fun t14 =>
  .done (e.upd 14 t14)
theorem c53_r7_run {CP : CProg} (e : Env) (h : Heap) (Q : Post) : RunR CP (c53_r7 e) h Q ↔ RunR CP (
  .op (.mv (e 0)) fun t13 =>
  .op (.bin .geq t13 (.int .u64 256)) fun t14 =>
  .done (e.upd 14 t14)) h Q := Iff.rfl
def c53_r8 : Env → Reg := fun e =>
  .op (.mv (e 0)) fun t15 =>
  .op (.bin .shr t15 (.int .u64 8)) fun t16 =>
  .op (.mv t16) fun t0 =>
  .done (e.upd 0 t0)
theorem c53_r8_run {CP : CProg} (e : Env) (h : Heap) (Q : Post) : RunR CP (c53_r8 e) h Q ↔ RunR CP (
  .op (.mv (e 0)) fun t15 =>
  .op (.bin .shr t15 (.int .u64 8)) fun t16 =>
  .op (.mv t16) fun t0 =>
  .done (e.upd 0 t0)) h Q := Iff.rfl
def c53_r9 : Env → Reg := fun e =>
  .op (.mv (e 2)) fun t17 =>
  .op (.bin .add t17 (.int .i64 8)) fun t18 =>
  .op (.mv t18) fun t2 =>
  .done (e.upd 2 t2)
theorem c53_r9_run {CP : CProg} (e : Env) (h : Heap) (Q : Post) : RunR CP (c53_r9 e) h Q ↔ RunR CP (
  .op (.mv (e 2)) fun t17 =>
  .op (.bin .add t17 (.int .i64 8)) fun t18 =>
  .op (.mv t18) fun t2 =>
  .done (e.upd 2 t2)) h Q := Iff.rfl
def c53_r10 : Env → Reg := fun e =>
  .op (.mv (e 2)) fun t19 =>
  .op (.mv (e 0)) fun t20 =>
  .op (.conv .u8 t20) fun t21 =>
  .op (.indexStr (.string big0) t21) fun t22 =>
  .op (.conv .i64 t22) fun t23 =>
  .op (.bin .add t19 t23) fun t24 =>
  .op (.mv t24) fun t2 =>
  .done (e.upd 2 t2)
theorem c53_r10_run {CP : CProg} (e : Env) (h : Heap) (Q : Post) : RunR CP (c53_r10 e) h Q ↔ RunR CP (
  .op (.mv (e 2)) fun t19 =>
  .op (.mv (e 0)) fun t20 =>
  .op (.conv .u8 t20) fun t21 =>
  .op (.indexStr (.string big0) t21) fun t22 =>
  .op (.conv .i64 t22) fun t23 =>
  .op (.bin .add t19 t23) fun t24 =>
  .op (.mv t24) fun t2 =>
  .done (e.upd 2 t2)) h Q := Iff.rfl
def c53 : CFn := ⟨(.seq (.region c53_r0) (.seq (.seq (.region c53_r1) (.cond (fun e => e 4) (.seq (.region c53_r2) (.region c53_r3)) .skip)) (.seq (.seq (.region c53_r4) (.cond (fun e => e 8) (.seq (.region c53_r5) (.region c53_r6)) .skip)) (.seq (.seq (.region c53_r7) (.cond (fun e => e 14) (.seq (.region c53_r8) (.region c53_r9)) .skip)) (.seq (.region c53_r10) .ret))))), [.t 2]⟩
def p53 : Pers := ⟨3, [4, 8, 14], 25⟩
def cp : CProg
  | 3 => some c3
  | 4 => some c4
  | 5 => some c5
  | 6 => some c6
  | 7 => some c7
  | 8 => some c8
  | 9 => some c9
  | 10 => some c10
  | 11 => some c11
  | 12 => some c12
  | 13 => some c13
  | 14 => some c14
  | 15 => some c15
  | 16 => some c16
  | 17 => some c17
  | 18 => some c18
  | 19 => some c19
  | 20 => some c20
  | 21 => some c21
  | 22 => some c22
  | 23 => some c23
  | 24 => some c24
  | 25 => some c25
  | 26 => some c26
  | 27 => some c27
  | 28 => some c28
  | 29 => some c29
  | 30 => some c30
  | 31 => some c31
  | 32 => some c32
  | 33 => some c33
  | 34 => some c34
  | 35 => some c35
  | 36 => some c36
  | 37 => some c37
  | 38 => some c38
  | 39 => some c39
  | 40 => some c40
  | 41 => some c41
  | 42 => some c42
  | 43 => some c43
  | 44 => some c44
  | 45 => some c45
  | 46 => some c46
  | 47 => some c47
  | 48 => some c48
  | 49 => some c49
  | 50 => some c50
  | 51 => some c51
  | 52 => some c52
  | 53 => some c53
  | _ => none
theorem cp3 : cp 3 = some c3 := rfl
theorem cp4 : cp 4 = some c4 := rfl
theorem cp5 : cp 5 = some c5 := rfl
theorem cp6 : cp 6 = some c6 := rfl
theorem cp7 : cp 7 = some c7 := rfl
theorem cp8 : cp 8 = some c8 := rfl
theorem cp9 : cp 9 = some c9 := rfl
theorem cp10 : cp 10 = some c10 := rfl
theorem cp11 : cp 11 = some c11 := rfl
theorem cp12 : cp 12 = some c12 := rfl
theorem cp13 : cp 13 = some c13 := rfl
theorem cp14 : cp 14 = some c14 := rfl
theorem cp15 : cp 15 = some c15 := rfl
theorem cp16 : cp 16 = some c16 := rfl
theorem cp17 : cp 17 = some c17 := rfl
theorem cp18 : cp 18 = some c18 := rfl
theorem cp19 : cp 19 = some c19 := rfl
theorem cp20 : cp 20 = some c20 := rfl
theorem cp21 : cp 21 = some c21 := rfl
theorem cp22 : cp 22 = some c22 := rfl
theorem cp23 : cp 23 = some c23 := rfl
theorem cp24 : cp 24 = some c24 := rfl
theorem cp25 : cp 25 = some c25 := rfl
theorem cp26 : cp 26 = some c26 := rfl
theorem cp27 : cp 27 = some c27 := rfl
theorem cp28 : cp 28 = some c28 := rfl
theorem cp29 : cp 29 = some c29 := rfl
theorem cp30 : cp 30 = some c30 := rfl
theorem cp31 : cp 31 = some c31 := rfl
theorem cp32 : cp 32 = some c32 := rfl
theorem cp33 : cp 33 = some c33 := rfl
theorem cp34 : cp 34 = some c34 := rfl
theorem cp35 : cp 35 = some c35 := rfl
theorem cp36 : cp 36 = some c36 := rfl
theorem cp37 : cp 37 = some c37 := rfl
theorem cp38 : cp 38 = some c38 := rfl
theorem cp39 : cp 39 = some c39 := rfl
theorem cp40 : cp 40 = some c40 := rfl
theorem cp41 : cp 41 = some c41 := rfl
theorem cp42 : cp 42 = some c42 := rfl
theorem cp43 : cp 43 = some c43 := rfl
theorem cp44 : cp 44 = some c44 := rfl
theorem cp45 : cp 45 = some c45 := rfl
theorem cp46 : cp 46 = some c46 := rfl
theorem cp47 : cp 47 = some c47 := rfl
theorem cp48 : cp 48 = some c48 := rfl
theorem cp49 : cp 49 = some c49 := rfl
theorem cp50 : cp 50 = some c50 := rfl
theorem cp51 : cp 51 = some c51 := rfl
theorem cp52 : cp 52 = some c52 := rfl
theorem cp53 : cp 53 = some c53 := rfl
end Go.Proofs.Ytcmdehfbidgoeaa.Can
