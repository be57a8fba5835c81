/- The canonical code of functions of the program, written by a program of this session (wip/can/res.py). No condition. -/
import Derived.Test.YtekojjilbchkgaaCanWp
namespace Go.Proofs.Ytekojjilbchkgaa.Can
open Go
set_option linter.unusedVariables false
def big0 : ByteArray := ⟨#[0, 1, 2, 2, 3, 3, 3, 3, 4, 4, 4, 4, 4, 4, 4, 4, 5, 5, 5, 5, 5, 5, 5, 5, 5, 5, 5, 5, 5, 5, 5, 5, 6, 6, 6, 6, 6, 6, 6, 6, 6, 6, 6, 6, 6, 6, 6, 6, 6, 6, 6, 6, 6, 6, 6, 6, 6, 6, 6, 6, 6, 6, 6, 6, 7, 7, 7, 7, 7, 7, 7, 7, 7, 7, 7, 7, 7, 7, 7, 7, 7, 7, 7, 7, 7, 7, 7, 7, 7, 7, 7, 7, 7, 7, 7, 7, 7, 7, 7, 7, 7, 7, 7, 7, 7, 7, 7, 7, 7, 7, 7, 7, 7, 7, 7, 7, 7, 7, 7, 7, 7, 7, 7, 7, 7, 7, 7, 7, 8, 8, 8, 8, 8, 8, 8, 8, 8, 8, 8, 8, 8, 8, 8, 8, 8, 8, 8, 8, 8, 8, 8, 8, 8, 8, 8, 8, 8, 8, 8, 8, 8, 8, 8, 8, 8, 8, 8, 8, 8, 8, 8, 8, 8, 8, 8, 8, 8, 8, 8, 8, 8, 8, 8, 8, 8, 8, 8, 8, 8, 8, 8, 8, 8, 8, 8, 8, 8, 8, 8, 8, 8, 8, 8, 8, 8, 8, 8, 8, 8, 8, 8, 8, 8, 8, 8, 8, 8, 8, 8, 8, 8, 8, 8, 8, 8, 8, 8, 8, 8, 8, 8, 8, 8, 8, 8, 8, 8, 8, 8, 8, 8, 8, 8, 8, 8, 8, 8, 8, 8, 8, 8, 8, 8, 8, 8, 8]⟩
-- 3: weighbridge/weighbridgelaw20.AuditApart
def c3_r0 : Env → Reg := fun e =>
  .op (.box 24 (e 1)) fun t4 =>
  .op (.mv (.bool false)) fun t6 =>
  .done ((e.upd 4 t4).upd 6 t6)
theorem c3_r0_run {CP : CProg} (e : Env) (h : Heap) (Q : Post) : RunR CP (c3_r0 e) h Q ↔ RunR CP (
  .op (.box 24 (e 1)) fun t4 =>
  .op (.mv (.bool false)) fun t6 =>
  .done ((e.upd 4 t4).upd 6 t6)) h Q := Iff.rfl
def c3_r1 : Env → Reg := fun e =>
  .op (.call 7 []) fun t12 =>
  .op (.un .not t12) fun t13 =>
  .done (e.upd 13 t13)
theorem c3_r1_run {CP : CProg} (e : Env) (h : Heap) (Q : Post) : RunR CP (c3_r1 e) h Q ↔ RunR CP (
  .op (.call 7 []) fun t12 =>
  .op (.un .not t12) fun t13 =>
  .done (e.upd 13 t13)) h Q := Iff.rfl
def c3_r2 : Env → Reg := fun e =>
  .op (.mv (.bool false)) fun t6 =>
  .done (e.upd 6 t6)
theorem c3_r2_run {CP : CProg} (e : Env) (h : Heap) (Q : Post) : RunR CP (c3_r2 e) h Q ↔ RunR CP (
  .op (.mv (.bool false)) fun t6 =>
  .done (e.upd 6 t6)) h Q := Iff.rfl
def c3_r3 : Env → Reg := fun e =>
  .op (.mv (e 0)) fun t14 =>
  .op (.lenSl t14) fun t15 =>
  .op (.bin .gtr t15 (.int .i64 100)) fun t16 =>
  .done (e.upd 16 t16)
theorem c3_r3_run {CP : CProg} (e : Env) (h : Heap) (Q : Post) : RunR CP (c3_r3 e) h Q ↔ RunR CP (
  .op (.mv (e 0)) fun t14 =>
  .op (.lenSl t14) fun t15 =>
  .op (.bin .gtr t15 (.int .i64 100)) fun t16 =>
  .done (e.upd 16 t16)) h Q := Iff.rfl
def c3_r4 : Env → Reg := fun e =>
  .op (.mv (.bool true)) fun t6 =>
  .done (e.upd 6 t6)
theorem c3_r4_run {CP : CProg} (e : Env) (h : Heap) (Q : Post) : RunR CP (c3_r4 e) h Q ↔ RunR CP (
  .op (.mv (.bool true)) fun t6 =>
  .done (e.upd 6 t6)) h Q := Iff.rfl
def c3_r5 : Env → Reg := fun e =>
  .op (.mv (e 0)) fun t17 =>
  .op (.call 8 [t17]) fun t18 =>
  .op (.mv t18) fun t0 =>
  .done (e.upd 0 t0)
theorem c3_r5_run {CP : CProg} (e : Env) (h : Heap) (Q : Post) : RunR CP (c3_r5 e) h Q ↔ RunR CP (
  .op (.mv (e 0)) fun t17 =>
  .op (.call 8 [t17]) fun t18 =>
  .op (.mv t18) fun t0 =>
  .done (e.upd 0 t0)) h Q := Iff.rfl
def c3_r6 : Env → Reg := fun e =>
  .op (.load (some 4) (e 4)) fun t19 =>
  .op (.buildSlice 24 1 [(.int .i64 0), (.string ⟨#[]⟩), (.int .i64 0), (.int .i64 0)] [(0, 4, t19)]) fun t20 =>
  .op (.call 8 [t20]) fun t21 =>
  .op (.indexSl 4 t21 (.int .i64 0)) fun t22 =>
  .op (.load (some 4) t22) fun t23 =>
  .op (.store 4 (e 4) t23) fun _ =>
  .done e
theorem c3_r6_run {CP : CProg} (e : Env) (h : Heap) (Q : Post) : RunR CP (c3_r6 e) h Q ↔ RunR CP (
  .op (.load (some 4) (e 4)) fun t19 =>
  .op (.buildSlice 24 1 [(.int .i64 0), (.string ⟨#[]⟩), (.int .i64 0), (.int .i64 0)] [(0, 4, t19)]) fun t20 =>
  .op (.call 8 [t20]) fun t21 =>
  .op (.indexSl 4 t21 (.int .i64 0)) fun t22 =>
  .op (.load (some 4) t22) fun t23 =>
  .op (.store 4 (e 4) t23) fun _ =>
  .done e) h Q := Iff.rfl
def c3_r7 : Env → Reg := fun e =>
  .op (.mv (e 2)) fun t24 =>
  .op (.bin .and t24 (.int .i64 511)) fun t25 =>
  .op (.mv t25) fun t2 =>
  .done (e.upd 2 t2)
theorem c3_r7_run {CP : CProg} (e : Env) (h : Heap) (Q : Post) : RunR CP (c3_r7 e) h Q ↔ RunR CP (
  .op (.mv (e 2)) fun t24 =>
  .op (.bin .and t24 (.int .i64 511)) fun t25 =>
  .op (.mv t25) fun t2 =>
  .done (e.upd 2 t2)) h Q := Iff.rfl
def c3_r8 : Env → Reg := fun e =>
  .op (.call 9 []) fun t26 =>
  .op (.call 9 []) fun t27 =>
  .op (.mv t26) fun t7 =>
  .op (.mv t27) fun t8 =>
  .done ((e.upd 7 t7).upd 8 t8)
theorem c3_r8_run {CP : CProg} (e : Env) (h : Heap) (Q : Post) : RunR CP (c3_r8 e) h Q ↔ RunR CP (
  .op (.call 9 []) fun t26 =>
  .op (.call 9 []) fun t27 =>
  .op (.mv t26) fun t7 =>
  .op (.mv t27) fun t8 =>
  .done ((e.upd 7 t7).upd 8 t8)) h Q := Iff.rfl
def c3_r9 : Env → Reg := fun e =>
  .op (.fieldAddr 0 (e 4)) fun t28 =>
  .op (.load none t28) fun t29 =>
  .op (.fieldAddr 1 (e 4)) fun t30 =>
  .op (.load none t30) fun t31 =>
  .op (.build [(.int .i64 0), (.string ⟨#[]⟩)] [(0, 1, t29), (1, 1, t31)]) fun t32 =>
  .op (.alloc 30 [(.int .i64 0), (.string ⟨#[]⟩)]) fun t9 =>
  .op (.store 2 t9 t32) fun _ =>
  .done (e.upd 9 t9)
theorem c3_r9_run {CP : CProg} (e : Env) (h : Heap) (Q : Post) : RunR CP (c3_r9 e) h Q ↔ RunR CP (
  .op (.fieldAddr 0 (e 4)) fun t28 =>
  .op (.load none t28) fun t29 =>
  .op (.fieldAddr 1 (e 4)) fun t30 =>
  .op (.load none t30) fun t31 =>
  .op (.build [(.int .i64 0), (.string ⟨#[]⟩)] [(0, 1, t29), (1, 1, t31)]) fun t32 =>
  .op (.alloc 30 [(.int .i64 0), (.string ⟨#[]⟩)]) fun t9 =>
  .op (.store 2 t9 t32) fun _ =>
  .done (e.upd 9 t9)) h Q := Iff.rfl
def c3_r10 : Env → Reg := fun e =>
  .op (.mv (e 0)) fun t33 =>
  .op (.lenSl t33) fun t34 =>
  .op (.mv (.int .i64 0)) fun t35 =>
  .done (((e.upd 33 t33).upd 34 t34).upd 35 t35)
theorem c3_r10_run {CP : CProg} (e : Env) (h : Heap) (Q : Post) : RunR CP (c3_r10 e) h Q ↔ RunR CP (
  .op (.mv (e 0)) fun t33 =>
  .op (.lenSl t33) fun t34 =>
  .op (.mv (.int .i64 0)) fun t35 =>
  .done (((e.upd 33 t33).upd 34 t34).upd 35 t35)) h Q := Iff.rfl
def c3_r11 : Env → Reg := fun e =>
  .op (.bin .lss (e 35) (e 34)) fun t36 =>
  .done (e.upd 36 t36)
theorem c3_r11_run {CP : CProg} (e : Env) (h : Heap) (Q : Post) : RunR CP (c3_r11 e) h Q ↔ RunR CP (
  .op (.bin .lss (e 35) (e 34)) fun t36 =>
  .done (e.upd 36 t36)) h Q := Iff.rfl
def c3_r12 : Env → Reg := fun e =>
  .op (.indexSl 4 (e 33) (e 35)) fun t37 =>
  .op (.load (some 4) t37) fun t38 =>
  .op (.alloc 24 [(.int .i64 0), (.string ⟨#[]⟩), (.int .i64 0), (.int .i64 0)]) fun t11 =>
  .op (.store 4 t11 t38) fun _ =>
  .done (e.upd 11 t11)
theorem c3_r12_run {CP : CProg} (e : Env) (h : Heap) (Q : Post) : RunR CP (c3_r12 e) h Q ↔ RunR CP (
  .op (.indexSl 4 (e 33) (e 35)) fun t37 =>
  .op (.load (some 4) t37) fun t38 =>
  .op (.alloc 24 [(.int .i64 0), (.string ⟨#[]⟩), (.int .i64 0), (.int .i64 0)]) fun t11 =>
  .op (.store 4 t11 t38) fun _ =>
  .done (e.upd 11 t11)) h Q := Iff.rfl
def c3_r13_c1 (e : Env) (t39 : Value) (t44 : Value) (t46 : Value) : Reg :=
  .op (.fieldAddr 3 (e 11)) fun t47 =>
  .op (.load none t47) fun t48 =>
  .op (.call 10 [t39, t44, t46, t48]) fun t49 =>
  .done e
theorem c3_r13_c1_run {CP : CProg} (e : Env) (t39 : Value) (t44 : Value) (t46 : Value) (h : Heap) (Q : Post) : RunR CP (c3_r13_c1 e t39 t44 t46) h Q ↔ RunR CP (
  .op (.fieldAddr 3 (e 11)) fun t47 =>
  .op (.load none t47) fun t48 =>
  .op (.call 10 [t39, t44, t46, t48]) fun t49 =>
  .done e) h Q := Iff.rfl
def c3_r13 : Env → Reg := fun e =>
  .op (.mv (e 7)) fun t39 =>
  .op (.fieldAddr 0 (e 11)) fun t40 =>
  .op (.load none t40) fun t41 =>
  .op (.fieldAddr 1 (e 11)) fun t42 =>
  .op (.load none t42) fun t43 =>
  .op (.build [(.int .i64 0), (.string ⟨#[]⟩)] [(0, 1, t41), (1, 1, t43)]) fun t44 =>
  .op (.fieldAddr 2 (e 11)) fun t45 =>
  .op (.load none t45) fun t46 =>
  c3_r13_c1 e t39 t44 t46
theorem c3_r13_run {CP : CProg} (e : Env) (h : Heap) (Q : Post) : RunR CP (c3_r13 e) h Q ↔ RunR CP (
  .op (.mv (e 7)) fun t39 =>
  .op (.fieldAddr 0 (e 11)) fun t40 =>
  .op (.load none t40) fun t41 =>
  .op (.fieldAddr 1 (e 11)) fun t42 =>
  .op (.load none t42) fun t43 =>
  .op (.build [(.int .i64 0), (.string ⟨#[]⟩)] [(0, 1, t41), (1, 1, t43)]) fun t44 =>
  .op (.fieldAddr 2 (e 11)) fun t45 =>
  .op (.load none t45) fun t46 =>
  c3_r13_c1 e t39 t44 t46) h Q := Iff.rfl
def c3_r14_c1 (e : Env) (t55 : Value) (t57 : Value) : Reg :=
  .opg t55 true (.fieldAddr 1 (e 4)) fun t58 =>
  .opg t55 true (.load none t58) fun t59 =>
  .opg t55 true (.bin .eql t57 t59) fun t60 =>
  .op (.pick t55 t60 (.bool false)) fun t61 =>
  .done (e.upd 61 t61)
theorem c3_r14_c1_run {CP : CProg} (e : Env) (t55 : Value) (t57 : Value) (h : Heap) (Q : Post) : RunR CP (c3_r14_c1 e t55 t57) h Q ↔ RunR CP (
  .opg t55 true (.fieldAddr 1 (e 4)) fun t58 =>
  .opg t55 true (.load none t58) fun t59 =>
  .opg t55 true (.bin .eql t57 t59) fun t60 =>
  .op (.pick t55 t60 (.bool false)) fun t61 =>
  .done (e.upd 61 t61)) h Q := Iff.rfl
def c3_r14 : Env → Reg := fun e =>
  .op (.fieldAddr 0 (e 11)) fun t50 =>
  .op (.load none t50) fun t51 =>
  .op (.fieldAddr 0 (e 4)) fun t52 =>
  .op (.load none t52) fun t53 =>
  .op (.bin .eql t51 t53) fun t54 =>
  .op (.mv t54) fun t55 =>
  .opg t55 true (.fieldAddr 1 (e 11)) fun t56 =>
  .opg t55 true (.load none t56) fun t57 =>
  c3_r14_c1 e t55 t57
theorem c3_r14_run {CP : CProg} (e : Env) (h : Heap) (Q : Post) : RunR CP (c3_r14 e) h Q ↔ RunR CP (
  .op (.fieldAddr 0 (e 11)) fun t50 =>
  .op (.load none t50) fun t51 =>
  .op (.fieldAddr 0 (e 4)) fun t52 =>
  .op (.load none t52) fun t53 =>
  .op (.bin .eql t51 t53) fun t54 =>
  .op (.mv t54) fun t55 =>
  .opg t55 true (.fieldAddr 1 (e 11)) fun t56 =>
  .opg t55 true (.load none t56) fun t57 =>
  c3_r14_c1 e t55 t57) h Q := Iff.rfl
def c3_r15 : Env → Reg := fun e =>
  .op (.mv (e 8)) fun t62 =>
  .op (.load (some 2) (e 9)) fun t63 =>
  .op (.fieldAddr 2 (e 11)) fun t64 =>
  .op (.load none t64) fun t65 =>
  .op (.fieldAddr 3 (e 11)) fun t66 =>
  .op (.load none t66) fun t67 =>
  .op (.call 10 [t62, t63, t65, t67]) fun t68 =>
  .done e
theorem c3_r15_run {CP : CProg} (e : Env) (h : Heap) (Q : Post) : RunR CP (c3_r15 e) h Q ↔ RunR CP (
  .op (.mv (e 8)) fun t62 =>
  .op (.load (some 2) (e 9)) fun t63 =>
  .op (.fieldAddr 2 (e 11)) fun t64 =>
  .op (.load none t64) fun t65 =>
  .op (.fieldAddr 3 (e 11)) fun t66 =>
  .op (.load none t66) fun t67 =>
  .op (.call 10 [t62, t63, t65, t67]) fun t68 =>
  .done e) h Q := Iff.rfl
def c3_r16 : Env → Reg := fun e =>
  .op (.bin .add (e 35) (.int .i64 1)) fun t69 =>
  .op (.mv t69) fun t35 =>
  .done (e.upd 35 t35)
theorem c3_r16_run {CP : CProg} (e : Env) (h : Heap) (Q : Post) : RunR CP (c3_r16 e) h Q ↔ RunR CP (
  .op (.bin .add (e 35) (.int .i64 1)) fun t69 =>
  .op (.mv t69) fun t35 =>
  .done (e.upd 35 t35)) h Q := Iff.rfl
def c3_l0 : CC := (.seq (.region c3_r11) (.seq (.cond (fun e => e 36) .skip (.exit 0)) (.seq (.block 1 (.seq (.region c3_r12) (.seq (.region c3_r13) (.seq (.region c3_r14) (.cond (fun e => e 61) (.region c3_r15) .skip))))) (.region c3_r16))))
def c3_r17_c4 (e : Env) (t88 : Value) (h22 : Heap) (t92 : Value) (t93 : Value) (t94 : Value) : Reg :=
  .chk (some (t88, true)) (some h22) (.load (some 2) (e 9)) t94 <|
  .opg t88 true (.mv (e 2)) fun t95 =>
  .opg t88 true (.bin .add t95 (.int .i64 1)) fun t96 =>
  .snap fun h27 =>
  .opg t88 true (.call 11 [t93, t94, t96]) fun t97 =>
  .opg t88 true (.bin .leq t92 t97) fun t98 =>
  .op (.pick t88 t98 (.bool false)) fun t99 =>
  .op (.mv t99) fun t6 =>
  .done (e.upd 6 t6)
theorem c3_r17_c4_run {CP : CProg} (e : Env) (t88 : Value) (h22 : Heap) (t92 : Value) (t93 : Value) (t94 : Value) (h : Heap) (Q : Post) : RunR CP (c3_r17_c4 e t88 h22 t92 t93 t94) h Q ↔ RunR CP (
  .chk (some (t88, true)) (some h22) (.load (some 2) (e 9)) t94 <|
  .opg t88 true (.mv (e 2)) fun t95 =>
  .opg t88 true (.bin .add t95 (.int .i64 1)) fun t96 =>
  .snap fun h27 =>
  .opg t88 true (.call 11 [t93, t94, t96]) fun t97 =>
  .opg t88 true (.bin .leq t92 t97) fun t98 =>
  .op (.pick t88 t98 (.bool false)) fun t99 =>
  .op (.mv t99) fun t6 =>
  .done (e.upd 6 t6)) h Q := Iff.rfl
def c3_r17_c3 (e : Env) (t87 : Value) : Reg :=
  .op (.mv t87) fun t88 =>
  .opg t88 true (.mv (e 7)) fun t89 =>
  .opg t88 true (.load (some 2) (e 9)) fun t90 =>
  .opg t88 true (.mv (e 2)) fun t91 =>
  .snap fun h22 =>
  .opg t88 true (.call 11 [t89, t90, t91]) fun t92 =>
  .opg t88 true (.mv (e 7)) fun t93 =>
  .opg t88 true (.load (some 2) (e 9)) fun t94 =>
  c3_r17_c4 e t88 h22 t92 t93 t94
theorem c3_r17_c3_run {CP : CProg} (e : Env) (t87 : Value) (h : Heap) (Q : Post) : RunR CP (c3_r17_c3 e t87) h Q ↔ RunR CP (
  .op (.mv t87) fun t88 =>
  .opg t88 true (.mv (e 7)) fun t89 =>
  .opg t88 true (.load (some 2) (e 9)) fun t90 =>
  .opg t88 true (.mv (e 2)) fun t91 =>
  .snap fun h22 =>
  .opg t88 true (.call 11 [t89, t90, t91]) fun t92 =>
  .opg t88 true (.mv (e 7)) fun t93 =>
  .opg t88 true (.load (some 2) (e 9)) fun t94 =>
  c3_r17_c4 e t88 h22 t92 t93 t94) h Q := Iff.rfl
def c3_r17_c2 (e : Env) (t79 : Value) (t80 : Value) (t81 : Value) (h12 : Heap) : Reg :=
  .opg t79 true (.call 12 [t80, t81, (.int .i64 0), (.int .i64 2000)]) fun t82 =>
  .opg t79 true (.mv (e 8)) fun t83 =>
  .opg t79 true (.load (some 2) (e 9)) fun t84 =>
  .chk (some (t79, true)) (some h12) (.load (some 2) (e 9)) t84 <|
  .snap fun h15 =>
  .opg t79 true (.call 12 [t83, t84, (.int .i64 0), (.int .i64 2000)]) fun t85 =>
  .opg t79 true (.bin .eql t82 t85) fun t86 =>
  .op (.pick t79 t86 (.bool false)) fun t87 =>
  c3_r17_c3 e t87
theorem c3_r17_c2_run {CP : CProg} (e : Env) (t79 : Value) (t80 : Value) (t81 : Value) (h12 : Heap) (h : Heap) (Q : Post) : RunR CP (c3_r17_c2 e t79 t80 t81 h12) h Q ↔ RunR CP (
  .opg t79 true (.call 12 [t80, t81, (.int .i64 0), (.int .i64 2000)]) fun t82 =>
  .opg t79 true (.mv (e 8)) fun t83 =>
  .opg t79 true (.load (some 2) (e 9)) fun t84 =>
  .chk (some (t79, true)) (some h12) (.load (some 2) (e 9)) t84 <|
  .snap fun h15 =>
  .opg t79 true (.call 12 [t83, t84, (.int .i64 0), (.int .i64 2000)]) fun t85 =>
  .opg t79 true (.bin .eql t82 t85) fun t86 =>
  .op (.pick t79 t86 (.bool false)) fun t87 =>
  c3_r17_c3 e t87) h Q := Iff.rfl
def c3_r17_c1 (e : Env) (t73 : Value) (t74 : Value) (t75 : Value) : Reg :=
  .op (.mv (e 2)) fun t76 =>
  .snap fun h7 =>
  .op (.call 11 [t74, t75, t76]) fun t77 =>
  .op (.bin .eql t73 t77) fun t78 =>
  .op (.mv t78) fun t79 =>
  .opg t79 true (.mv (e 7)) fun t80 =>
  .opg t79 true (.load (some 2) (e 9)) fun t81 =>
  .snap fun h12 =>
  c3_r17_c2 e t79 t80 t81 h12
theorem c3_r17_c1_run {CP : CProg} (e : Env) (t73 : Value) (t74 : Value) (t75 : Value) (h : Heap) (Q : Post) : RunR CP (c3_r17_c1 e t73 t74 t75) h Q ↔ RunR CP (
  .op (.mv (e 2)) fun t76 =>
  .snap fun h7 =>
  .op (.call 11 [t74, t75, t76]) fun t77 =>
  .op (.bin .eql t73 t77) fun t78 =>
  .op (.mv t78) fun t79 =>
  .opg t79 true (.mv (e 7)) fun t80 =>
  .opg t79 true (.load (some 2) (e 9)) fun t81 =>
  .snap fun h12 =>
  c3_r17_c2 e t79 t80 t81 h12) h Q := Iff.rfl
def c3_r17 : Env → Reg := fun e =>
  .op (.mv (e 7)) fun t70 =>
  .op (.load (some 2) (e 9)) fun t71 =>
  .op (.mv (e 2)) fun t72 =>
  .snap fun h3 =>
  .op (.call 11 [t70, t71, t72]) fun t73 =>
  .op (.mv (e 8)) fun t74 =>
  .op (.load (some 2) (e 9)) fun t75 =>
  .chk none (some h3) (.load (some 2) (e 9)) t75 <|
  c3_r17_c1 e t73 t74 t75
theorem c3_r17_run {CP : CProg} (e : Env) (h : Heap) (Q : Post) : RunR CP (c3_r17 e) h Q ↔ RunR CP (
  .op (.mv (e 7)) fun t70 =>
  .op (.load (some 2) (e 9)) fun t71 =>
  .op (.mv (e 2)) fun t72 =>
  .snap fun h3 =>
  .op (.call 11 [t70, t71, t72]) fun t73 =>
  .op (.mv (e 8)) fun t74 =>
  .op (.load (some 2) (e 9)) fun t75 =>
  .chk none (some h3) (.load (some 2) (e 9)) t75 <|
  c3_r17_c1 e t73 t74 t75) h Q := Iff.rfl
def c3 : CFn := ⟨(.seq (.region c3_r0) (.seq (.seq (.region c3_r1) (.cond (fun e => e 13) (.seq (.region c3_r2) .ret) .skip)) (.seq (.seq (.region c3_r3) (.cond (fun e => e 16) (.seq (.region c3_r4) .ret) .skip)) (.seq (.region c3_r5) (.seq (.region c3_r6) (.seq (.region c3_r7) (.seq (.region c3_r8) (.seq (.region c3_r9) (.seq (.seq (.region c3_r10) (.block 0 (.loop c3_l0))) (.seq (.region c3_r17) .ret)))))))))), [.t 6]⟩
def p3 : Pers := ⟨12, [13, 16, 33, 34, 35, 36, 61], 100⟩
-- 4: weighbridge/weighbridgelaw20.AuditSums
def c4_r0 : Env → Reg := fun e =>
  .op (.mv (.bool false)) fun t6 =>
  .done (e.upd 6 t6)
theorem c4_r0_run {CP : CProg} (e : Env) (h : Heap) (Q : Post) : RunR CP (c4_r0 e) h Q ↔ RunR CP (
  .op (.mv (.bool false)) fun t6 =>
  .done (e.upd 6 t6)) h Q := Iff.rfl
def c4_r1 : Env → Reg := fun e =>
  .op (.call 7 []) fun t15 =>
  .op (.un .not t15) fun t16 =>
  .done (e.upd 16 t16)
theorem c4_r1_run {CP : CProg} (e : Env) (h : Heap) (Q : Post) : RunR CP (c4_r1 e) h Q ↔ RunR CP (
  .op (.call 7 []) fun t15 =>
  .op (.un .not t15) fun t16 =>
  .done (e.upd 16 t16)) h Q := Iff.rfl
def c4_r2 : Env → Reg := fun e =>
  .op (.mv (.bool false)) fun t6 =>
  .done (e.upd 6 t6)
theorem c4_r2_run {CP : CProg} (e : Env) (h : Heap) (Q : Post) : RunR CP (c4_r2 e) h Q ↔ RunR CP (
  .op (.mv (.bool false)) fun t6 =>
  .done (e.upd 6 t6)) h Q := Iff.rfl
def c4_r3 : Env → Reg := fun e =>
  .op (.mv (e 0)) fun t17 =>
  .op (.lenSl t17) fun t18 =>
  .op (.bin .gtr t18 (.int .i64 200)) fun t19 =>
  .done (e.upd 19 t19)
theorem c4_r3_run {CP : CProg} (e : Env) (h : Heap) (Q : Post) : RunR CP (c4_r3 e) h Q ↔ RunR CP (
  .op (.mv (e 0)) fun t17 =>
  .op (.lenSl t17) fun t18 =>
  .op (.bin .gtr t18 (.int .i64 200)) fun t19 =>
  .done (e.upd 19 t19)) h Q := Iff.rfl
def c4_r4 : Env → Reg := fun e =>
  .op (.mv (.bool true)) fun t6 =>
  .done (e.upd 6 t6)
theorem c4_r4_run {CP : CProg} (e : Env) (h : Heap) (Q : Post) : RunR CP (c4_r4 e) h Q ↔ RunR CP (
  .op (.mv (.bool true)) fun t6 =>
  .done (e.upd 6 t6)) h Q := Iff.rfl
def c4_r5 : Env → Reg := fun e =>
  .op (.mv (e 0)) fun t20 =>
  .op (.call 8 [t20]) fun t21 =>
  .op (.mv t21) fun t0 =>
  .done (e.upd 0 t0)
theorem c4_r5_run {CP : CProg} (e : Env) (h : Heap) (Q : Post) : RunR CP (c4_r5 e) h Q ↔ RunR CP (
  .op (.mv (e 0)) fun t20 =>
  .op (.call 8 [t20]) fun t21 =>
  .op (.mv t21) fun t0 =>
  .done (e.upd 0 t0)) h Q := Iff.rfl
def c4_r6 : Env → Reg := fun e =>
  .op (.mv (e 1)) fun t22 =>
  .op (.bin .and t22 (.int .i64 1023)) fun t23 =>
  .op (.mv (e 2)) fun t24 =>
  .op (.bin .and t24 (.int .i64 1023)) fun t25 =>
  .op (.mv t23) fun t1 =>
  .op (.mv t25) fun t2 =>
  .done ((e.upd 1 t1).upd 2 t2)
theorem c4_r6_run {CP : CProg} (e : Env) (h : Heap) (Q : Post) : RunR CP (c4_r6 e) h Q ↔ RunR CP (
  .op (.mv (e 1)) fun t22 =>
  .op (.bin .and t22 (.int .i64 1023)) fun t23 =>
  .op (.mv (e 2)) fun t24 =>
  .op (.bin .and t24 (.int .i64 1023)) fun t25 =>
  .op (.mv t23) fun t1 =>
  .op (.mv t25) fun t2 =>
  .done ((e.upd 1 t1).upd 2 t2)) h Q := Iff.rfl
def c4_r7 : Env → Reg := fun e =>
  .op (.call 9 []) fun t26 =>
  .op (.mv t26) fun t7 =>
  .done (e.upd 7 t7)
theorem c4_r7_run {CP : CProg} (e : Env) (h : Heap) (Q : Post) : RunR CP (c4_r7 e) h Q ↔ RunR CP (
  .op (.call 9 []) fun t26 =>
  .op (.mv t26) fun t7 =>
  .done (e.upd 7 t7)) h Q := Iff.rfl
def c4_r8 : Env → Reg := fun e =>
  .op (.makeMap) fun t27 =>
  .op (.mv t27) fun t8 =>
  .done (e.upd 8 t8)
theorem c4_r8_run {CP : CProg} (e : Env) (h : Heap) (Q : Post) : RunR CP (c4_r8 e) h Q ↔ RunR CP (
  .op (.makeMap) fun t27 =>
  .op (.mv t27) fun t8 =>
  .done (e.upd 8 t8)) h Q := Iff.rfl
def c4_r9 : Env → Reg := fun e =>
  .op (.mv (e 0)) fun t28 =>
  .op (.lenSl t28) fun t29 =>
  .op (.mv (.int .i64 0)) fun t30 =>
  .done (((e.upd 28 t28).upd 29 t29).upd 30 t30)
theorem c4_r9_run {CP : CProg} (e : Env) (h : Heap) (Q : Post) : RunR CP (c4_r9 e) h Q ↔ RunR CP (
  .op (.mv (e 0)) fun t28 =>
  .op (.lenSl t28) fun t29 =>
  .op (.mv (.int .i64 0)) fun t30 =>
  .done (((e.upd 28 t28).upd 29 t29).upd 30 t30)) h Q := Iff.rfl
def c4_r10 : Env → Reg := fun e =>
  .op (.bin .lss (e 30) (e 29)) fun t31 =>
  .done (e.upd 31 t31)
theorem c4_r10_run {CP : CProg} (e : Env) (h : Heap) (Q : Post) : RunR CP (c4_r10 e) h Q ↔ RunR CP (
  .op (.bin .lss (e 30) (e 29)) fun t31 =>
  .done (e.upd 31 t31)) h Q := Iff.rfl
def c4_r11 : Env → Reg := fun e =>
  .op (.indexSl 4 (e 28) (e 30)) fun t32 =>
  .op (.load (some 4) t32) fun t33 =>
  .op (.alloc 24 [(.int .i64 0), (.string ⟨#[]⟩), (.int .i64 0), (.int .i64 0)]) fun t10 =>
  .op (.store 4 t10 t33) fun _ =>
  .done (e.upd 10 t10)
theorem c4_r11_run {CP : CProg} (e : Env) (h : Heap) (Q : Post) : RunR CP (c4_r11 e) h Q ↔ RunR CP (
  .op (.indexSl 4 (e 28) (e 30)) fun t32 =>
  .op (.load (some 4) t32) fun t33 =>
  .op (.alloc 24 [(.int .i64 0), (.string ⟨#[]⟩), (.int .i64 0), (.int .i64 0)]) fun t10 =>
  .op (.store 4 t10 t33) fun _ =>
  .done (e.upd 10 t10)) h Q := Iff.rfl
def c4_r12 : Env → Reg := fun e =>
  .op (.fieldAddr 0 (e 10)) fun t34 =>
  .op (.load none t34) fun t35 =>
  .op (.fieldAddr 1 (e 10)) fun t36 =>
  .op (.load none t36) fun t37 =>
  .op (.build [(.int .i64 0), (.string ⟨#[]⟩)] [(0, 1, t35), (1, 1, t37)]) fun t38 =>
  .op (.alloc 30 [(.int .i64 0), (.string ⟨#[]⟩)]) fun t11 =>
  .op (.store 2 t11 t38) fun _ =>
  .done (e.upd 11 t11)
theorem c4_r12_run {CP : CProg} (e : Env) (h : Heap) (Q : Post) : RunR CP (c4_r12 e) h Q ↔ RunR CP (
  .op (.fieldAddr 0 (e 10)) fun t34 =>
  .op (.load none t34) fun t35 =>
  .op (.fieldAddr 1 (e 10)) fun t36 =>
  .op (.load none t36) fun t37 =>
  .op (.build [(.int .i64 0), (.string ⟨#[]⟩)] [(0, 1, t35), (1, 1, t37)]) fun t38 =>
  .op (.alloc 30 [(.int .i64 0), (.string ⟨#[]⟩)]) fun t11 =>
  .op (.store 2 t11 t38) fun _ =>
  .done (e.upd 11 t11)) h Q := Iff.rfl
def c4_r13 : Env → Reg := fun e =>
  .op (.mv (e 7)) fun t39 =>
  .op (.load (some 2) (e 11)) fun t40 =>
  .op (.fieldAddr 2 (e 10)) fun t41 =>
  .op (.load none t41) fun t42 =>
  .op (.fieldAddr 3 (e 10)) fun t43 =>
  .op (.load none t43) fun t44 =>
  .op (.call 10 [t39, t40, t42, t44]) fun t45 =>
  .done e
theorem c4_r13_run {CP : CProg} (e : Env) (h : Heap) (Q : Post) : RunR CP (c4_r13 e) h Q ↔ RunR CP (
  .op (.mv (e 7)) fun t39 =>
  .op (.load (some 2) (e 11)) fun t40 =>
  .op (.fieldAddr 2 (e 10)) fun t41 =>
  .op (.load none t41) fun t42 =>
  .op (.fieldAddr 3 (e 10)) fun t43 =>
  .op (.load none t43) fun t44 =>
  .op (.call 10 [t39, t40, t42, t44]) fun t45 =>
  .done e) h Q := Iff.rfl
def c4_r14 : Env → Reg := fun e =>
  .op (.mv (e 8)) fun t46 =>
  .op (.load (some 2) (e 11)) fun t47 =>
  .op (.lookup (.agg [.int, .str]) (.int .i64 0) false t46 t47) fun t48 =>
  .op (.bin .add t48 (.int .i64 0)) fun t49 =>
  .snap fun h4 =>
  .op (.mapEntry (.agg [.int, .str]) (.int .i64 0) t46 t47) fun t50 =>
  .chk none none (.lookup (.agg [.int, .str]) (.int .i64 0) false t46 t47) t48 <|
  .op (.extract t50 1) fun t51 =>
  .snap fun h6 =>
  .op (.entryStore t46 t51 t49) fun _ =>
  .done e
theorem c4_r14_run {CP : CProg} (e : Env) (h : Heap) (Q : Post) : RunR CP (c4_r14 e) h Q ↔ RunR CP (
  .op (.mv (e 8)) fun t46 =>
  .op (.load (some 2) (e 11)) fun t47 =>
  .op (.lookup (.agg [.int, .str]) (.int .i64 0) false t46 t47) fun t48 =>
  .op (.bin .add t48 (.int .i64 0)) fun t49 =>
  .snap fun h4 =>
  .op (.mapEntry (.agg [.int, .str]) (.int .i64 0) t46 t47) fun t50 =>
  .chk none none (.lookup (.agg [.int, .str]) (.int .i64 0) false t46 t47) t48 <|
  .op (.extract t50 1) fun t51 =>
  .snap fun h6 =>
  .op (.entryStore t46 t51 t49) fun _ =>
  .done e) h Q := Iff.rfl
def c4_r15 : Env → Reg := fun e =>
  .op (.fieldAddr 2 (e 10)) fun t52 =>
  .op (.load none t52) fun t53 =>
  .op (.mv (e 1)) fun t54 =>
  .op (.bin .geq t53 t54) fun t55 =>
  .op (.mv t55) fun t56 =>
  .opg t56 true (.fieldAddr 2 (e 10)) fun t57 =>
  .opg t56 true (.load none t57) fun t58 =>
  .opg t56 true (.mv (e 2)) fun t59 =>
  .opg t56 true (.bin .lss t58 t59) fun t60 =>
  .op (.pick t56 t60 (.bool false)) fun t61 =>
  .done (e.upd 61 t61)
theorem c4_r15_run {CP : CProg} (e : Env) (h : Heap) (Q : Post) : RunR CP (c4_r15 e) h Q ↔ RunR CP (
  .op (.fieldAddr 2 (e 10)) fun t52 =>
  .op (.load none t52) fun t53 =>
  .op (.mv (e 1)) fun t54 =>
  .op (.bin .geq t53 t54) fun t55 =>
  .op (.mv t55) fun t56 =>
  .opg t56 true (.fieldAddr 2 (e 10)) fun t57 =>
  .opg t56 true (.load none t57) fun t58 =>
  .opg t56 true (.mv (e 2)) fun t59 =>
  .opg t56 true (.bin .lss t58 t59) fun t60 =>
  .op (.pick t56 t60 (.bool false)) fun t61 =>
  .done (e.upd 61 t61)) h Q := Iff.rfl
def c4_r16_c1 (e : Env) (t62 : Value) (t63 : Value) (t64 : Value) (t67 : Value) (t68 : Value) : Reg :=
  .chk none none (.lookup (.agg [.int, .str]) (.int .i64 0) false t62 t63) t64 <|
  .op (.extract t68 1) fun t69 =>
  .snap fun h8 =>
  .op (.entryStore t62 t69 t67) fun _ =>
  .done e
theorem c4_r16_c1_run {CP : CProg} (e : Env) (t62 : Value) (t63 : Value) (t64 : Value) (t67 : Value) (t68 : Value) (h : Heap) (Q : Post) : RunR CP (c4_r16_c1 e t62 t63 t64 t67 t68) h Q ↔ RunR CP (
  .chk none none (.lookup (.agg [.int, .str]) (.int .i64 0) false t62 t63) t64 <|
  .op (.extract t68 1) fun t69 =>
  .snap fun h8 =>
  .op (.entryStore t62 t69 t67) fun _ =>
  .done e) h Q := Iff.rfl
def c4_r16 : Env → Reg := fun e =>
  .op (.mv (e 8)) fun t62 =>
  .op (.load (some 2) (e 11)) fun t63 =>
  .op (.lookup (.agg [.int, .str]) (.int .i64 0) false t62 t63) fun t64 =>
  .op (.fieldAddr 3 (e 10)) fun t65 =>
  .op (.load none t65) fun t66 =>
  .op (.bin .add t64 t66) fun t67 =>
  .snap fun h6 =>
  .op (.mapEntry (.agg [.int, .str]) (.int .i64 0) t62 t63) fun t68 =>
  c4_r16_c1 e t62 t63 t64 t67 t68
theorem c4_r16_run {CP : CProg} (e : Env) (h : Heap) (Q : Post) : RunR CP (c4_r16 e) h Q ↔ RunR CP (
  .op (.mv (e 8)) fun t62 =>
  .op (.load (some 2) (e 11)) fun t63 =>
  .op (.lookup (.agg [.int, .str]) (.int .i64 0) false t62 t63) fun t64 =>
  .op (.fieldAddr 3 (e 10)) fun t65 =>
  .op (.load none t65) fun t66 =>
  .op (.bin .add t64 t66) fun t67 =>
  .snap fun h6 =>
  .op (.mapEntry (.agg [.int, .str]) (.int .i64 0) t62 t63) fun t68 =>
  c4_r16_c1 e t62 t63 t64 t67 t68) h Q := Iff.rfl
def c4_r17 : Env → Reg := fun e =>
  .op (.bin .add (e 30) (.int .i64 1)) fun t70 =>
  .op (.mv t70) fun t30 =>
  .done (e.upd 30 t30)
theorem c4_r17_run {CP : CProg} (e : Env) (h : Heap) (Q : Post) : RunR CP (c4_r17 e) h Q ↔ RunR CP (
  .op (.bin .add (e 30) (.int .i64 1)) fun t70 =>
  .op (.mv t70) fun t30 =>
  .done (e.upd 30 t30)) h Q := Iff.rfl
def c4_l0 : CC := (.seq (.region c4_r10) (.seq (.cond (fun e => e 31) .skip (.exit 0)) (.seq (.block 1 (.seq (.region c4_r11) (.seq (.region c4_r12) (.seq (.region c4_r13) (.seq (.region c4_r14) (.seq (.region c4_r15) (.cond (fun e => e 61) (.region c4_r16) .skip))))))) (.region c4_r17))))
def c4_r18 : Env → Reg := fun e =>
  .op (.mv (e 7)) fun t71 =>
  .op (.call 13 [t71]) fun t72 =>
  .op (.mv t72) fun t12 =>
  .done (e.upd 12 t12)
theorem c4_r18_run {CP : CProg} (e : Env) (h : Heap) (Q : Post) : RunR CP (c4_r18 e) h Q ↔ RunR CP (
  .op (.mv (e 7)) fun t71 =>
  .op (.call 13 [t71]) fun t72 =>
  .op (.mv t72) fun t12 =>
  .done (e.upd 12 t12)) h Q := Iff.rfl
def c4_r19 : Env → Reg := fun e =>
  .op (.mv (e 12)) fun t73 =>
  .op (.lenSl t73) fun t74 =>
  .op (.mv (e 8)) fun t75 =>
  .op (.lenMap t75) fun t76 =>
  .op (.bin .neq t74 t76) fun t77 =>
  .done (e.upd 77 t77)
theorem c4_r19_run {CP : CProg} (e : Env) (h : Heap) (Q : Post) : RunR CP (c4_r19 e) h Q ↔ RunR CP (
  .op (.mv (e 12)) fun t73 =>
  .op (.lenSl t73) fun t74 =>
  .op (.mv (e 8)) fun t75 =>
  .op (.lenMap t75) fun t76 =>
  .op (.bin .neq t74 t76) fun t77 =>
  .done (e.upd 77 t77)) h Q := Iff.rfl
def c4_r20 : Env → Reg := fun e =>
  .op (.mv (.bool false)) fun t6 =>
  .done (e.upd 6 t6)
theorem c4_r20_run {CP : CProg} (e : Env) (h : Heap) (Q : Post) : RunR CP (c4_r20 e) h Q ↔ RunR CP (
  .op (.mv (.bool false)) fun t6 =>
  .done (e.upd 6 t6)) h Q := Iff.rfl
def c4_r21 : Env → Reg := fun e =>
  .op (.mv (e 12)) fun t78 =>
  .op (.lenSl t78) fun t79 =>
  .op (.mv (.int .i64 0)) fun t80 =>
  .done (((e.upd 78 t78).upd 79 t79).upd 80 t80)
theorem c4_r21_run {CP : CProg} (e : Env) (h : Heap) (Q : Post) : RunR CP (c4_r21 e) h Q ↔ RunR CP (
  .op (.mv (e 12)) fun t78 =>
  .op (.lenSl t78) fun t79 =>
  .op (.mv (.int .i64 0)) fun t80 =>
  .done (((e.upd 78 t78).upd 79 t79).upd 80 t80)) h Q := Iff.rfl
def c4_r22 : Env → Reg := fun e =>
  .op (.bin .lss (e 80) (e 79)) fun t81 =>
  .done (e.upd 81 t81)
theorem c4_r22_run {CP : CProg} (e : Env) (h : Heap) (Q : Post) : RunR CP (c4_r22 e) h Q ↔ RunR CP (
  .op (.bin .lss (e 80) (e 79)) fun t81 =>
  .done (e.upd 81 t81)) h Q := Iff.rfl
def c4_r23 : Env → Reg := fun e =>
  .op (.mv (e 80)) fun t82 =>
  .op (.indexSl 2 (e 78) (e 80)) fun t83 =>
  .op (.load (some 2) t83) fun t84 =>
  .op (.alloc 30 [(.int .i64 0), (.string ⟨#[]⟩)]) fun t14 =>
  .op (.mv t82) fun t13 =>
  .op (.store 2 t14 t84) fun _ =>
  .done ((e.upd 14 t14).upd 13 t13)
theorem c4_r23_run {CP : CProg} (e : Env) (h : Heap) (Q : Post) : RunR CP (c4_r23 e) h Q ↔ RunR CP (
  .op (.mv (e 80)) fun t82 =>
  .op (.indexSl 2 (e 78) (e 80)) fun t83 =>
  .op (.load (some 2) t83) fun t84 =>
  .op (.alloc 30 [(.int .i64 0), (.string ⟨#[]⟩)]) fun t14 =>
  .op (.mv t82) fun t13 =>
  .op (.store 2 t14 t84) fun _ =>
  .done ((e.upd 14 t14).upd 13 t13)) h Q := Iff.rfl
def c4_r24_c5 (e : Env) (t94 : Value) (t97 : Value) (t107 : Value) (t117 : Value) (t121 : Value) : Reg :=
  .opg t117 true (.fieldAddr 1 t121) fun t122 =>
  .opg t117 true (.load none t122) fun t123 =>
  .opg t117 true (.fieldAddr 1 (e 14)) fun t124 =>
  .opg t117 true (.load none t124) fun t125 =>
  .opg t117 true (.bin .geq t123 t125) fun t126 =>
  .opg t107 false (.pick t117 t126 (.bool false)) fun t127 =>
  .opg t97 true (.pick t107 (.bool true) t127) fun t128 =>
  .opg t94 false (.pick t97 t128 (.bool false)) fun t129 =>
  .op (.pick t94 (.bool true) t129) fun t130 =>
  .done (e.upd 130 t130)
theorem c4_r24_c5_run {CP : CProg} (e : Env) (t94 : Value) (t97 : Value) (t107 : Value) (t117 : Value) (t121 : Value) (h : Heap) (Q : Post) : RunR CP (c4_r24_c5 e t94 t97 t107 t117 t121) h Q ↔ RunR CP (
  .opg t117 true (.fieldAddr 1 t121) fun t122 =>
  .opg t117 true (.load none t122) fun t123 =>
  .opg t117 true (.fieldAddr 1 (e 14)) fun t124 =>
  .opg t117 true (.load none t124) fun t125 =>
  .opg t117 true (.bin .geq t123 t125) fun t126 =>
  .opg t107 false (.pick t117 t126 (.bool false)) fun t127 =>
  .opg t97 true (.pick t107 (.bool true) t127) fun t128 =>
  .opg t94 false (.pick t97 t128 (.bool false)) fun t129 =>
  .op (.pick t94 (.bool true) t129) fun t130 =>
  .done (e.upd 130 t130)) h Q := Iff.rfl
def c4_r24_c4 (e : Env) (t94 : Value) (t97 : Value) (t107 : Value) (t113 : Value) : Reg :=
  .opg t107 false (.fieldAddr 0 (e 14)) fun t114 =>
  .opg t107 false (.load none t114) fun t115 =>
  .opg t107 false (.bin .eql t113 t115) fun t116 =>
  .opg t107 false (.mv t116) fun t117 =>
  .opg t117 true (.mv (e 12)) fun t118 =>
  .opg t117 true (.mv (e 13)) fun t119 =>
  .opg t117 true (.bin .sub t119 (.int .i64 1)) fun t120 =>
  .opg t117 true (.indexSl 2 t118 t120) fun t121 =>
  c4_r24_c5 e t94 t97 t107 t117 t121
theorem c4_r24_c4_run {CP : CProg} (e : Env) (t94 : Value) (t97 : Value) (t107 : Value) (t113 : Value) (h : Heap) (Q : Post) : RunR CP (c4_r24_c4 e t94 t97 t107 t113) h Q ↔ RunR CP (
  .opg t107 false (.fieldAddr 0 (e 14)) fun t114 =>
  .opg t107 false (.load none t114) fun t115 =>
  .opg t107 false (.bin .eql t113 t115) fun t116 =>
  .opg t107 false (.mv t116) fun t117 =>
  .opg t117 true (.mv (e 12)) fun t118 =>
  .opg t117 true (.mv (e 13)) fun t119 =>
  .opg t117 true (.bin .sub t119 (.int .i64 1)) fun t120 =>
  .opg t117 true (.indexSl 2 t118 t120) fun t121 =>
  c4_r24_c5 e t94 t97 t107 t117 t121) h Q := Iff.rfl
def c4_r24_c3 (e : Env) (t94 : Value) (t97 : Value) (t103 : Value) (t105 : Value) : Reg :=
  .opg t97 true (.bin .gtr t103 t105) fun t106 =>
  .opg t97 true (.mv t106) fun t107 =>
  .opg t107 false (.mv (e 12)) fun t108 =>
  .opg t107 false (.mv (e 13)) fun t109 =>
  .opg t107 false (.bin .sub t109 (.int .i64 1)) fun t110 =>
  .opg t107 false (.indexSl 2 t108 t110) fun t111 =>
  .opg t107 false (.fieldAddr 0 t111) fun t112 =>
  .opg t107 false (.load none t112) fun t113 =>
  c4_r24_c4 e t94 t97 t107 t113
theorem c4_r24_c3_run {CP : CProg} (e : Env) (t94 : Value) (t97 : Value) (t103 : Value) (t105 : Value) (h : Heap) (Q : Post) : RunR CP (c4_r24_c3 e t94 t97 t103 t105) h Q ↔ RunR CP (
  .opg t97 true (.bin .gtr t103 t105) fun t106 =>
  .opg t97 true (.mv t106) fun t107 =>
  .opg t107 false (.mv (e 12)) fun t108 =>
  .opg t107 false (.mv (e 13)) fun t109 =>
  .opg t107 false (.bin .sub t109 (.int .i64 1)) fun t110 =>
  .opg t107 false (.indexSl 2 t108 t110) fun t111 =>
  .opg t107 false (.fieldAddr 0 t111) fun t112 =>
  .opg t107 false (.load none t112) fun t113 =>
  c4_r24_c4 e t94 t97 t107 t113) h Q := Iff.rfl
def c4_r24_c2 (e : Env) (t94 : Value) (t97 : Value) : Reg :=
  .opg t97 true (.mv (e 12)) fun t98 =>
  .opg t97 true (.mv (e 13)) fun t99 =>
  .opg t97 true (.bin .sub t99 (.int .i64 1)) fun t100 =>
  .opg t97 true (.indexSl 2 t98 t100) fun t101 =>
  .opg t97 true (.fieldAddr 0 t101) fun t102 =>
  .opg t97 true (.load none t102) fun t103 =>
  .opg t97 true (.fieldAddr 0 (e 14)) fun t104 =>
  .opg t97 true (.load none t104) fun t105 =>
  c4_r24_c3 e t94 t97 t103 t105
theorem c4_r24_c2_run {CP : CProg} (e : Env) (t94 : Value) (t97 : Value) (h : Heap) (Q : Post) : RunR CP (c4_r24_c2 e t94 t97) h Q ↔ RunR CP (
  .opg t97 true (.mv (e 12)) fun t98 =>
  .opg t97 true (.mv (e 13)) fun t99 =>
  .opg t97 true (.bin .sub t99 (.int .i64 1)) fun t100 =>
  .opg t97 true (.indexSl 2 t98 t100) fun t101 =>
  .opg t97 true (.fieldAddr 0 t101) fun t102 =>
  .opg t97 true (.load none t102) fun t103 =>
  .opg t97 true (.fieldAddr 0 (e 14)) fun t104 =>
  .opg t97 true (.load none t104) fun t105 =>
  c4_r24_c3 e t94 t97 t103 t105) h Q := Iff.rfl
def c4_r24_c1 (e : Env) (h4 : Heap) (t89 : Value) (t90 : Value) (t91 : Value) : Reg :=
  .chk none (some h4) (.load (some 2) (e 14)) t91 <|
  .op (.lookup (.agg [.int, .str]) (.int .i64 0) false t90 t91) fun t92 =>
  .chk none (some h4) (.lookup (.agg [.int, .str]) (.int .i64 0) false t90 t91) t92 <|
  .op (.bin .neq t89 t92) fun t93 =>
  .op (.mv t93) fun t94 =>
  .opg t94 false (.mv (e 13)) fun t95 =>
  .opg t94 false (.bin .gtr t95 (.int .i64 0)) fun t96 =>
  .opg t94 false (.mv t96) fun t97 =>
  c4_r24_c2 e t94 t97
theorem c4_r24_c1_run {CP : CProg} (e : Env) (h4 : Heap) (t89 : Value) (t90 : Value) (t91 : Value) (h : Heap) (Q : Post) : RunR CP (c4_r24_c1 e h4 t89 t90 t91) h Q ↔ RunR CP (
  .chk none (some h4) (.load (some 2) (e 14)) t91 <|
  .op (.lookup (.agg [.int, .str]) (.int .i64 0) false t90 t91) fun t92 =>
  .chk none (some h4) (.lookup (.agg [.int, .str]) (.int .i64 0) false t90 t91) t92 <|
  .op (.bin .neq t89 t92) fun t93 =>
  .op (.mv t93) fun t94 =>
  .opg t94 false (.mv (e 13)) fun t95 =>
  .opg t94 false (.bin .gtr t95 (.int .i64 0)) fun t96 =>
  .opg t94 false (.mv t96) fun t97 =>
  c4_r24_c2 e t94 t97) h Q := Iff.rfl
def c4_r24 : Env → Reg := fun e =>
  .op (.mv (e 7)) fun t85 =>
  .op (.load (some 2) (e 14)) fun t86 =>
  .op (.mv (e 1)) fun t87 =>
  .op (.mv (e 2)) fun t88 =>
  .snap fun h4 =>
  .op (.call 12 [t85, t86, t87, t88]) fun t89 =>
  .op (.mv (e 8)) fun t90 =>
  .op (.load (some 2) (e 14)) fun t91 =>
  c4_r24_c1 e h4 t89 t90 t91
theorem c4_r24_run {CP : CProg} (e : Env) (h : Heap) (Q : Post) : RunR CP (c4_r24 e) h Q ↔ RunR CP (
  .op (.mv (e 7)) fun t85 =>
  .op (.load (some 2) (e 14)) fun t86 =>
  .op (.mv (e 1)) fun t87 =>
  .op (.mv (e 2)) fun t88 =>
  .snap fun h4 =>
  .op (.call 12 [t85, t86, t87, t88]) fun t89 =>
  .op (.mv (e 8)) fun t90 =>
  .op (.load (some 2) (e 14)) fun t91 =>
  c4_r24_c1 e h4 t89 t90 t91) h Q := Iff.rfl
def c4_r25 : Env → Reg := fun e =>
  .op (.mv (.bool false)) fun t6 =>
  .done (e.upd 6 t6)
theorem c4_r25_run {CP : CProg} (e : Env) (h : Heap) (Q : Post) : RunR CP (c4_r25 e) h Q ↔ RunR CP (
  .op (.mv (.bool false)) fun t6 =>
  .done (e.upd 6 t6)) h Q := Iff.rfl
def c4_r26 : Env → Reg := fun e =>
  .op (.bin .add (e 80) (.int .i64 1)) fun t131 =>
  .op (.mv t131) fun t80 =>
  .done (e.upd 80 t80)
theorem c4_r26_run {CP : CProg} (e : Env) (h : Heap) (Q : Post) : RunR CP (c4_r26 e) h Q ↔ RunR CP (
  .op (.bin .add (e 80) (.int .i64 1)) fun t131 =>
  .op (.mv t131) fun t80 =>
  .done (e.upd 80 t80)) h Q := Iff.rfl
def c4_l1 : CC := (.seq (.region c4_r22) (.seq (.cond (fun e => e 81) .skip (.exit 2)) (.seq (.block 3 (.seq (.region c4_r23) (.seq (.region c4_r24) (.cond (fun e => e 130) (.seq (.region c4_r25) .ret) .skip)))) (.region c4_r26))))
def c4_r27 : Env → Reg := fun e =>
  .op (.mv (e 7)) fun t132 =>
  .op (.build [(.int .i64 0), (.string ⟨#[]⟩)] [(0, 1, (.int .i64 9))]) fun t133 =>
  .op (.call 12 [t132, t133, (.int .i64 0), (.int .i64 2000)]) fun t134 =>
  .op (.bin .eql t134 (.int .i64 0)) fun t135 =>
  .op (.mv t135) fun t6 =>
  .done (e.upd 6 t6)
theorem c4_r27_run {CP : CProg} (e : Env) (h : Heap) (Q : Post) : RunR CP (c4_r27 e) h Q ↔ RunR CP (
  .op (.mv (e 7)) fun t132 =>
  .op (.build [(.int .i64 0), (.string ⟨#[]⟩)] [(0, 1, (.int .i64 9))]) fun t133 =>
  .op (.call 12 [t132, t133, (.int .i64 0), (.int .i64 2000)]) fun t134 =>
  .op (.bin .eql t134 (.int .i64 0)) fun t135 =>
  .op (.mv t135) fun t6 =>
  .done (e.upd 6 t6)) h Q := Iff.rfl
def c4 : CFn := ⟨(.seq (.region c4_r0) (.seq (.seq (.region c4_r1) (.cond (fun e => e 16) (.seq (.region c4_r2) .ret) .skip)) (.seq (.seq (.region c4_r3) (.cond (fun e => e 19) (.seq (.region c4_r4) .ret) .skip)) (.seq (.region c4_r5) (.seq (.region c4_r6) (.seq (.region c4_r7) (.seq (.region c4_r8) (.seq (.seq (.region c4_r9) (.block 0 (.loop c4_l0))) (.seq (.region c4_r18) (.seq (.seq (.region c4_r19) (.cond (fun e => e 77) (.seq (.region c4_r20) .ret) .skip)) (.seq (.seq (.region c4_r21) (.block 2 (.loop c4_l1))) (.seq (.region c4_r27) .ret)))))))))))), [.t 6]⟩
def p4 : Pers := ⟨15, [16, 19, 28, 29, 30, 31, 61, 77, 78, 79, 80, 81, 130], 136⟩
-- 5: weighbridge/weighbridgelaw20.AuditMost
def c5_r0 : Env → Reg := fun e =>
  .op (.mv (.bool false)) fun t4 =>
  .done (e.upd 4 t4)
theorem c5_r0_run {CP : CProg} (e : Env) (h : Heap) (Q : Post) : RunR CP (c5_r0 e) h Q ↔ RunR CP (
  .op (.mv (.bool false)) fun t4 =>
  .done (e.upd 4 t4)) h Q := Iff.rfl
def c5_r1 : Env → Reg := fun e =>
  .op (.call 7 []) fun t15 =>
  .op (.un .not t15) fun t16 =>
  .done (e.upd 16 t16)
theorem c5_r1_run {CP : CProg} (e : Env) (h : Heap) (Q : Post) : RunR CP (c5_r1 e) h Q ↔ RunR CP (
  .op (.call 7 []) fun t15 =>
  .op (.un .not t15) fun t16 =>
  .done (e.upd 16 t16)) h Q := Iff.rfl
def c5_r2 : Env → Reg := fun e =>
  .op (.mv (.bool false)) fun t4 =>
  .done (e.upd 4 t4)
theorem c5_r2_run {CP : CProg} (e : Env) (h : Heap) (Q : Post) : RunR CP (c5_r2 e) h Q ↔ RunR CP (
  .op (.mv (.bool false)) fun t4 =>
  .done (e.upd 4 t4)) h Q := Iff.rfl
def c5_r3 : Env → Reg := fun e =>
  .op (.mv (e 0)) fun t17 =>
  .op (.lenSl t17) fun t18 =>
  .op (.bin .gtr t18 (.int .i64 60)) fun t19 =>
  .done (e.upd 19 t19)
theorem c5_r3_run {CP : CProg} (e : Env) (h : Heap) (Q : Post) : RunR CP (c5_r3 e) h Q ↔ RunR CP (
  .op (.mv (e 0)) fun t17 =>
  .op (.lenSl t17) fun t18 =>
  .op (.bin .gtr t18 (.int .i64 60)) fun t19 =>
  .done (e.upd 19 t19)) h Q := Iff.rfl
def c5_r4 : Env → Reg := fun e =>
  .op (.mv (.bool true)) fun t4 =>
  .done (e.upd 4 t4)
theorem c5_r4_run {CP : CProg} (e : Env) (h : Heap) (Q : Post) : RunR CP (c5_r4 e) h Q ↔ RunR CP (
  .op (.mv (.bool true)) fun t4 =>
  .done (e.upd 4 t4)) h Q := Iff.rfl
def c5_r5 : Env → Reg := fun e =>
  .op (.mv (e 0)) fun t20 =>
  .op (.call 8 [t20]) fun t21 =>
  .op (.mv t21) fun t0 =>
  .done (e.upd 0 t0)
theorem c5_r5_run {CP : CProg} (e : Env) (h : Heap) (Q : Post) : RunR CP (c5_r5 e) h Q ↔ RunR CP (
  .op (.mv (e 0)) fun t20 =>
  .op (.call 8 [t20]) fun t21 =>
  .op (.mv t21) fun t0 =>
  .done (e.upd 0 t0)) h Q := Iff.rfl
def c5_r6 : Env → Reg := fun e =>
  .op (.mv (e 1)) fun t22 =>
  .op (.bin .and t22 (.int .i64 255)) fun t23 =>
  .op (.bin .add t23 (.int .i64 1)) fun t24 =>
  .op (.mv t24) fun t1 =>
  .done (e.upd 1 t1)
theorem c5_r6_run {CP : CProg} (e : Env) (h : Heap) (Q : Post) : RunR CP (c5_r6 e) h Q ↔ RunR CP (
  .op (.mv (e 1)) fun t22 =>
  .op (.bin .and t22 (.int .i64 255)) fun t23 =>
  .op (.bin .add t23 (.int .i64 1)) fun t24 =>
  .op (.mv t24) fun t1 =>
  .done (e.upd 1 t1)) h Q := Iff.rfl
def c5_r7 : Env → Reg := fun e =>
  .op (.call 9 []) fun t25 =>
  .op (.mv t25) fun t5 =>
  .done (e.upd 5 t5)
theorem c5_r7_run {CP : CProg} (e : Env) (h : Heap) (Q : Post) : RunR CP (c5_r7 e) h Q ↔ RunR CP (
  .op (.call 9 []) fun t25 =>
  .op (.mv t25) fun t5 =>
  .done (e.upd 5 t5)) h Q := Iff.rfl
def c5_r8 : Env → Reg := fun e =>
  .op (.build [(.int .i64 0), (.string ⟨#[]⟩)] [(1, 1, (.string ⟨#[107]⟩))]) fun t26 =>
  .op (.alloc 30 [(.int .i64 0), (.string ⟨#[]⟩)]) fun t6 =>
  .op (.store 2 t6 t26) fun _ =>
  .done (e.upd 6 t6)
theorem c5_r8_run {CP : CProg} (e : Env) (h : Heap) (Q : Post) : RunR CP (c5_r8 e) h Q ↔ RunR CP (
  .op (.build [(.int .i64 0), (.string ⟨#[]⟩)] [(1, 1, (.string ⟨#[107]⟩))]) fun t26 =>
  .op (.alloc 30 [(.int .i64 0), (.string ⟨#[]⟩)]) fun t6 =>
  .op (.store 2 t6 t26) fun _ =>
  .done (e.upd 6 t6)) h Q := Iff.rfl
def c5_r9 : Env → Reg := fun e =>
  .op (.mv (e 0)) fun t27 =>
  .op (.lenSl t27) fun t28 =>
  .op (.mv (.int .i64 0)) fun t29 =>
  .done (((e.upd 27 t27).upd 28 t28).upd 29 t29)
theorem c5_r9_run {CP : CProg} (e : Env) (h : Heap) (Q : Post) : RunR CP (c5_r9 e) h Q ↔ RunR CP (
  .op (.mv (e 0)) fun t27 =>
  .op (.lenSl t27) fun t28 =>
  .op (.mv (.int .i64 0)) fun t29 =>
  .done (((e.upd 27 t27).upd 28 t28).upd 29 t29)) h Q := Iff.rfl
def c5_r10 : Env → Reg := fun e =>
  .op (.bin .lss (e 29) (e 28)) fun t30 =>
  .done (e.upd 30 t30)
theorem c5_r10_run {CP : CProg} (e : Env) (h : Heap) (Q : Post) : RunR CP (c5_r10 e) h Q ↔ RunR CP (
  .op (.bin .lss (e 29) (e 28)) fun t30 =>
  .done (e.upd 30 t30)) h Q := Iff.rfl
def c5_r11 : Env → Reg := fun e =>
  .op (.indexSl 4 (e 27) (e 29)) fun t31 =>
  .op (.load (some 4) t31) fun t32 =>
  .op (.alloc 24 [(.int .i64 0), (.string ⟨#[]⟩), (.int .i64 0), (.int .i64 0)]) fun t8 =>
  .op (.store 4 t8 t32) fun _ =>
  .done (e.upd 8 t8)
theorem c5_r11_run {CP : CProg} (e : Env) (h : Heap) (Q : Post) : RunR CP (c5_r11 e) h Q ↔ RunR CP (
  .op (.indexSl 4 (e 27) (e 29)) fun t31 =>
  .op (.load (some 4) t31) fun t32 =>
  .op (.alloc 24 [(.int .i64 0), (.string ⟨#[]⟩), (.int .i64 0), (.int .i64 0)]) fun t8 =>
  .op (.store 4 t8 t32) fun _ =>
  .done (e.upd 8 t8)) h Q := Iff.rfl
def c5_r12 : Env → Reg := fun e =>
  .op (.mv (e 5)) fun t33 =>
  .op (.load (some 2) (e 6)) fun t34 =>
  .op (.fieldAddr 2 (e 8)) fun t35 =>
  .op (.load none t35) fun t36 =>
  .op (.fieldAddr 3 (e 8)) fun t37 =>
  .op (.load none t37) fun t38 =>
  .op (.call 10 [t33, t34, t36, t38]) fun t39 =>
  .done e
theorem c5_r12_run {CP : CProg} (e : Env) (h : Heap) (Q : Post) : RunR CP (c5_r12 e) h Q ↔ RunR CP (
  .op (.mv (e 5)) fun t33 =>
  .op (.load (some 2) (e 6)) fun t34 =>
  .op (.fieldAddr 2 (e 8)) fun t35 =>
  .op (.load none t35) fun t36 =>
  .op (.fieldAddr 3 (e 8)) fun t37 =>
  .op (.load none t37) fun t38 =>
  .op (.call 10 [t33, t34, t36, t38]) fun t39 =>
  .done e) h Q := Iff.rfl
def c5_r13 : Env → Reg := fun e =>
  .op (.bin .add (e 29) (.int .i64 1)) fun t40 =>
  .op (.mv t40) fun t29 =>
  .done (e.upd 29 t29)
theorem c5_r13_run {CP : CProg} (e : Env) (h : Heap) (Q : Post) : RunR CP (c5_r13 e) h Q ↔ RunR CP (
  .op (.bin .add (e 29) (.int .i64 1)) fun t40 =>
  .op (.mv t40) fun t29 =>
  .done (e.upd 29 t29)) h Q := Iff.rfl
def c5_l0 : CC := (.seq (.region c5_r10) (.seq (.cond (fun e => e 30) .skip (.exit 0)) (.seq (.block 1 (.seq (.region c5_r11) (.region c5_r12))) (.region c5_r13))))
def c5_r14 : Env → Reg := fun e =>
  .op (.mv (.int .i64 0)) fun t9 =>
  .done (e.upd 9 t9)
theorem c5_r14_run {CP : CProg} (e : Env) (h : Heap) (Q : Post) : RunR CP (c5_r14 e) h Q ↔ RunR CP (
  .op (.mv (.int .i64 0)) fun t9 =>
  .done (e.upd 9 t9)) h Q := Iff.rfl
def c5_r15 : Env → Reg := fun e =>
  .op (.mv (.int .i64 (-1))) fun t10 =>
  .done (e.upd 10 t10)
theorem c5_r15_run {CP : CProg} (e : Env) (h : Heap) (Q : Post) : RunR CP (c5_r15 e) h Q ↔ RunR CP (
  .op (.mv (.int .i64 (-1))) fun t10 =>
  .done (e.upd 10 t10)) h Q := Iff.rfl
def c5_r16 : Env → Reg := fun e =>
  .op (.mv (e 10)) fun t41 =>
  .op (.bin .lss t41 (.int .i64 1024)) fun t42 =>
  .done (e.upd 42 t42)
theorem c5_r16_run {CP : CProg} (e : Env) (h : Heap) (Q : Post) : RunR CP (c5_r16 e) h Q ↔ RunR CP (
  .op (.mv (e 10)) fun t41 =>
  .op (.bin .lss t41 (.int .i64 1024)) fun t42 =>
  .done (e.upd 42 t42)) h Q := Iff.rfl
def c5_r18 : Env → Reg := fun e =>
  .op (.mv (.int .i64 0)) fun t11 =>
  .done (e.upd 11 t11)
theorem c5_r18_run {CP : CProg} (e : Env) (h : Heap) (Q : Post) : RunR CP (c5_r18 e) h Q ↔ RunR CP (
  .op (.mv (.int .i64 0)) fun t11 =>
  .done (e.upd 11 t11)) h Q := Iff.rfl
def c5_r19 : Env → Reg := fun e =>
  .op (.mv (e 0)) fun t45 =>
  .op (.lenSl t45) fun t46 =>
  .op (.mv (.int .i64 0)) fun t47 =>
  .done (((e.upd 45 t45).upd 46 t46).upd 47 t47)
theorem c5_r19_run {CP : CProg} (e : Env) (h : Heap) (Q : Post) : RunR CP (c5_r19 e) h Q ↔ RunR CP (
  .op (.mv (e 0)) fun t45 =>
  .op (.lenSl t45) fun t46 =>
  .op (.mv (.int .i64 0)) fun t47 =>
  .done (((e.upd 45 t45).upd 46 t46).upd 47 t47)) h Q := Iff.rfl
def c5_r20 : Env → Reg := fun e =>
  .op (.bin .lss (e 47) (e 46)) fun t48 =>
  .done (e.upd 48 t48)
theorem c5_r20_run {CP : CProg} (e : Env) (h : Heap) (Q : Post) : RunR CP (c5_r20 e) h Q ↔ RunR CP (
  .op (.bin .lss (e 47) (e 46)) fun t48 =>
  .done (e.upd 48 t48)) h Q := Iff.rfl
def c5_r21 : Env → Reg := fun e =>
  .op (.indexSl 4 (e 45) (e 47)) fun t49 =>
  .op (.load (some 4) t49) fun t50 =>
  .op (.alloc 24 [(.int .i64 0), (.string ⟨#[]⟩), (.int .i64 0), (.int .i64 0)]) fun t13 =>
  .op (.store 4 t13 t50) fun _ =>
  .done (e.upd 13 t13)
theorem c5_r21_run {CP : CProg} (e : Env) (h : Heap) (Q : Post) : RunR CP (c5_r21 e) h Q ↔ RunR CP (
  .op (.indexSl 4 (e 45) (e 47)) fun t49 =>
  .op (.load (some 4) t49) fun t50 =>
  .op (.alloc 24 [(.int .i64 0), (.string ⟨#[]⟩), (.int .i64 0), (.int .i64 0)]) fun t13 =>
  .op (.store 4 t13 t50) fun _ =>
  .done (e.upd 13 t13)) h Q := Iff.rfl
def c5_r22_c1 (e : Env) (t55 : Value) (t57 : Value) (t58 : Value) : Reg :=
  .opg t55 true (.mv (e 1)) fun t59 =>
  .opg t55 true (.bin .add t58 t59) fun t60 =>
  .opg t55 true (.bin .lss t57 t60) fun t61 =>
  .op (.pick t55 t61 (.bool false)) fun t62 =>
  .done (e.upd 62 t62)
theorem c5_r22_c1_run {CP : CProg} (e : Env) (t55 : Value) (t57 : Value) (t58 : Value) (h : Heap) (Q : Post) : RunR CP (c5_r22_c1 e t55 t57 t58) h Q ↔ RunR CP (
  .opg t55 true (.mv (e 1)) fun t59 =>
  .opg t55 true (.bin .add t58 t59) fun t60 =>
  .opg t55 true (.bin .lss t57 t60) fun t61 =>
  .op (.pick t55 t61 (.bool false)) fun t62 =>
  .done (e.upd 62 t62)) h Q := Iff.rfl
def c5_r22 : Env → Reg := fun e =>
  .op (.fieldAddr 2 (e 13)) fun t51 =>
  .op (.load none t51) fun t52 =>
  .op (.mv (e 10)) fun t53 =>
  .op (.bin .geq t52 t53) fun t54 =>
  .op (.mv t54) fun t55 =>
  .opg t55 true (.fieldAddr 2 (e 13)) fun t56 =>
  .opg t55 true (.load none t56) fun t57 =>
  .opg t55 true (.mv (e 10)) fun t58 =>
  c5_r22_c1 e t55 t57 t58
theorem c5_r22_run {CP : CProg} (e : Env) (h : Heap) (Q : Post) : RunR CP (c5_r22 e) h Q ↔ RunR CP (
  .op (.fieldAddr 2 (e 13)) fun t51 =>
  .op (.load none t51) fun t52 =>
  .op (.mv (e 10)) fun t53 =>
  .op (.bin .geq t52 t53) fun t54 =>
  .op (.mv t54) fun t55 =>
  .opg t55 true (.fieldAddr 2 (e 13)) fun t56 =>
  .opg t55 true (.load none t56) fun t57 =>
  .opg t55 true (.mv (e 10)) fun t58 =>
  c5_r22_c1 e t55 t57 t58) h Q := Iff.rfl
def c5_r23 : Env → Reg := fun e =>
  .op (.mv (e 11)) fun t63 =>
  .op (.fieldAddr 3 (e 13)) fun t64 =>
  .op (.load none t64) fun t65 =>
  .op (.bin .add t63 t65) fun t66 =>
  .op (.mv t66) fun t11 =>
  .done (e.upd 11 t11)
theorem c5_r23_run {CP : CProg} (e : Env) (h : Heap) (Q : Post) : RunR CP (c5_r23 e) h Q ↔ RunR CP (
  .op (.mv (e 11)) fun t63 =>
  .op (.fieldAddr 3 (e 13)) fun t64 =>
  .op (.load none t64) fun t65 =>
  .op (.bin .add t63 t65) fun t66 =>
  .op (.mv t66) fun t11 =>
  .done (e.upd 11 t11)) h Q := Iff.rfl
def c5_r24 : Env → Reg := fun e =>
  .op (.bin .add (e 47) (.int .i64 1)) fun t67 =>
  .op (.mv t67) fun t47 =>
  .done (e.upd 47 t47)
theorem c5_r24_run {CP : CProg} (e : Env) (h : Heap) (Q : Post) : RunR CP (c5_r24 e) h Q ↔ RunR CP (
  .op (.bin .add (e 47) (.int .i64 1)) fun t67 =>
  .op (.mv t67) fun t47 =>
  .done (e.upd 47 t47)) h Q := Iff.rfl
def c5_l1 : CC := (.seq (.region c5_r20) (.seq (.cond (fun e => e 48) .skip (.exit 4)) (.seq (.block 5 (.seq (.region c5_r21) (.seq (.region c5_r22) (.cond (fun e => e 62) (.region c5_r23) .skip)))) (.region c5_r24))))
def c5_r25 : Env → Reg := fun e =>
  .op (.mv (e 9)) fun t68 =>
  .op (.mv (e 11)) fun t69 =>
  .op (.minmax true [t68, t69]) fun t70 =>
  .op (.mv t70) fun t9 =>
  .done (e.upd 9 t9)
theorem c5_r25_run {CP : CProg} (e : Env) (h : Heap) (Q : Post) : RunR CP (c5_r25 e) h Q ↔ RunR CP (
  .op (.mv (e 9)) fun t68 =>
  .op (.mv (e 11)) fun t69 =>
  .op (.minmax true [t68, t69]) fun t70 =>
  .op (.mv t70) fun t9 =>
  .done (e.upd 9 t9)) h Q := Iff.rfl
def c5_r17 : Env → Reg := fun e =>
  .op (.mv (e 10)) fun t43 =>
  .op (.bin .add t43 (.int .i64 1)) fun t44 =>
  .op (.mv t44) fun t10 =>
  .done (e.upd 10 t10)
theorem c5_r17_run {CP : CProg} (e : Env) (h : Heap) (Q : Post) : RunR CP (c5_r17 e) h Q ↔ RunR CP (
  .op (.mv (e 10)) fun t43 =>
  .op (.bin .add t43 (.int .i64 1)) fun t44 =>
  .op (.mv t44) fun t10 =>
  .done (e.upd 10 t10)) h Q := Iff.rfl
def c5_l2 : CC := (.seq (.seq (.region c5_r16) (.cond (fun e => e 42) .skip (.exit 2))) (.seq (.block 3 (.seq (.region c5_r18) (.seq (.seq (.region c5_r19) (.block 4 (.loop c5_l1))) (.region c5_r25)))) (.region c5_r17)))
def c5_r26 : Env → Reg := fun e =>
  .op (.mv (.pointer none)) fun t14 =>
  .done (e.upd 14 t14)
theorem c5_r26_run {CP : CProg} (e : Env) (h : Heap) (Q : Post) : RunR CP (c5_r26 e) h Q ↔ RunR CP (
  .op (.mv (.pointer none)) fun t14 =>
  .done (e.upd 14 t14)) h Q := Iff.rfl
def c5_r27 : Env → Reg := fun e =>
  .op (.mv (e 14)) fun t71 =>
  .op (.load (some 2) (e 6)) fun t72 =>
  .op (.call 10 [t71, t72, (.int .i64 1), (.int .i64 1)]) fun t73 =>
  .done e
theorem c5_r27_run {CP : CProg} (e : Env) (h : Heap) (Q : Post) : RunR CP (c5_r27 e) h Q ↔ RunR CP (
  .op (.mv (e 14)) fun t71 =>
  .op (.load (some 2) (e 6)) fun t72 =>
  .op (.call 10 [t71, t72, (.int .i64 1), (.int .i64 1)]) fun t73 =>
  .done e) h Q := Iff.rfl
def c5_r28_c3 (e : Env) (t97 : Value) : Reg :=
  .op (.mv t97) fun t98 =>
  .opg t98 true (.mv (e 14)) fun t99 =>
  .opg t98 true (.call 13 [t99]) fun t100 =>
  .opg t98 true (.lenSl t100) fun t101 =>
  .opg t98 true (.bin .eql t101 (.int .i64 0)) fun t102 =>
  .op (.pick t98 t102 (.bool false)) fun t103 =>
  .op (.mv t103) fun t4 =>
  .done (e.upd 4 t4)
theorem c5_r28_c3_run {CP : CProg} (e : Env) (t97 : Value) (h : Heap) (Q : Post) : RunR CP (c5_r28_c3 e t97) h Q ↔ RunR CP (
  .op (.mv t97) fun t98 =>
  .opg t98 true (.mv (e 14)) fun t99 =>
  .opg t98 true (.call 13 [t99]) fun t100 =>
  .opg t98 true (.lenSl t100) fun t101 =>
  .opg t98 true (.bin .eql t101 (.int .i64 0)) fun t102 =>
  .op (.pick t98 t102 (.bool false)) fun t103 =>
  .op (.mv t103) fun t4 =>
  .done (e.upd 4 t4)) h Q := Iff.rfl
def c5_r28_c2 (e : Env) (t86 : Value) (t89 : Value) : Reg :=
  .opg t86 true (.bin .eql t89 (.int .i64 0)) fun t90 =>
  .op (.pick t86 t90 (.bool false)) fun t91 =>
  .op (.mv t91) fun t92 =>
  .opg t92 true (.mv (e 14)) fun t93 =>
  .opg t92 true (.load (some 2) (e 6)) fun t94 =>
  .opg t92 true (.call 12 [t93, t94, (.int .i64 0), (.int .i64 9)]) fun t95 =>
  .opg t92 true (.bin .eql t95 (.int .i64 0)) fun t96 =>
  .op (.pick t92 t96 (.bool false)) fun t97 =>
  c5_r28_c3 e t97
theorem c5_r28_c2_run {CP : CProg} (e : Env) (t86 : Value) (t89 : Value) (h : Heap) (Q : Post) : RunR CP (c5_r28_c2 e t86 t89) h Q ↔ RunR CP (
  .opg t86 true (.bin .eql t89 (.int .i64 0)) fun t90 =>
  .op (.pick t86 t90 (.bool false)) fun t91 =>
  .op (.mv t91) fun t92 =>
  .opg t92 true (.mv (e 14)) fun t93 =>
  .opg t92 true (.load (some 2) (e 6)) fun t94 =>
  .opg t92 true (.call 12 [t93, t94, (.int .i64 0), (.int .i64 9)]) fun t95 =>
  .opg t92 true (.bin .eql t95 (.int .i64 0)) fun t96 =>
  .op (.pick t92 t96 (.bool false)) fun t97 =>
  c5_r28_c3 e t97) h Q := Iff.rfl
def c5_r28_c1 (e : Env) (t80 : Value) (t81 : Value) : Reg :=
  .opg t80 true (.load (some 2) (e 6)) fun t82 =>
  .opg t80 true (.call 11 [t81, t82, (.int .i64 0)]) fun t83 =>
  .opg t80 true (.bin .eql t83 (.int .i64 0)) fun t84 =>
  .op (.pick t80 t84 (.bool false)) fun t85 =>
  .op (.mv t85) fun t86 =>
  .opg t86 true (.mv (e 14)) fun t87 =>
  .opg t86 true (.load (some 2) (e 6)) fun t88 =>
  .opg t86 true (.call 11 [t87, t88, (.int .i64 5)]) fun t89 =>
  c5_r28_c2 e t86 t89
theorem c5_r28_c1_run {CP : CProg} (e : Env) (t80 : Value) (t81 : Value) (h : Heap) (Q : Post) : RunR CP (c5_r28_c1 e t80 t81) h Q ↔ RunR CP (
  .opg t80 true (.load (some 2) (e 6)) fun t82 =>
  .opg t80 true (.call 11 [t81, t82, (.int .i64 0)]) fun t83 =>
  .opg t80 true (.bin .eql t83 (.int .i64 0)) fun t84 =>
  .op (.pick t80 t84 (.bool false)) fun t85 =>
  .op (.mv t85) fun t86 =>
  .opg t86 true (.mv (e 14)) fun t87 =>
  .opg t86 true (.load (some 2) (e 6)) fun t88 =>
  .opg t86 true (.call 11 [t87, t88, (.int .i64 5)]) fun t89 =>
  c5_r28_c2 e t86 t89) h Q := Iff.rfl
def c5_r28 : Env → Reg := fun e =>
  .op (.mv (e 5)) fun t74 =>
  .op (.load (some 2) (e 6)) fun t75 =>
  .op (.mv (e 1)) fun t76 =>
  .op (.call 11 [t74, t75, t76]) fun t77 =>
  .op (.mv (e 9)) fun t78 =>
  .op (.bin .eql t77 t78) fun t79 =>
  .op (.mv t79) fun t80 =>
  .opg t80 true (.mv (e 5)) fun t81 =>
  c5_r28_c1 e t80 t81
theorem c5_r28_run {CP : CProg} (e : Env) (h : Heap) (Q : Post) : RunR CP (c5_r28 e) h Q ↔ RunR CP (
  .op (.mv (e 5)) fun t74 =>
  .op (.load (some 2) (e 6)) fun t75 =>
  .op (.mv (e 1)) fun t76 =>
  .op (.call 11 [t74, t75, t76]) fun t77 =>
  .op (.mv (e 9)) fun t78 =>
  .op (.bin .eql t77 t78) fun t79 =>
  .op (.mv t79) fun t80 =>
  .opg t80 true (.mv (e 5)) fun t81 =>
  c5_r28_c1 e t80 t81) h Q := Iff.rfl
def c5 : CFn := ⟨(.seq (.region c5_r0) (.seq (.seq (.region c5_r1) (.cond (fun e => e 16) (.seq (.region c5_r2) .ret) .skip)) (.seq (.seq (.region c5_r3) (.cond (fun e => e 19) (.seq (.region c5_r4) .ret) .skip)) (.seq (.region c5_r5) (.seq (.region c5_r6) (.seq (.region c5_r7) (.seq (.region c5_r8) (.seq (.seq (.region c5_r9) (.block 0 (.loop c5_l0))) (.seq (.region c5_r14) (.seq (.seq (.region c5_r15) (.block 2 (.loop c5_l2))) (.seq (.region c5_r26) (.seq (.region c5_r27) (.seq (.region c5_r28) .ret))))))))))))), [.t 4]⟩
def p5 : Pers := ⟨15, [16, 19, 27, 28, 29, 30, 42, 45, 46, 47, 48, 62], 104⟩
-- 6: weighbridge/weighbridgelaw20.AuditTurned
def c6_r0 : Env → Reg := fun e =>
  .op (.mv (.bool false)) fun t4 =>
  .done (e.upd 4 t4)
theorem c6_r0_run {CP : CProg} (e : Env) (h : Heap) (Q : Post) : RunR CP (c6_r0 e) h Q ↔ RunR CP (
  .op (.mv (.bool false)) fun t4 =>
  .done (e.upd 4 t4)) h Q := Iff.rfl
def c6_r1 : Env → Reg := fun e =>
  .op (.call 7 []) fun t14 =>
  .op (.un .not t14) fun t15 =>
  .done (e.upd 15 t15)
theorem c6_r1_run {CP : CProg} (e : Env) (h : Heap) (Q : Post) : RunR CP (c6_r1 e) h Q ↔ RunR CP (
  .op (.call 7 []) fun t14 =>
  .op (.un .not t14) fun t15 =>
  .done (e.upd 15 t15)) h Q := Iff.rfl
def c6_r2 : Env → Reg := fun e =>
  .op (.mv (.bool false)) fun t4 =>
  .done (e.upd 4 t4)
theorem c6_r2_run {CP : CProg} (e : Env) (h : Heap) (Q : Post) : RunR CP (c6_r2 e) h Q ↔ RunR CP (
  .op (.mv (.bool false)) fun t4 =>
  .done (e.upd 4 t4)) h Q := Iff.rfl
def c6_r3 : Env → Reg := fun e =>
  .op (.mv (e 0)) fun t16 =>
  .op (.lenSl t16) fun t17 =>
  .op (.bin .gtr t17 (.int .i64 80)) fun t18 =>
  .done (e.upd 18 t18)
theorem c6_r3_run {CP : CProg} (e : Env) (h : Heap) (Q : Post) : RunR CP (c6_r3 e) h Q ↔ RunR CP (
  .op (.mv (e 0)) fun t16 =>
  .op (.lenSl t16) fun t17 =>
  .op (.bin .gtr t17 (.int .i64 80)) fun t18 =>
  .done (e.upd 18 t18)) h Q := Iff.rfl
def c6_r4 : Env → Reg := fun e =>
  .op (.mv (.bool true)) fun t4 =>
  .done (e.upd 4 t4)
theorem c6_r4_run {CP : CProg} (e : Env) (h : Heap) (Q : Post) : RunR CP (c6_r4 e) h Q ↔ RunR CP (
  .op (.mv (.bool true)) fun t4 =>
  .done (e.upd 4 t4)) h Q := Iff.rfl
def c6_r5 : Env → Reg := fun e =>
  .op (.mv (e 0)) fun t19 =>
  .op (.call 8 [t19]) fun t20 =>
  .op (.mv t20) fun t0 =>
  .done (e.upd 0 t0)
theorem c6_r5_run {CP : CProg} (e : Env) (h : Heap) (Q : Post) : RunR CP (c6_r5 e) h Q ↔ RunR CP (
  .op (.mv (e 0)) fun t19 =>
  .op (.call 8 [t19]) fun t20 =>
  .op (.mv t20) fun t0 =>
  .done (e.upd 0 t0)) h Q := Iff.rfl
def c6_r6 : Env → Reg := fun e =>
  .op (.mv (e 1)) fun t21 =>
  .op (.bin .and t21 (.int .i64 255)) fun t22 =>
  .op (.mv t22) fun t1 =>
  .done (e.upd 1 t1)
theorem c6_r6_run {CP : CProg} (e : Env) (h : Heap) (Q : Post) : RunR CP (c6_r6 e) h Q ↔ RunR CP (
  .op (.mv (e 1)) fun t21 =>
  .op (.bin .and t21 (.int .i64 255)) fun t22 =>
  .op (.mv t22) fun t1 =>
  .done (e.upd 1 t1)) h Q := Iff.rfl
def c6_r7 : Env → Reg := fun e =>
  .op (.call 9 []) fun t23 =>
  .op (.call 9 []) fun t24 =>
  .op (.mv t23) fun t5 =>
  .op (.mv t24) fun t6 =>
  .done ((e.upd 5 t5).upd 6 t6)
theorem c6_r7_run {CP : CProg} (e : Env) (h : Heap) (Q : Post) : RunR CP (c6_r7 e) h Q ↔ RunR CP (
  .op (.call 9 []) fun t23 =>
  .op (.call 9 []) fun t24 =>
  .op (.mv t23) fun t5 =>
  .op (.mv t24) fun t6 =>
  .done ((e.upd 5 t5).upd 6 t6)) h Q := Iff.rfl
def c6_r8 : Env → Reg := fun e =>
  .op (.mv (e 0)) fun t25 =>
  .op (.lenSl t25) fun t26 =>
  .op (.mv (.int .i64 0)) fun t27 =>
  .done (((e.upd 25 t25).upd 26 t26).upd 27 t27)
theorem c6_r8_run {CP : CProg} (e : Env) (h : Heap) (Q : Post) : RunR CP (c6_r8 e) h Q ↔ RunR CP (
  .op (.mv (e 0)) fun t25 =>
  .op (.lenSl t25) fun t26 =>
  .op (.mv (.int .i64 0)) fun t27 =>
  .done (((e.upd 25 t25).upd 26 t26).upd 27 t27)) h Q := Iff.rfl
def c6_r9 : Env → Reg := fun e =>
  .op (.bin .lss (e 27) (e 26)) fun t28 =>
  .done (e.upd 28 t28)
theorem c6_r9_run {CP : CProg} (e : Env) (h : Heap) (Q : Post) : RunR CP (c6_r9 e) h Q ↔ RunR CP (
  .op (.bin .lss (e 27) (e 26)) fun t28 =>
  .done (e.upd 28 t28)) h Q := Iff.rfl
def c6_r10 : Env → Reg := fun e =>
  .op (.mv (e 27)) fun t29 =>
  .op (.indexSl 4 (e 25) (e 27)) fun t30 =>
  .op (.load (some 4) t30) fun t31 =>
  .op (.alloc 24 [(.int .i64 0), (.string ⟨#[]⟩), (.int .i64 0), (.int .i64 0)]) fun t8 =>
  .op (.mv t29) fun t7 =>
  .op (.store 4 t8 t31) fun _ =>
  .done ((e.upd 8 t8).upd 7 t7)
theorem c6_r10_run {CP : CProg} (e : Env) (h : Heap) (Q : Post) : RunR CP (c6_r10 e) h Q ↔ RunR CP (
  .op (.mv (e 27)) fun t29 =>
  .op (.indexSl 4 (e 25) (e 27)) fun t30 =>
  .op (.load (some 4) t30) fun t31 =>
  .op (.alloc 24 [(.int .i64 0), (.string ⟨#[]⟩), (.int .i64 0), (.int .i64 0)]) fun t8 =>
  .op (.mv t29) fun t7 =>
  .op (.store 4 t8 t31) fun _ =>
  .done ((e.upd 8 t8).upd 7 t7)) h Q := Iff.rfl
def c6_r11_c1 (e : Env) (t32 : Value) (t37 : Value) (t39 : Value) : Reg :=
  .op (.fieldAddr 3 (e 8)) fun t40 =>
  .op (.load none t40) fun t41 =>
  .op (.call 10 [t32, t37, t39, t41]) fun t42 =>
  .done e
theorem c6_r11_c1_run {CP : CProg} (e : Env) (t32 : Value) (t37 : Value) (t39 : Value) (h : Heap) (Q : Post) : RunR CP (c6_r11_c1 e t32 t37 t39) h Q ↔ RunR CP (
  .op (.fieldAddr 3 (e 8)) fun t40 =>
  .op (.load none t40) fun t41 =>
  .op (.call 10 [t32, t37, t39, t41]) fun t42 =>
  .done e) h Q := Iff.rfl
def c6_r11 : Env → Reg := fun e =>
  .op (.mv (e 5)) fun t32 =>
  .op (.fieldAddr 0 (e 8)) fun t33 =>
  .op (.load none t33) fun t34 =>
  .op (.fieldAddr 1 (e 8)) fun t35 =>
  .op (.load none t35) fun t36 =>
  .op (.build [(.int .i64 0), (.string ⟨#[]⟩)] [(0, 1, t34), (1, 1, t36)]) fun t37 =>
  .op (.fieldAddr 2 (e 8)) fun t38 =>
  .op (.load none t38) fun t39 =>
  c6_r11_c1 e t32 t37 t39
theorem c6_r11_run {CP : CProg} (e : Env) (h : Heap) (Q : Post) : RunR CP (c6_r11 e) h Q ↔ RunR CP (
  .op (.mv (e 5)) fun t32 =>
  .op (.fieldAddr 0 (e 8)) fun t33 =>
  .op (.load none t33) fun t34 =>
  .op (.fieldAddr 1 (e 8)) fun t35 =>
  .op (.load none t35) fun t36 =>
  .op (.build [(.int .i64 0), (.string ⟨#[]⟩)] [(0, 1, t34), (1, 1, t36)]) fun t37 =>
  .op (.fieldAddr 2 (e 8)) fun t38 =>
  .op (.load none t38) fun t39 =>
  c6_r11_c1 e t32 t37 t39) h Q := Iff.rfl
def c6_r12 : Env → Reg := fun e =>
  .op (.mv (e 0)) fun t43 =>
  .op (.mv (e 0)) fun t44 =>
  .op (.lenSl t44) fun t45 =>
  .op (.bin .sub t45 (.int .i64 1)) fun t46 =>
  .op (.mv (e 7)) fun t47 =>
  .op (.bin .sub t46 t47) fun t48 =>
  .op (.indexSl 4 t43 t48) fun t49 =>
  .op (.load (some 4) t49) fun t50 =>
  .op (.alloc 24 [(.int .i64 0), (.string ⟨#[]⟩), (.int .i64 0), (.int .i64 0)]) fun t9 =>
  .op (.store 4 t9 t50) fun _ =>
  .done (e.upd 9 t9)
theorem c6_r12_run {CP : CProg} (e : Env) (h : Heap) (Q : Post) : RunR CP (c6_r12 e) h Q ↔ RunR CP (
  .op (.mv (e 0)) fun t43 =>
  .op (.mv (e 0)) fun t44 =>
  .op (.lenSl t44) fun t45 =>
  .op (.bin .sub t45 (.int .i64 1)) fun t46 =>
  .op (.mv (e 7)) fun t47 =>
  .op (.bin .sub t46 t47) fun t48 =>
  .op (.indexSl 4 t43 t48) fun t49 =>
  .op (.load (some 4) t49) fun t50 =>
  .op (.alloc 24 [(.int .i64 0), (.string ⟨#[]⟩), (.int .i64 0), (.int .i64 0)]) fun t9 =>
  .op (.store 4 t9 t50) fun _ =>
  .done (e.upd 9 t9)) h Q := Iff.rfl
def c6_r13_c1 (e : Env) (t51 : Value) (t56 : Value) (t58 : Value) : Reg :=
  .op (.fieldAddr 3 (e 9)) fun t59 =>
  .op (.load none t59) fun t60 =>
  .op (.call 10 [t51, t56, t58, t60]) fun t61 =>
  .done e
theorem c6_r13_c1_run {CP : CProg} (e : Env) (t51 : Value) (t56 : Value) (t58 : Value) (h : Heap) (Q : Post) : RunR CP (c6_r13_c1 e t51 t56 t58) h Q ↔ RunR CP (
  .op (.fieldAddr 3 (e 9)) fun t59 =>
  .op (.load none t59) fun t60 =>
  .op (.call 10 [t51, t56, t58, t60]) fun t61 =>
  .done e) h Q := Iff.rfl
def c6_r13 : Env → Reg := fun e =>
  .op (.mv (e 6)) fun t51 =>
  .op (.fieldAddr 0 (e 9)) fun t52 =>
  .op (.load none t52) fun t53 =>
  .op (.fieldAddr 1 (e 9)) fun t54 =>
  .op (.load none t54) fun t55 =>
  .op (.build [(.int .i64 0), (.string ⟨#[]⟩)] [(0, 1, t53), (1, 1, t55)]) fun t56 =>
  .op (.fieldAddr 2 (e 9)) fun t57 =>
  .op (.load none t57) fun t58 =>
  c6_r13_c1 e t51 t56 t58
theorem c6_r13_run {CP : CProg} (e : Env) (h : Heap) (Q : Post) : RunR CP (c6_r13 e) h Q ↔ RunR CP (
  .op (.mv (e 6)) fun t51 =>
  .op (.fieldAddr 0 (e 9)) fun t52 =>
  .op (.load none t52) fun t53 =>
  .op (.fieldAddr 1 (e 9)) fun t54 =>
  .op (.load none t54) fun t55 =>
  .op (.build [(.int .i64 0), (.string ⟨#[]⟩)] [(0, 1, t53), (1, 1, t55)]) fun t56 =>
  .op (.fieldAddr 2 (e 9)) fun t57 =>
  .op (.load none t57) fun t58 =>
  c6_r13_c1 e t51 t56 t58) h Q := Iff.rfl
def c6_r14 : Env → Reg := fun e =>
  .op (.bin .add (e 27) (.int .i64 1)) fun t62 =>
  .op (.mv t62) fun t27 =>
  .done (e.upd 27 t27)
theorem c6_r14_run {CP : CProg} (e : Env) (h : Heap) (Q : Post) : RunR CP (c6_r14 e) h Q ↔ RunR CP (
  .op (.bin .add (e 27) (.int .i64 1)) fun t62 =>
  .op (.mv t62) fun t27 =>
  .done (e.upd 27 t27)) h Q := Iff.rfl
def c6_l0 : CC := (.seq (.region c6_r9) (.seq (.cond (fun e => e 28) .skip (.exit 0)) (.seq (.block 1 (.seq (.region c6_r10) (.seq (.region c6_r11) (.seq (.region c6_r12) (.region c6_r13))))) (.region c6_r14))))
def c6_r15 : Env → Reg := fun e =>
  .op (.mv (e 5)) fun t63 =>
  .op (.call 13 [t63]) fun t64 =>
  .op (.mv (e 6)) fun t65 =>
  .op (.call 13 [t65]) fun t66 =>
  .op (.mv t64) fun t10 =>
  .op (.mv t66) fun t11 =>
  .done ((e.upd 10 t10).upd 11 t11)
theorem c6_r15_run {CP : CProg} (e : Env) (h : Heap) (Q : Post) : RunR CP (c6_r15 e) h Q ↔ RunR CP (
  .op (.mv (e 5)) fun t63 =>
  .op (.call 13 [t63]) fun t64 =>
  .op (.mv (e 6)) fun t65 =>
  .op (.call 13 [t65]) fun t66 =>
  .op (.mv t64) fun t10 =>
  .op (.mv t66) fun t11 =>
  .done ((e.upd 10 t10).upd 11 t11)) h Q := Iff.rfl
def c6_r16 : Env → Reg := fun e =>
  .op (.mv (e 10)) fun t67 =>
  .op (.lenSl t67) fun t68 =>
  .op (.mv (e 11)) fun t69 =>
  .op (.lenSl t69) fun t70 =>
  .op (.bin .neq t68 t70) fun t71 =>
  .done (e.upd 71 t71)
theorem c6_r16_run {CP : CProg} (e : Env) (h : Heap) (Q : Post) : RunR CP (c6_r16 e) h Q ↔ RunR CP (
  .op (.mv (e 10)) fun t67 =>
  .op (.lenSl t67) fun t68 =>
  .op (.mv (e 11)) fun t69 =>
  .op (.lenSl t69) fun t70 =>
  .op (.bin .neq t68 t70) fun t71 =>
  .done (e.upd 71 t71)) h Q := Iff.rfl
def c6_r17 : Env → Reg := fun e =>
  .op (.mv (.bool false)) fun t4 =>
  .done (e.upd 4 t4)
theorem c6_r17_run {CP : CProg} (e : Env) (h : Heap) (Q : Post) : RunR CP (c6_r17 e) h Q ↔ RunR CP (
  .op (.mv (.bool false)) fun t4 =>
  .done (e.upd 4 t4)) h Q := Iff.rfl
def c6_r18 : Env → Reg := fun e =>
  .op (.mv (e 10)) fun t72 =>
  .op (.lenSl t72) fun t73 =>
  .op (.mv (.int .i64 0)) fun t74 =>
  .done (((e.upd 72 t72).upd 73 t73).upd 74 t74)
theorem c6_r18_run {CP : CProg} (e : Env) (h : Heap) (Q : Post) : RunR CP (c6_r18 e) h Q ↔ RunR CP (
  .op (.mv (e 10)) fun t72 =>
  .op (.lenSl t72) fun t73 =>
  .op (.mv (.int .i64 0)) fun t74 =>
  .done (((e.upd 72 t72).upd 73 t73).upd 74 t74)) h Q := Iff.rfl
def c6_r19 : Env → Reg := fun e =>
  .op (.bin .lss (e 74) (e 73)) fun t75 =>
  .done (e.upd 75 t75)
theorem c6_r19_run {CP : CProg} (e : Env) (h : Heap) (Q : Post) : RunR CP (c6_r19 e) h Q ↔ RunR CP (
  .op (.bin .lss (e 74) (e 73)) fun t75 =>
  .done (e.upd 75 t75)) h Q := Iff.rfl
def c6_r20 : Env → Reg := fun e =>
  .op (.mv (e 74)) fun t76 =>
  .op (.indexSl 2 (e 72) (e 74)) fun t77 =>
  .op (.load (some 2) t77) fun t78 =>
  .op (.alloc 30 [(.int .i64 0), (.string ⟨#[]⟩)]) fun t13 =>
  .op (.mv t76) fun t12 =>
  .op (.store 2 t13 t78) fun _ =>
  .done ((e.upd 13 t13).upd 12 t12)
theorem c6_r20_run {CP : CProg} (e : Env) (h : Heap) (Q : Post) : RunR CP (c6_r20 e) h Q ↔ RunR CP (
  .op (.mv (e 74)) fun t76 =>
  .op (.indexSl 2 (e 72) (e 74)) fun t77 =>
  .op (.load (some 2) t77) fun t78 =>
  .op (.alloc 30 [(.int .i64 0), (.string ⟨#[]⟩)]) fun t13 =>
  .op (.mv t76) fun t12 =>
  .op (.store 2 t13 t78) fun _ =>
  .done ((e.upd 13 t13).upd 12 t12)) h Q := Iff.rfl
def c6_r21_c3 (e : Env) (t96 : Value) (t97 : Value) (t98 : Value) (h20 : Heap) : Reg :=
  .opg t96 false (.call 12 [t97, t98, (.int .i64 10), (.int .i64 300)]) fun t99 =>
  .opg t96 false (.mv (e 6)) fun t100 =>
  .opg t96 false (.load (some 2) (e 13)) fun t101 =>
  .chk (some (t96, false)) (some h20) (.load (some 2) (e 13)) t101 <|
  .snap fun h23 =>
  .opg t96 false (.call 12 [t100, t101, (.int .i64 10), (.int .i64 300)]) fun t102 =>
  .opg t96 false (.bin .neq t99 t102) fun t103 =>
  .op (.pick t96 (.bool true) t103) fun t104 =>
  .done (e.upd 104 t104)
theorem c6_r21_c3_run {CP : CProg} (e : Env) (t96 : Value) (t97 : Value) (t98 : Value) (h20 : Heap) (h : Heap) (Q : Post) : RunR CP (c6_r21_c3 e t96 t97 t98 h20) h Q ↔ RunR CP (
  .opg t96 false (.call 12 [t97, t98, (.int .i64 10), (.int .i64 300)]) fun t99 =>
  .opg t96 false (.mv (e 6)) fun t100 =>
  .opg t96 false (.load (some 2) (e 13)) fun t101 =>
  .chk (some (t96, false)) (some h20) (.load (some 2) (e 13)) t101 <|
  .snap fun h23 =>
  .opg t96 false (.call 12 [t100, t101, (.int .i64 10), (.int .i64 300)]) fun t102 =>
  .opg t96 false (.bin .neq t99 t102) fun t103 =>
  .op (.pick t96 (.bool true) t103) fun t104 =>
  .done (e.upd 104 t104)) h Q := Iff.rfl
def c6_r21_c2 (e : Env) (t85 : Value) (t89 : Value) (t90 : Value) (t91 : Value) (t92 : Value) : Reg :=
  .snap fun h14 =>
  .opg t85 false (.call 11 [t90, t91, t92]) fun t93 =>
  .opg t85 false (.bin .neq t89 t93) fun t94 =>
  .op (.pick t85 (.bool true) t94) fun t95 =>
  .op (.mv t95) fun t96 =>
  .opg t96 false (.mv (e 5)) fun t97 =>
  .opg t96 false (.load (some 2) (e 13)) fun t98 =>
  .snap fun h20 =>
  c6_r21_c3 e t96 t97 t98 h20
theorem c6_r21_c2_run {CP : CProg} (e : Env) (t85 : Value) (t89 : Value) (t90 : Value) (t91 : Value) (t92 : Value) (h : Heap) (Q : Post) : RunR CP (c6_r21_c2 e t85 t89 t90 t91 t92) h Q ↔ RunR CP (
  .snap fun h14 =>
  .opg t85 false (.call 11 [t90, t91, t92]) fun t93 =>
  .opg t85 false (.bin .neq t89 t93) fun t94 =>
  .op (.pick t85 (.bool true) t94) fun t95 =>
  .op (.mv t95) fun t96 =>
  .opg t96 false (.mv (e 5)) fun t97 =>
  .opg t96 false (.load (some 2) (e 13)) fun t98 =>
  .snap fun h20 =>
  c6_r21_c3 e t96 t97 t98 h20) h Q := Iff.rfl
def c6_r21_c1 (e : Env) (t85 : Value) (t86 : Value) : Reg :=
  .opg t85 false (.load (some 2) (e 13)) fun t87 =>
  .opg t85 false (.mv (e 1)) fun t88 =>
  .snap fun h10 =>
  .opg t85 false (.call 11 [t86, t87, t88]) fun t89 =>
  .opg t85 false (.mv (e 6)) fun t90 =>
  .opg t85 false (.load (some 2) (e 13)) fun t91 =>
  .chk (some (t85, false)) (some h10) (.load (some 2) (e 13)) t91 <|
  .opg t85 false (.mv (e 1)) fun t92 =>
  c6_r21_c2 e t85 t89 t90 t91 t92
theorem c6_r21_c1_run {CP : CProg} (e : Env) (t85 : Value) (t86 : Value) (h : Heap) (Q : Post) : RunR CP (c6_r21_c1 e t85 t86) h Q ↔ RunR CP (
  .opg t85 false (.load (some 2) (e 13)) fun t87 =>
  .opg t85 false (.mv (e 1)) fun t88 =>
  .snap fun h10 =>
  .opg t85 false (.call 11 [t86, t87, t88]) fun t89 =>
  .opg t85 false (.mv (e 6)) fun t90 =>
  .opg t85 false (.load (some 2) (e 13)) fun t91 =>
  .chk (some (t85, false)) (some h10) (.load (some 2) (e 13)) t91 <|
  .opg t85 false (.mv (e 1)) fun t92 =>
  c6_r21_c2 e t85 t89 t90 t91 t92) h Q := Iff.rfl
def c6_r21 : Env → Reg := fun e =>
  .op (.mv (e 11)) fun t79 =>
  .op (.mv (e 12)) fun t80 =>
  .op (.indexSl 2 t79 t80) fun t81 =>
  .op (.load (some 2) t81) fun t82 =>
  .op (.load (some 2) (e 13)) fun t83 =>
  .op (.eqAgg true [.int, .str] t82 t83) fun t84 =>
  .op (.mv t84) fun t85 =>
  .opg t85 false (.mv (e 5)) fun t86 =>
  c6_r21_c1 e t85 t86
theorem c6_r21_run {CP : CProg} (e : Env) (h : Heap) (Q : Post) : RunR CP (c6_r21 e) h Q ↔ RunR CP (
  .op (.mv (e 11)) fun t79 =>
  .op (.mv (e 12)) fun t80 =>
  .op (.indexSl 2 t79 t80) fun t81 =>
  .op (.load (some 2) t81) fun t82 =>
  .op (.load (some 2) (e 13)) fun t83 =>
  .op (.eqAgg true [.int, .str] t82 t83) fun t84 =>
  .op (.mv t84) fun t85 =>
  .opg t85 false (.mv (e 5)) fun t86 =>
  c6_r21_c1 e t85 t86) h Q := Iff.rfl
def c6_r22 : Env → Reg := fun e =>
  .op (.mv (.bool false)) fun t4 =>
  .done (e.upd 4 t4)
theorem c6_r22_run {CP : CProg} (e : Env) (h : Heap) (Q : Post) : RunR CP (c6_r22 e) h Q ↔ RunR CP (
  .op (.mv (.bool false)) fun t4 =>
  .done (e.upd 4 t4)) h Q := Iff.rfl
def c6_r23 : Env → Reg := fun e =>
  .op (.bin .add (e 74) (.int .i64 1)) fun t105 =>
  .op (.mv t105) fun t74 =>
  .done (e.upd 74 t74)
theorem c6_r23_run {CP : CProg} (e : Env) (h : Heap) (Q : Post) : RunR CP (c6_r23 e) h Q ↔ RunR CP (
  .op (.bin .add (e 74) (.int .i64 1)) fun t105 =>
  .op (.mv t105) fun t74 =>
  .done (e.upd 74 t74)) h Q := Iff.rfl
def c6_l1 : CC := (.seq (.region c6_r19) (.seq (.cond (fun e => e 75) .skip (.exit 2)) (.seq (.block 3 (.seq (.region c6_r20) (.seq (.region c6_r21) (.cond (fun e => e 104) (.seq (.region c6_r22) .ret) .skip)))) (.region c6_r23))))
def c6_r24 : Env → Reg := fun e =>
  .op (.mv (.bool true)) fun t4 =>
  .done (e.upd 4 t4)
theorem c6_r24_run {CP : CProg} (e : Env) (h : Heap) (Q : Post) : RunR CP (c6_r24 e) h Q ↔ RunR CP (
  .op (.mv (.bool true)) fun t4 =>
  .done (e.upd 4 t4)) h Q := Iff.rfl
def c6 : CFn := ⟨(.seq (.region c6_r0) (.seq (.seq (.region c6_r1) (.cond (fun e => e 15) (.seq (.region c6_r2) .ret) .skip)) (.seq (.seq (.region c6_r3) (.cond (fun e => e 18) (.seq (.region c6_r4) .ret) .skip)) (.seq (.region c6_r5) (.seq (.region c6_r6) (.seq (.region c6_r7) (.seq (.seq (.region c6_r8) (.block 0 (.loop c6_l0))) (.seq (.region c6_r15) (.seq (.seq (.region c6_r16) (.cond (fun e => e 71) (.seq (.region c6_r17) .ret) .skip)) (.seq (.seq (.region c6_r18) (.block 2 (.loop c6_l1))) (.seq (.region c6_r24) .ret))))))))))), [.t 4]⟩
def p6 : Pers := ⟨14, [15, 18, 25, 26, 27, 28, 71, 72, 73, 74, 75, 104], 106⟩
-- 7: weighbridge/weighbridgelaw20.fit
def c7_r0 : Env → Reg := fun e =>
  .op (.mv (.bool false)) fun t0 =>
  .done (e.upd 0 t0)
theorem c7_r0_run {CP : CProg} (e : Env) (h : Heap) (Q : Post) : RunR CP (c7_r0 e) h Q ↔ RunR CP (
  .op (.mv (.bool false)) fun t0 =>
  .done (e.upd 0 t0)) h Q := Iff.rfl
def c7_r1 : Env → Reg := fun e =>
  .op (.call 9 []) fun t3 =>
  .op (.mv t3) fun t1 =>
  .done (e.upd 1 t1)
theorem c7_r1_run {CP : CProg} (e : Env) (h : Heap) (Q : Post) : RunR CP (c7_r1 e) h Q ↔ RunR CP (
  .op (.call 9 []) fun t3 =>
  .op (.mv t3) fun t1 =>
  .done (e.upd 1 t1)) h Q := Iff.rfl
def c7_r2 : Env → Reg := fun e =>
  .op (.build [(.int .i64 0), (.string ⟨#[]⟩)] [(1, 1, (.string ⟨#[97]⟩))]) fun t4 =>
  .op (.alloc 30 [(.int .i64 0), (.string ⟨#[]⟩)]) fun t2 =>
  .op (.store 2 t2 t4) fun _ =>
  .done (e.upd 2 t2)
theorem c7_r2_run {CP : CProg} (e : Env) (h : Heap) (Q : Post) : RunR CP (c7_r2 e) h Q ↔ RunR CP (
  .op (.build [(.int .i64 0), (.string ⟨#[]⟩)] [(1, 1, (.string ⟨#[97]⟩))]) fun t4 =>
  .op (.alloc 30 [(.int .i64 0), (.string ⟨#[]⟩)]) fun t2 =>
  .op (.store 2 t2 t4) fun _ =>
  .done (e.upd 2 t2)) h Q := Iff.rfl
def c7_r3 : Env → Reg := fun e =>
  .op (.mv (e 1)) fun t5 =>
  .op (.load (some 2) (e 2)) fun t6 =>
  .op (.call 10 [t5, t6, (.int .i64 1), (.int .i64 2)]) fun t7 =>
  .done e
theorem c7_r3_run {CP : CProg} (e : Env) (h : Heap) (Q : Post) : RunR CP (c7_r3 e) h Q ↔ RunR CP (
  .op (.mv (e 1)) fun t5 =>
  .op (.load (some 2) (e 2)) fun t6 =>
  .op (.call 10 [t5, t6, (.int .i64 1), (.int .i64 2)]) fun t7 =>
  .done e) h Q := Iff.rfl
def c7_r4 : Env → Reg := fun e =>
  .op (.mv (e 1)) fun t8 =>
  .op (.load (some 2) (e 2)) fun t9 =>
  .op (.call 10 [t8, t9, (.int .i64 3), (.int .i64 2)]) fun t10 =>
  .done e
theorem c7_r4_run {CP : CProg} (e : Env) (h : Heap) (Q : Post) : RunR CP (c7_r4 e) h Q ↔ RunR CP (
  .op (.mv (e 1)) fun t8 =>
  .op (.load (some 2) (e 2)) fun t9 =>
  .op (.call 10 [t8, t9, (.int .i64 3), (.int .i64 2)]) fun t10 =>
  .done e) h Q := Iff.rfl
def c7_r5_c1 (e : Env) (t15 : Value) (t18 : Value) : Reg :=
  .opg t15 true (.bin .eql t18 (.int .i64 4)) fun t19 =>
  .op (.pick t15 t19 (.bool false)) fun t20 =>
  .op (.mv t20) fun t21 =>
  .op (.pick t21 (.bool true) (.bool false)) fun t22 =>
  .op (.mv t22) fun t0 =>
  .done (e.upd 0 t0)
theorem c7_r5_c1_run {CP : CProg} (e : Env) (t15 : Value) (t18 : Value) (h : Heap) (Q : Post) : RunR CP (c7_r5_c1 e t15 t18) h Q ↔ RunR CP (
  .opg t15 true (.bin .eql t18 (.int .i64 4)) fun t19 =>
  .op (.pick t15 t19 (.bool false)) fun t20 =>
  .op (.mv t20) fun t21 =>
  .op (.pick t21 (.bool true) (.bool false)) fun t22 =>
  .op (.mv t22) fun t0 =>
  .done (e.upd 0 t0)) h Q := Iff.rfl
def c7_r5 : Env → Reg := fun e =>
  .op (.mv (e 1)) fun t11 =>
  .op (.load (some 2) (e 2)) fun t12 =>
  .op (.call 11 [t11, t12, (.int .i64 2)]) fun t13 =>
  .op (.bin .eql t13 (.int .i64 2)) fun t14 =>
  .op (.mv t14) fun t15 =>
  .opg t15 true (.mv (e 1)) fun t16 =>
  .opg t15 true (.load (some 2) (e 2)) fun t17 =>
  .opg t15 true (.call 11 [t16, t17, (.int .i64 3)]) fun t18 =>
  c7_r5_c1 e t15 t18
theorem c7_r5_run {CP : CProg} (e : Env) (h : Heap) (Q : Post) : RunR CP (c7_r5 e) h Q ↔ RunR CP (
  .op (.mv (e 1)) fun t11 =>
  .op (.load (some 2) (e 2)) fun t12 =>
  .op (.call 11 [t11, t12, (.int .i64 2)]) fun t13 =>
  .op (.bin .eql t13 (.int .i64 2)) fun t14 =>
  .op (.mv t14) fun t15 =>
  .opg t15 true (.mv (e 1)) fun t16 =>
  .opg t15 true (.load (some 2) (e 2)) fun t17 =>
  .opg t15 true (.call 11 [t16, t17, (.int .i64 3)]) fun t18 =>
  c7_r5_c1 e t15 t18) h Q := Iff.rfl
def c7 : CFn := ⟨(.seq (.region c7_r0) (.seq (.region c7_r1) (.seq (.region c7_r2) (.seq (.region c7_r3) (.seq (.region c7_r4) (.seq (.region c7_r5) .ret)))))), [.t 0]⟩
def p7 : Pers := ⟨3, [], 23⟩
-- 8: weighbridge/weighbridgelaw20.tame
def c8_r0 : Env → Reg := fun e =>
  .op (.mv (.slice none 0 0)) fun t2 =>
  .done (e.upd 2 t2)
theorem c8_r0_run {CP : CProg} (e : Env) (h : Heap) (Q : Post) : RunR CP (c8_r0 e) h Q ↔ RunR CP (
  .op (.mv (.slice none 0 0)) fun t2 =>
  .done (e.upd 2 t2)) h Q := Iff.rfl
def c8_r1 : Env → Reg := fun e =>
  .op (.mv (.slice none 0 0)) fun t3 =>
  .done (e.upd 3 t3)
theorem c8_r1_run {CP : CProg} (e : Env) (h : Heap) (Q : Post) : RunR CP (c8_r1 e) h Q ↔ RunR CP (
  .op (.mv (.slice none 0 0)) fun t3 =>
  .done (e.upd 3 t3)) h Q := Iff.rfl
def c8_r2 : Env → Reg := fun e =>
  .op (.mv (e 0)) fun t6 =>
  .op (.lenSl t6) fun t7 =>
  .op (.mv (.int .i64 0)) fun t8 =>
  .done (((e.upd 6 t6).upd 7 t7).upd 8 t8)
theorem c8_r2_run {CP : CProg} (e : Env) (h : Heap) (Q : Post) : RunR CP (c8_r2 e) h Q ↔ RunR CP (
  .op (.mv (e 0)) fun t6 =>
  .op (.lenSl t6) fun t7 =>
  .op (.mv (.int .i64 0)) fun t8 =>
  .done (((e.upd 6 t6).upd 7 t7).upd 8 t8)) h Q := Iff.rfl
def c8_r3 : Env → Reg := fun e =>
  .op (.bin .lss (e 8) (e 7)) fun t9 =>
  .done (e.upd 9 t9)
theorem c8_r3_run {CP : CProg} (e : Env) (h : Heap) (Q : Post) : RunR CP (c8_r3 e) h Q ↔ RunR CP (
  .op (.bin .lss (e 8) (e 7)) fun t9 =>
  .done (e.upd 9 t9)) h Q := Iff.rfl
def c8_r4 : Env → Reg := fun e =>
  .op (.indexSl 4 (e 6) (e 8)) fun t10 =>
  .op (.load (some 4) t10) fun t11 =>
  .op (.alloc 24 [(.int .i64 0), (.string ⟨#[]⟩), (.int .i64 0), (.int .i64 0)]) fun t5 =>
  .op (.store 4 t5 t11) fun _ =>
  .done (e.upd 5 t5)
theorem c8_r4_run {CP : CProg} (e : Env) (h : Heap) (Q : Post) : RunR CP (c8_r4 e) h Q ↔ RunR CP (
  .op (.indexSl 4 (e 6) (e 8)) fun t10 =>
  .op (.load (some 4) t10) fun t11 =>
  .op (.alloc 24 [(.int .i64 0), (.string ⟨#[]⟩), (.int .i64 0), (.int .i64 0)]) fun t5 =>
  .op (.store 4 t5 t11) fun _ =>
  .done (e.upd 5 t5)) h Q := Iff.rfl
def c8_r5_c2 (e : Env) (t12 : Value) (t15 : Value) (t22 : Value) (t25 : Value) (t27 : Value) : Reg :=
  .op (.bin .and t27 (.int .i64 1023)) fun t28 =>
  .op (.build [(.int .i64 0), (.string ⟨#[]⟩), (.int .i64 0), (.int .i64 0)] [(0, 1, t15), (1, 1, t22), (2, 1, t25), (3, 1, t28)]) fun t29 =>
  .op (.buildSlice 24 1 [(.int .i64 0), (.string ⟨#[]⟩), (.int .i64 0), (.int .i64 0)] [(0, 4, t29)]) fun t30 =>
  .snap fun h19 =>
  .op (.append 24 4 40 t12 t30) fun t31 =>
  .op (.mv t31) fun t3 =>
  .done (e.upd 3 t3)
theorem c8_r5_c2_run {CP : CProg} (e : Env) (t12 : Value) (t15 : Value) (t22 : Value) (t25 : Value) (t27 : Value) (h : Heap) (Q : Post) : RunR CP (c8_r5_c2 e t12 t15 t22 t25 t27) h Q ↔ RunR CP (
  .op (.bin .and t27 (.int .i64 1023)) fun t28 =>
  .op (.build [(.int .i64 0), (.string ⟨#[]⟩), (.int .i64 0), (.int .i64 0)] [(0, 1, t15), (1, 1, t22), (2, 1, t25), (3, 1, t28)]) fun t29 =>
  .op (.buildSlice 24 1 [(.int .i64 0), (.string ⟨#[]⟩), (.int .i64 0), (.int .i64 0)] [(0, 4, t29)]) fun t30 =>
  .snap fun h19 =>
  .op (.append 24 4 40 t12 t30) fun t31 =>
  .op (.mv t31) fun t3 =>
  .done (e.upd 3 t3)) h Q := Iff.rfl
def c8_r5_c1 (e : Env) (t12 : Value) (t15 : Value) (t17 : Value) (t19 : Value) : Reg :=
  .op (.lenStr t19) fun t20 =>
  .op (.minmax false [t20, (.int .i64 3)]) fun t21 =>
  .op (.sliceStr t17 none (some t21)) fun t22 =>
  .op (.fieldAddr 2 (e 5)) fun t23 =>
  .op (.load none t23) fun t24 =>
  .op (.bin .and t24 (.int .i64 1023)) fun t25 =>
  .op (.fieldAddr 3 (e 5)) fun t26 =>
  .op (.load none t26) fun t27 =>
  c8_r5_c2 e t12 t15 t22 t25 t27
theorem c8_r5_c1_run {CP : CProg} (e : Env) (t12 : Value) (t15 : Value) (t17 : Value) (t19 : Value) (h : Heap) (Q : Post) : RunR CP (c8_r5_c1 e t12 t15 t17 t19) h Q ↔ RunR CP (
  .op (.lenStr t19) fun t20 =>
  .op (.minmax false [t20, (.int .i64 3)]) fun t21 =>
  .op (.sliceStr t17 none (some t21)) fun t22 =>
  .op (.fieldAddr 2 (e 5)) fun t23 =>
  .op (.load none t23) fun t24 =>
  .op (.bin .and t24 (.int .i64 1023)) fun t25 =>
  .op (.fieldAddr 3 (e 5)) fun t26 =>
  .op (.load none t26) fun t27 =>
  c8_r5_c2 e t12 t15 t22 t25 t27) h Q := Iff.rfl
def c8_r5 : Env → Reg := fun e =>
  .op (.mv (e 3)) fun t12 =>
  .op (.fieldAddr 0 (e 5)) fun t13 =>
  .op (.load none t13) fun t14 =>
  .op (.bin .and t14 (.int .i64 3)) fun t15 =>
  .op (.fieldAddr 1 (e 5)) fun t16 =>
  .op (.load none t16) fun t17 =>
  .op (.fieldAddr 1 (e 5)) fun t18 =>
  .op (.load none t18) fun t19 =>
  c8_r5_c1 e t12 t15 t17 t19
theorem c8_r5_run {CP : CProg} (e : Env) (h : Heap) (Q : Post) : RunR CP (c8_r5 e) h Q ↔ RunR CP (
  .op (.mv (e 3)) fun t12 =>
  .op (.fieldAddr 0 (e 5)) fun t13 =>
  .op (.load none t13) fun t14 =>
  .op (.bin .and t14 (.int .i64 3)) fun t15 =>
  .op (.fieldAddr 1 (e 5)) fun t16 =>
  .op (.load none t16) fun t17 =>
  .op (.fieldAddr 1 (e 5)) fun t18 =>
  .op (.load none t18) fun t19 =>
  c8_r5_c1 e t12 t15 t17 t19) h Q := Iff.rfl
def c8_r6 : Env → Reg := fun e =>
  .op (.bin .add (e 8) (.int .i64 1)) fun t32 =>
  .op (.mv t32) fun t8 =>
  .done (e.upd 8 t8)
theorem c8_r6_run {CP : CProg} (e : Env) (h : Heap) (Q : Post) : RunR CP (c8_r6 e) h Q ↔ RunR CP (
  .op (.bin .add (e 8) (.int .i64 1)) fun t32 =>
  .op (.mv t32) fun t8 =>
  .done (e.upd 8 t8)) h Q := Iff.rfl
def c8_l0 : CC := (.seq (.region c8_r3) (.seq (.cond (fun e => e 9) .skip (.exit 0)) (.seq (.block 1 (.seq (.region c8_r4) (.region c8_r5))) (.region c8_r6))))
def c8_r7 : Env → Reg := fun e =>
  .op (.mv (e 3)) fun t33 =>
  .op (.mv t33) fun t2 =>
  .done (e.upd 2 t2)
theorem c8_r7_run {CP : CProg} (e : Env) (h : Heap) (Q : Post) : RunR CP (c8_r7 e) h Q ↔ RunR CP (
  .op (.mv (e 3)) fun t33 =>
  .op (.mv t33) fun t2 =>
  .done (e.upd 2 t2)) h Q := Iff.rfl
def c8 : CFn := ⟨(.seq (.region c8_r0) (.seq (.region c8_r1) (.seq (.seq (.region c8_r2) (.block 0 (.loop c8_l0))) (.seq (.region c8_r7) .ret)))), [.t 2]⟩
def p8 : Pers := ⟨6, [6, 7, 8, 9], 34⟩
-- 9: weighbridge/audit.New
def c9_r0 : Env → Reg := fun e =>
  .op (.mv (.pointer none)) fun t0 =>
  .done (e.upd 0 t0)
theorem c9_r0_run {CP : CProg} (e : Env) (h : Heap) (Q : Post) : RunR CP (c9_r0 e) h Q ↔ RunR CP (
  .op (.mv (.pointer none)) fun t0 =>
  .done (e.upd 0 t0)) h Q := Iff.rfl
def c9_r1 : Env → Reg := fun e =>
  .op (.makeMap) fun t1 =>
  .op (.build [(.map none)] [(0, 1, t1)]) fun t2 =>
  .op (.box 42 t2) fun t3 =>
  .op (.mv t3) fun t0 =>
  .done (e.upd 0 t0)
theorem c9_r1_run {CP : CProg} (e : Env) (h : Heap) (Q : Post) : RunR CP (c9_r1 e) h Q ↔ RunR CP (
  .op (.makeMap) fun t1 =>
  .op (.build [(.map none)] [(0, 1, t1)]) fun t2 =>
  .op (.box 42 t2) fun t3 =>
  .op (.mv t3) fun t0 =>
  .done (e.upd 0 t0)) h Q := Iff.rfl
def c9 : CFn := ⟨(.seq (.region c9_r0) (.seq (.region c9_r1) .ret)), [.t 0]⟩
def p9 : Pers := ⟨1, [], 4⟩
-- 10: (*weighbridge/audit.Ledger).Add
def c10_r0 : Env → Reg := fun e =>
  .op (.box 30 (e 1)) fun t5 =>
  .done (e.upd 5 t5)
theorem c10_r0_run {CP : CProg} (e : Env) (h : Heap) (Q : Post) : RunR CP (c10_r0 e) h Q ↔ RunR CP (
  .op (.box 30 (e 1)) fun t5 =>
  .done (e.upd 5 t5)) h Q := Iff.rfl
def c10_r1 : Env → Reg := fun e =>
  .op (.mv (e 0)) fun t8 =>
  .op (.eqK .ptr true t8 (.pointer none)) fun t9 =>
  .done (e.upd 9 t9)
theorem c10_r1_run {CP : CProg} (e : Env) (h : Heap) (Q : Post) : RunR CP (c10_r1 e) h Q ↔ RunR CP (
  .op (.mv (e 0)) fun t8 =>
  .op (.eqK .ptr true t8 (.pointer none)) fun t9 =>
  .done (e.upd 9 t9)) h Q := Iff.rfl
def c10_r2_c1 (e : Env) (t13 : Value) (t14 : Value) (t18 : Value) : Reg :=
  .op (.buildSlice 45 1 [(.int .i64 0), (.int .i64 0)] [(0, 2, t18)]) fun t19 =>
  .snap fun h9 =>
  .op (.mapEntry (.agg [.int, .str]) (.slice none 0 0) t13 t14) fun t20 =>
  .op (.extract t20 0) fun t15 =>
  .snap fun h11 =>
  .op (.append 45 2 16 t15 t19) fun t21 =>
  .op (.extract t20 1) fun t22 =>
  .snap fun h13 =>
  .op (.entryStore t13 t22 t21) fun _ =>
  .done e
theorem c10_r2_c1_run {CP : CProg} (e : Env) (t13 : Value) (t14 : Value) (t18 : Value) (h : Heap) (Q : Post) : RunR CP (c10_r2_c1 e t13 t14 t18) h Q ↔ RunR CP (
  .op (.buildSlice 45 1 [(.int .i64 0), (.int .i64 0)] [(0, 2, t18)]) fun t19 =>
  .snap fun h9 =>
  .op (.mapEntry (.agg [.int, .str]) (.slice none 0 0) t13 t14) fun t20 =>
  .op (.extract t20 0) fun t15 =>
  .snap fun h11 =>
  .op (.append 45 2 16 t15 t19) fun t21 =>
  .op (.extract t20 1) fun t22 =>
  .snap fun h13 =>
  .op (.entryStore t13 t22 t21) fun _ =>
  .done e) h Q := Iff.rfl
def c10_r2 : Env → Reg := fun e =>
  .op (.mv (e 0)) fun t10 =>
  .op (.nilCheck t10) fun t11 =>
  .op (.fieldAddr 0 t11) fun t12 =>
  .op (.load none t12) fun t13 =>
  .op (.load (some 2) (e 5)) fun t14 =>
  .op (.mv (e 2)) fun t16 =>
  .op (.mv (e 3)) fun t17 =>
  .op (.build [(.int .i64 0), (.int .i64 0)] [(0, 1, t16), (1, 1, t17)]) fun t18 =>
  c10_r2_c1 e t13 t14 t18
theorem c10_r2_run {CP : CProg} (e : Env) (h : Heap) (Q : Post) : RunR CP (c10_r2 e) h Q ↔ RunR CP (
  .op (.mv (e 0)) fun t10 =>
  .op (.nilCheck t10) fun t11 =>
  .op (.fieldAddr 0 t11) fun t12 =>
  .op (.load none t12) fun t13 =>
  .op (.load (some 2) (e 5)) fun t14 =>
  .op (.mv (e 2)) fun t16 =>
  .op (.mv (e 3)) fun t17 =>
  .op (.build [(.int .i64 0), (.int .i64 0)] [(0, 1, t16), (1, 1, t17)]) fun t18 =>
  c10_r2_c1 e t13 t14 t18) h Q := Iff.rfl
def c10 : CFn := ⟨(.seq (.region c10_r0) (.seq (.region c10_r1) (.cond (fun e => e 9) (.region c10_r2) .skip))), []⟩
def p10 : Pers := ⟨8, [9], 23⟩
-- 11: (*weighbridge/audit.Ledger).Most
def c11_r0 : Env → Reg := fun e =>
  .op (.box 30 (e 1)) fun t4 =>
  .op (.mv (.int .i64 0)) fun t6 =>
  .done ((e.upd 4 t4).upd 6 t6)
theorem c11_r0_run {CP : CProg} (e : Env) (h : Heap) (Q : Post) : RunR CP (c11_r0 e) h Q ↔ RunR CP (
  .op (.box 30 (e 1)) fun t4 =>
  .op (.mv (.int .i64 0)) fun t6 =>
  .done ((e.upd 4 t4).upd 6 t6)) h Q := Iff.rfl
def c11_r1 : Env → Reg := fun e =>
  .op (.mv (.int .i64 0)) fun t7 =>
  .done (e.upd 7 t7)
theorem c11_r1_run {CP : CProg} (e : Env) (h : Heap) (Q : Post) : RunR CP (c11_r1 e) h Q ↔ RunR CP (
  .op (.mv (.int .i64 0)) fun t7 =>
  .done (e.upd 7 t7)) h Q := Iff.rfl
def c11_r2 : Env → Reg := fun e =>
  .op (.mv (e 0)) fun t10 =>
  .op (.eqK .ptr false t10 (.pointer none)) fun t11 =>
  .op (.mv t11) fun t12 =>
  .opg t12 false (.mv (e 2)) fun t13 =>
  .opg t12 false (.bin .lss t13 (.int .i64 1)) fun t14 =>
  .op (.pick t12 (.bool true) t14) fun t15 =>
  .done (e.upd 15 t15)
theorem c11_r2_run {CP : CProg} (e : Env) (h : Heap) (Q : Post) : RunR CP (c11_r2 e) h Q ↔ RunR CP (
  .op (.mv (e 0)) fun t10 =>
  .op (.eqK .ptr false t10 (.pointer none)) fun t11 =>
  .op (.mv t11) fun t12 =>
  .opg t12 false (.mv (e 2)) fun t13 =>
  .opg t12 false (.bin .lss t13 (.int .i64 1)) fun t14 =>
  .op (.pick t12 (.bool true) t14) fun t15 =>
  .done (e.upd 15 t15)) h Q := Iff.rfl
def c11_r3 : Env → Reg := fun e =>
  .op (.mv (.int .i64 0)) fun t6 =>
  .done (e.upd 6 t6)
theorem c11_r3_run {CP : CProg} (e : Env) (h : Heap) (Q : Post) : RunR CP (c11_r3 e) h Q ↔ RunR CP (
  .op (.mv (.int .i64 0)) fun t6 =>
  .done (e.upd 6 t6)) h Q := Iff.rfl
def c11_r4 : Env → Reg := fun e =>
  .op (.mv (e 0)) fun t16 =>
  .op (.nilCheck t16) fun t17 =>
  .op (.fieldAddr 0 t17) fun t18 =>
  .op (.load none t18) fun t19 =>
  .op (.load (some 2) (e 4)) fun t20 =>
  .op (.lookup (.agg [.int, .str]) (.slice none 0 0) false t19 t20) fun t21 =>
  .op (.lenSl t21) fun t22 =>
  .op (.mv (.int .i64 0)) fun t23 =>
  .done (((e.upd 21 t21).upd 22 t22).upd 23 t23)
theorem c11_r4_run {CP : CProg} (e : Env) (h : Heap) (Q : Post) : RunR CP (c11_r4 e) h Q ↔ RunR CP (
  .op (.mv (e 0)) fun t16 =>
  .op (.nilCheck t16) fun t17 =>
  .op (.fieldAddr 0 t17) fun t18 =>
  .op (.load none t18) fun t19 =>
  .op (.load (some 2) (e 4)) fun t20 =>
  .op (.lookup (.agg [.int, .str]) (.slice none 0 0) false t19 t20) fun t21 =>
  .op (.lenSl t21) fun t22 =>
  .op (.mv (.int .i64 0)) fun t23 =>
  .done (((e.upd 21 t21).upd 22 t22).upd 23 t23)) h Q := Iff.rfl
def c11_r5 : Env → Reg := fun e =>
  .op (.bin .lss (e 23) (e 22)) fun t24 =>
  .done (e.upd 24 t24)
theorem c11_r5_run {CP : CProg} (e : Env) (h : Heap) (Q : Post) : RunR CP (c11_r5 e) h Q ↔ RunR CP (
  .op (.bin .lss (e 23) (e 22)) fun t24 =>
  .done (e.upd 24 t24)) h Q := Iff.rfl
def c11_r6 : Env → Reg := fun e =>
  .op (.indexSl 2 (e 21) (e 23)) fun t25 =>
  .op (.load (some 2) t25) fun t26 =>
  .op (.alloc 45 [(.int .i64 0), (.int .i64 0)]) fun t9 =>
  .op (.store 2 t9 t26) fun _ =>
  .done (e.upd 9 t9)
theorem c11_r6_run {CP : CProg} (e : Env) (h : Heap) (Q : Post) : RunR CP (c11_r6 e) h Q ↔ RunR CP (
  .op (.indexSl 2 (e 21) (e 23)) fun t25 =>
  .op (.load (some 2) t25) fun t26 =>
  .op (.alloc 45 [(.int .i64 0), (.int .i64 0)]) fun t9 =>
  .op (.store 2 t9 t26) fun _ =>
  .done (e.upd 9 t9)) h Q := Iff.rfl
def c11_r7_c1 (e : Env) (t27 : Value) (t28 : Value) (t29 : Value) (t30 : Value) (t31 : Value) (t33 : Value) (t34 : Value) : Reg :=
  .snap fun h8 =>
  .op (.call 14 [t33, t34]) fun t35 =>
  .chk none none (.load none t30) t31 <|
  .chk none none (.load (some 2) (e 4)) t29 <|
  .snap fun h9 =>
  .op (.call 12 [t28, t29, t31, t35]) fun t36 =>
  .op (.minmax true [t27, t36]) fun t37 =>
  .op (.mv t37) fun t7 =>
  .done (e.upd 7 t7)
theorem c11_r7_c1_run {CP : CProg} (e : Env) (t27 : Value) (t28 : Value) (t29 : Value) (t30 : Value) (t31 : Value) (t33 : Value) (t34 : Value) (h : Heap) (Q : Post) : RunR CP (c11_r7_c1 e t27 t28 t29 t30 t31 t33 t34) h Q ↔ RunR CP (
  .snap fun h8 =>
  .op (.call 14 [t33, t34]) fun t35 =>
  .chk none none (.load none t30) t31 <|
  .chk none none (.load (some 2) (e 4)) t29 <|
  .snap fun h9 =>
  .op (.call 12 [t28, t29, t31, t35]) fun t36 =>
  .op (.minmax true [t27, t36]) fun t37 =>
  .op (.mv t37) fun t7 =>
  .done (e.upd 7 t7)) h Q := Iff.rfl
def c11_r7 : Env → Reg := fun e =>
  .op (.mv (e 7)) fun t27 =>
  .op (.mv (e 0)) fun t28 =>
  .op (.load (some 2) (e 4)) fun t29 =>
  .op (.fieldAddr 0 (e 9)) fun t30 =>
  .op (.load none t30) fun t31 =>
  .op (.fieldAddr 0 (e 9)) fun t32 =>
  .op (.load none t32) fun t33 =>
  .op (.mv (e 2)) fun t34 =>
  c11_r7_c1 e t27 t28 t29 t30 t31 t33 t34
theorem c11_r7_run {CP : CProg} (e : Env) (h : Heap) (Q : Post) : RunR CP (c11_r7 e) h Q ↔ RunR CP (
  .op (.mv (e 7)) fun t27 =>
  .op (.mv (e 0)) fun t28 =>
  .op (.load (some 2) (e 4)) fun t29 =>
  .op (.fieldAddr 0 (e 9)) fun t30 =>
  .op (.load none t30) fun t31 =>
  .op (.fieldAddr 0 (e 9)) fun t32 =>
  .op (.load none t32) fun t33 =>
  .op (.mv (e 2)) fun t34 =>
  c11_r7_c1 e t27 t28 t29 t30 t31 t33 t34) h Q := Iff.rfl
def c11_r8 : Env → Reg := fun e =>
  .op (.bin .add (e 23) (.int .i64 1)) fun t38 =>
  .op (.mv t38) fun t23 =>
  .done (e.upd 23 t23)
theorem c11_r8_run {CP : CProg} (e : Env) (h : Heap) (Q : Post) : RunR CP (c11_r8 e) h Q ↔ RunR CP (
  .op (.bin .add (e 23) (.int .i64 1)) fun t38 =>
  .op (.mv t38) fun t23 =>
  .done (e.upd 23 t23)) h Q := Iff.rfl
def c11_l0 : CC := (.seq (.region c11_r5) (.seq (.cond (fun e => e 24) .skip (.exit 0)) (.seq (.block 1 (.seq (.region c11_r6) (.region c11_r7))) (.region c11_r8))))
def c11_r9 : Env → Reg := fun e =>
  .op (.mv (e 7)) fun t39 =>
  .op (.mv t39) fun t6 =>
  .done (e.upd 6 t6)
theorem c11_r9_run {CP : CProg} (e : Env) (h : Heap) (Q : Post) : RunR CP (c11_r9 e) h Q ↔ RunR CP (
  .op (.mv (e 7)) fun t39 =>
  .op (.mv t39) fun t6 =>
  .done (e.upd 6 t6)) h Q := Iff.rfl
def c11 : CFn := ⟨(.seq (.region c11_r0) (.seq (.region c11_r1) (.seq (.seq (.region c11_r2) (.cond (fun e => e 15) (.seq (.region c11_r3) .ret) .skip)) (.seq (.seq (.region c11_r4) (.block 0 (.loop c11_l0))) (.seq (.region c11_r9) .ret))))), [.t 6]⟩
def p11 : Pers := ⟨10, [15, 21, 22, 23, 24], 40⟩
-- 12: (*weighbridge/audit.Ledger).Sum
def c12_r0 : Env → Reg := fun e =>
  .op (.box 30 (e 1)) fun t5 =>
  .op (.mv (.int .i64 0)) fun t8 =>
  .done ((e.upd 5 t5).upd 8 t8)
theorem c12_r0_run {CP : CProg} (e : Env) (h : Heap) (Q : Post) : RunR CP (c12_r0 e) h Q ↔ RunR CP (
  .op (.box 30 (e 1)) fun t5 =>
  .op (.mv (.int .i64 0)) fun t8 =>
  .done ((e.upd 5 t5).upd 8 t8)) h Q := Iff.rfl
def c12_r1 : Env → Reg := fun e =>
  .op (.mv (.int .i64 0)) fun t9 =>
  .done (e.upd 9 t9)
theorem c12_r1_run {CP : CProg} (e : Env) (h : Heap) (Q : Post) : RunR CP (c12_r1 e) h Q ↔ RunR CP (
  .op (.mv (.int .i64 0)) fun t9 =>
  .done (e.upd 9 t9)) h Q := Iff.rfl
def c12_r2 : Env → Reg := fun e =>
  .op (.mv (e 0)) fun t12 =>
  .op (.eqK .ptr false t12 (.pointer none)) fun t13 =>
  .done (e.upd 13 t13)
theorem c12_r2_run {CP : CProg} (e : Env) (h : Heap) (Q : Post) : RunR CP (c12_r2 e) h Q ↔ RunR CP (
  .op (.mv (e 0)) fun t12 =>
  .op (.eqK .ptr false t12 (.pointer none)) fun t13 =>
  .done (e.upd 13 t13)) h Q := Iff.rfl
def c12_r3 : Env → Reg := fun e =>
  .op (.mv (.int .i64 0)) fun t8 =>
  .done (e.upd 8 t8)
theorem c12_r3_run {CP : CProg} (e : Env) (h : Heap) (Q : Post) : RunR CP (c12_r3 e) h Q ↔ RunR CP (
  .op (.mv (.int .i64 0)) fun t8 =>
  .done (e.upd 8 t8)) h Q := Iff.rfl
def c12_r4 : Env → Reg := fun e =>
  .op (.mv (e 0)) fun t14 =>
  .op (.nilCheck t14) fun t15 =>
  .op (.fieldAddr 0 t15) fun t16 =>
  .op (.load none t16) fun t17 =>
  .op (.load (some 2) (e 5)) fun t18 =>
  .op (.lookup (.agg [.int, .str]) (.slice none 0 0) false t17 t18) fun t19 =>
  .op (.lenSl t19) fun t20 =>
  .op (.mv (.int .i64 0)) fun t21 =>
  .done (((e.upd 19 t19).upd 20 t20).upd 21 t21)
theorem c12_r4_run {CP : CProg} (e : Env) (h : Heap) (Q : Post) : RunR CP (c12_r4 e) h Q ↔ RunR CP (
  .op (.mv (e 0)) fun t14 =>
  .op (.nilCheck t14) fun t15 =>
  .op (.fieldAddr 0 t15) fun t16 =>
  .op (.load none t16) fun t17 =>
  .op (.load (some 2) (e 5)) fun t18 =>
  .op (.lookup (.agg [.int, .str]) (.slice none 0 0) false t17 t18) fun t19 =>
  .op (.lenSl t19) fun t20 =>
  .op (.mv (.int .i64 0)) fun t21 =>
  .done (((e.upd 19 t19).upd 20 t20).upd 21 t21)) h Q := Iff.rfl
def c12_r5 : Env → Reg := fun e =>
  .op (.bin .lss (e 21) (e 20)) fun t22 =>
  .done (e.upd 22 t22)
theorem c12_r5_run {CP : CProg} (e : Env) (h : Heap) (Q : Post) : RunR CP (c12_r5 e) h Q ↔ RunR CP (
  .op (.bin .lss (e 21) (e 20)) fun t22 =>
  .done (e.upd 22 t22)) h Q := Iff.rfl
def c12_r6 : Env → Reg := fun e =>
  .op (.indexSl 2 (e 19) (e 21)) fun t23 =>
  .op (.load (some 2) t23) fun t24 =>
  .op (.alloc 45 [(.int .i64 0), (.int .i64 0)]) fun t11 =>
  .op (.store 2 t11 t24) fun _ =>
  .done (e.upd 11 t11)
theorem c12_r6_run {CP : CProg} (e : Env) (h : Heap) (Q : Post) : RunR CP (c12_r6 e) h Q ↔ RunR CP (
  .op (.indexSl 2 (e 19) (e 21)) fun t23 =>
  .op (.load (some 2) t23) fun t24 =>
  .op (.alloc 45 [(.int .i64 0), (.int .i64 0)]) fun t11 =>
  .op (.store 2 t11 t24) fun _ =>
  .done (e.upd 11 t11)) h Q := Iff.rfl
def c12_r7 : Env → Reg := fun e =>
  .op (.fieldAddr 0 (e 11)) fun t25 =>
  .op (.load none t25) fun t26 =>
  .op (.mv (e 2)) fun t27 =>
  .op (.bin .geq t26 t27) fun t28 =>
  .op (.mv t28) fun t29 =>
  .opg t29 true (.fieldAddr 0 (e 11)) fun t30 =>
  .opg t29 true (.load none t30) fun t31 =>
  .opg t29 true (.mv (e 3)) fun t32 =>
  .opg t29 true (.bin .lss t31 t32) fun t33 =>
  .op (.pick t29 t33 (.bool false)) fun t34 =>
  .done (e.upd 34 t34)
theorem c12_r7_run {CP : CProg} (e : Env) (h : Heap) (Q : Post) : RunR CP (c12_r7 e) h Q ↔ RunR CP (
  .op (.fieldAddr 0 (e 11)) fun t25 =>
  .op (.load none t25) fun t26 =>
  .op (.mv (e 2)) fun t27 =>
  .op (.bin .geq t26 t27) fun t28 =>
  .op (.mv t28) fun t29 =>
  .opg t29 true (.fieldAddr 0 (e 11)) fun t30 =>
  .opg t29 true (.load none t30) fun t31 =>
  .opg t29 true (.mv (e 3)) fun t32 =>
  .opg t29 true (.bin .lss t31 t32) fun t33 =>
  .op (.pick t29 t33 (.bool false)) fun t34 =>
  .done (e.upd 34 t34)) h Q := Iff.rfl
def c12_r8 : Env → Reg := fun e =>
  .op (.mv (e 9)) fun t35 =>
  .op (.fieldAddr 1 (e 11)) fun t36 =>
  .op (.load none t36) fun t37 =>
  .op (.call 14 [t35, t37]) fun t38 =>
  .op (.mv t38) fun t9 =>
  .done (e.upd 9 t9)
theorem c12_r8_run {CP : CProg} (e : Env) (h : Heap) (Q : Post) : RunR CP (c12_r8 e) h Q ↔ RunR CP (
  .op (.mv (e 9)) fun t35 =>
  .op (.fieldAddr 1 (e 11)) fun t36 =>
  .op (.load none t36) fun t37 =>
  .op (.call 14 [t35, t37]) fun t38 =>
  .op (.mv t38) fun t9 =>
  .done (e.upd 9 t9)) h Q := Iff.rfl
def c12_r9 : Env → Reg := fun e =>
  .op (.bin .add (e 21) (.int .i64 1)) fun t39 =>
  .op (.mv t39) fun t21 =>
  .done (e.upd 21 t21)
theorem c12_r9_run {CP : CProg} (e : Env) (h : Heap) (Q : Post) : RunR CP (c12_r9 e) h Q ↔ RunR CP (
  .op (.bin .add (e 21) (.int .i64 1)) fun t39 =>
  .op (.mv t39) fun t21 =>
  .done (e.upd 21 t21)) h Q := Iff.rfl
def c12_l0 : CC := (.seq (.region c12_r5) (.seq (.cond (fun e => e 22) .skip (.exit 0)) (.seq (.block 1 (.seq (.region c12_r6) (.seq (.region c12_r7) (.cond (fun e => e 34) (.region c12_r8) .skip)))) (.region c12_r9))))
def c12_r10 : Env → Reg := fun e =>
  .op (.mv (e 9)) fun t40 =>
  .op (.mv t40) fun t8 =>
  .done (e.upd 8 t8)
theorem c12_r10_run {CP : CProg} (e : Env) (h : Heap) (Q : Post) : RunR CP (c12_r10 e) h Q ↔ RunR CP (
  .op (.mv (e 9)) fun t40 =>
  .op (.mv t40) fun t8 =>
  .done (e.upd 8 t8)) h Q := Iff.rfl
def c12 : CFn := ⟨(.seq (.region c12_r0) (.seq (.region c12_r1) (.seq (.seq (.region c12_r2) (.cond (fun e => e 13) (.seq (.region c12_r3) .ret) .skip)) (.seq (.seq (.region c12_r4) (.block 0 (.loop c12_l0))) (.seq (.region c12_r10) .ret))))), [.t 8]⟩
def p12 : Pers := ⟨12, [13, 19, 20, 21, 22, 34], 41⟩
-- 13: (*weighbridge/audit.Ledger).All
def c13_r0 : Env → Reg := fun e =>
  .op (.mv (.slice none 0 0)) fun t2 =>
  .done (e.upd 2 t2)
theorem c13_r0_run {CP : CProg} (e : Env) (h : Heap) (Q : Post) : RunR CP (c13_r0 e) h Q ↔ RunR CP (
  .op (.mv (.slice none 0 0)) fun t2 =>
  .done (e.upd 2 t2)) h Q := Iff.rfl
def c13_r1 : Env → Reg := fun e =>
  .op (.mv (.slice none 0 0)) fun t3 =>
  .done (e.upd 3 t3)
theorem c13_r1_run {CP : CProg} (e : Env) (h : Heap) (Q : Post) : RunR CP (c13_r1 e) h Q ↔ RunR CP (
  .op (.mv (.slice none 0 0)) fun t3 =>
  .done (e.upd 3 t3)) h Q := Iff.rfl
def c13_r2 : Env → Reg := fun e =>
  .op (.mv (e 0)) fun t5 =>
  .op (.eqK .ptr false t5 (.pointer none)) fun t6 =>
  .done (e.upd 6 t6)
theorem c13_r2_run {CP : CProg} (e : Env) (h : Heap) (Q : Post) : RunR CP (c13_r2 e) h Q ↔ RunR CP (
  .op (.mv (e 0)) fun t5 =>
  .op (.eqK .ptr false t5 (.pointer none)) fun t6 =>
  .done (e.upd 6 t6)) h Q := Iff.rfl
def c13_r3 : Env → Reg := fun e =>
  .op (.mv (.slice none 0 0)) fun t2 =>
  .done (e.upd 2 t2)
theorem c13_r3_run {CP : CProg} (e : Env) (h : Heap) (Q : Post) : RunR CP (c13_r3 e) h Q ↔ RunR CP (
  .op (.mv (.slice none 0 0)) fun t2 =>
  .done (e.upd 2 t2)) h Q := Iff.rfl
def c13_r4 : Env → Reg := fun e =>
  .op (.mv (e 0)) fun t7 =>
  .op (.nilCheck t7) fun t8 =>
  .op (.fieldAddr 0 t8) fun t9 =>
  .op (.load none t9) fun t10 =>
  .op (.rangeMap t10) fun t11 =>
  .done (e.upd 11 t11)
theorem c13_r4_run {CP : CProg} (e : Env) (h : Heap) (Q : Post) : RunR CP (c13_r4 e) h Q ↔ RunR CP (
  .op (.mv (e 0)) fun t7 =>
  .op (.nilCheck t7) fun t8 =>
  .op (.fieldAddr 0 t8) fun t9 =>
  .op (.load none t9) fun t10 =>
  .op (.rangeMap t10) fun t11 =>
  .done (e.upd 11 t11)) h Q := Iff.rfl
def c13_r5 : Env → Reg := fun e =>
  .op (.bad) fun t12 =>
  .op (.extract t12 0) fun t13 =>
  .done (e.upd 13 t13)
theorem c13_r5_run {CP : CProg} (e : Env) (h : Heap) (Q : Post) : RunR CP (c13_r5 e) h Q ↔ RunR CP (
  .op (.bad) fun t12 =>
  .op (.extract t12 0) fun t13 =>
  .done (e.upd 13 t13)) h Q := Iff.rfl
def c13_r6 : Env → Reg := fun e =>
  .op (.bad) fun t14 =>
  .op (.extract t14 0) fun t15 =>
  .op (.alloc 30 [(.int .i64 0), (.string ⟨#[]⟩)]) fun t4 =>
  .op (.store 2 t4 t15) fun _ =>
  .done (e.upd 4 t4)
theorem c13_r6_run {CP : CProg} (e : Env) (h : Heap) (Q : Post) : RunR CP (c13_r6 e) h Q ↔ RunR CP (
  .op (.bad) fun t14 =>
  .op (.extract t14 0) fun t15 =>
  .op (.alloc 30 [(.int .i64 0), (.string ⟨#[]⟩)]) fun t4 =>
  .op (.store 2 t4 t15) fun _ =>
  .done (e.upd 4 t4)) h Q := Iff.rfl
def c13_r7 : Env → Reg := fun e =>
  .op (.mv (e 3)) fun t16 =>
  .op (.load (some 2) (e 4)) fun t17 =>
  .op (.buildSlice 30 1 [(.int .i64 0), (.string ⟨#[]⟩)] [(0, 2, t17)]) fun t18 =>
  .op (.append 30 2 24 t16 t18) fun t19 =>
  .op (.mv t19) fun t3 =>
  .done (e.upd 3 t3)
theorem c13_r7_run {CP : CProg} (e : Env) (h : Heap) (Q : Post) : RunR CP (c13_r7 e) h Q ↔ RunR CP (
  .op (.mv (e 3)) fun t16 =>
  .op (.load (some 2) (e 4)) fun t17 =>
  .op (.buildSlice 30 1 [(.int .i64 0), (.string ⟨#[]⟩)] [(0, 2, t17)]) fun t18 =>
  .op (.append 30 2 24 t16 t18) fun t19 =>
  .op (.mv t19) fun t3 =>
  .done (e.upd 3 t3)) h Q := Iff.rfl
def c13_l0 : CC := (.seq (.region c13_r5) (.seq (.cond (fun e => e 13) .skip (.exit 0)) (.block 1 (.seq (.region c13_r6) (.region c13_r7)))))
def c13_r8 : Env → Reg := fun e =>
  .op (.mv (e 3)) fun t20 =>
  .op (.call 15 [t20, (.func (.func 16) #[] #[])]) fun t21 =>
  .done e
theorem c13_r8_run {CP : CProg} (e : Env) (h : Heap) (Q : Post) : RunR CP (c13_r8 e) h Q ↔ RunR CP (
  .op (.mv (e 3)) fun t20 =>
  .op (.call 15 [t20, (.func (.func 16) #[] #[])]) fun t21 =>
  .done e) h Q := Iff.rfl
def c13_r9 : Env → Reg := fun e =>
  .op (.mv (e 3)) fun t22 =>
  .op (.mv t22) fun t2 =>
  .done (e.upd 2 t2)
theorem c13_r9_run {CP : CProg} (e : Env) (h : Heap) (Q : Post) : RunR CP (c13_r9 e) h Q ↔ RunR CP (
  .op (.mv (e 3)) fun t22 =>
  .op (.mv t22) fun t2 =>
  .done (e.upd 2 t2)) h Q := Iff.rfl
def c13 : CFn := ⟨(.seq (.region c13_r0) (.seq (.region c13_r1) (.seq (.seq (.region c13_r2) (.cond (fun e => e 6) (.seq (.region c13_r3) .ret) .skip)) (.seq (.seq (.region c13_r4) (.block 0 (.loop c13_l0))) (.seq (.region c13_r8) (.seq (.region c13_r9) .ret)))))), [.t 2]⟩
def p13 : Pers := ⟨5, [6, 11, 13], 23⟩
-- 14: weighbridge/arith.Sum
def c14_r0 : Env → Reg := fun e =>
  .op (.mv (.int .i64 0)) fun t4 =>
  .done (e.upd 4 t4)
theorem c14_r0_run {CP : CProg} (e : Env) (h : Heap) (Q : Post) : RunR CP (c14_r0 e) h Q ↔ RunR CP (
  .op (.mv (.int .i64 0)) fun t4 =>
  .done (e.upd 4 t4)) h Q := Iff.rfl
def c14_r1 : Env → Reg := fun e =>
  .op (.mv (e 0)) fun t8 =>
  .op (.mv (e 1)) fun t9 =>
  .op (.call 17 [t8, t9]) fun t10 =>
  .op (.mv t10) fun t7 =>
  .op (.extract t7 0) fun t11 =>
  .op (.extract t7 1) fun t12 =>
  .op (.mv t11) fun t5 =>
  .op (.mv t12) fun t6 =>
  .done ((e.upd 5 t5).upd 6 t6)
theorem c14_r1_run {CP : CProg} (e : Env) (h : Heap) (Q : Post) : RunR CP (c14_r1 e) h Q ↔ RunR CP (
  .op (.mv (e 0)) fun t8 =>
  .op (.mv (e 1)) fun t9 =>
  .op (.call 17 [t8, t9]) fun t10 =>
  .op (.mv t10) fun t7 =>
  .op (.extract t7 0) fun t11 =>
  .op (.extract t7 1) fun t12 =>
  .op (.mv t11) fun t5 =>
  .op (.mv t12) fun t6 =>
  .done ((e.upd 5 t5).upd 6 t6)) h Q := Iff.rfl
def c14_r2 : Env → Reg := fun e =>
  .op (.mv (e 6)) fun t13 =>
  .op (.un .not t13) fun t14 =>
  .done (e.upd 14 t14)
theorem c14_r2_run {CP : CProg} (e : Env) (h : Heap) (Q : Post) : RunR CP (c14_r2 e) h Q ↔ RunR CP (
  .op (.mv (e 6)) fun t13 =>
  .op (.un .not t13) fun t14 =>
  .done (e.upd 14 t14)) h Q := Iff.rfl
def c14_r3 : Env → Reg := fun e =>
  .op (.mv (e 0)) fun t15 =>
  .op (.bin .lss t15 (.int .i64 0)) fun t16 =>
  .op (.call 18 [t16]) fun t17 =>
  .op (.mv t17) fun t4 =>
  .done (e.upd 4 t4)
theorem c14_r3_run {CP : CProg} (e : Env) (h : Heap) (Q : Post) : RunR CP (c14_r3 e) h Q ↔ RunR CP (
  .op (.mv (e 0)) fun t15 =>
  .op (.bin .lss t15 (.int .i64 0)) fun t16 =>
  .op (.call 18 [t16]) fun t17 =>
  .op (.mv t17) fun t4 =>
  .done (e.upd 4 t4)) h Q := Iff.rfl
def c14_r4 : Env → Reg := fun e =>
  .op (.mv (e 5)) fun t18 =>
  .op (.mv t18) fun t4 =>
  .done (e.upd 4 t4)
theorem c14_r4_run {CP : CProg} (e : Env) (h : Heap) (Q : Post) : RunR CP (c14_r4 e) h Q ↔ RunR CP (
  .op (.mv (e 5)) fun t18 =>
  .op (.mv t18) fun t4 =>
  .done (e.upd 4 t4)) h Q := Iff.rfl
def c14 : CFn := ⟨(.seq (.region c14_r0) (.seq (.region c14_r1) (.seq (.seq (.region c14_r2) (.cond (fun e => e 14) (.seq (.region c14_r3) .ret) .skip)) (.seq (.region c14_r4) .ret)))), [.t 4]⟩
def p14 : Pers := ⟨7, [14], 19⟩
-- 15: slices.SortFunc[[]weighbridge/audit.Who,weighbridge/audit.Who]
def c15_r0 : Env → Reg := fun e =>
  .op (.mv (e 0)) fun t5 =>
  .op (.lenSl t5) fun t6 =>
  .op (.mv t6) fun t4 =>
  .done (e.upd 4 t4)
theorem c15_r0_run {CP : CProg} (e : Env) (h : Heap) (Q : Post) : RunR CP (c15_r0 e) h Q ↔ RunR CP (
  .op (.mv (e 0)) fun t5 =>
  .op (.lenSl t5) fun t6 =>
  .op (.mv t6) fun t4 =>
  .done (e.upd 4 t4)) h Q := Iff.rfl
def c15_r1 : Env → Reg := fun e =>
  .op (.mv (e 0)) fun t7 =>
  .op (.mv (e 4)) fun t8 =>
  .op (.mv (e 4)) fun t9 =>
  .op (.conv .u64 t9) fun t10 =>
  .op (.call 20 [t10]) fun t11 =>
  .op (.mv (e 1)) fun t12 =>
  .op (.call 19 [t7, (.int .i64 0), t8, t11, t12]) fun t13 =>
  .done e
theorem c15_r1_run {CP : CProg} (e : Env) (h : Heap) (Q : Post) : RunR CP (c15_r1 e) h Q ↔ RunR CP (
  .op (.mv (e 0)) fun t7 =>
  .op (.mv (e 4)) fun t8 =>
  .op (.mv (e 4)) fun t9 =>
  .op (.conv .u64 t9) fun t10 =>
  .op (.call 20 [t10]) fun t11 =>
  .op (.mv (e 1)) fun t12 =>
  .op (.call 19 [t7, (.int .i64 0), t8, t11, t12]) fun t13 =>
  .done e) h Q := Iff.rfl
def c15 : CFn := ⟨(.seq (.region c15_r0) (.region c15_r1)), []⟩
def p15 : Pers := ⟨5, [], 14⟩
-- 16: (*weighbridge/audit.Ledger).All$1
def c16_r0 : Env → Reg := fun e =>
  .op (.box 30 (e 0)) fun t2 =>
  .op (.box 30 (e 1)) fun t3 =>
  .op (.mv (.int .i64 0)) fun t4 =>
  .done (((e.upd 2 t2).upd 3 t3).upd 4 t4)
theorem c16_r0_run {CP : CProg} (e : Env) (h : Heap) (Q : Post) : RunR CP (c16_r0 e) h Q ↔ RunR CP (
  .op (.box 30 (e 0)) fun t2 =>
  .op (.box 30 (e 1)) fun t3 =>
  .op (.mv (.int .i64 0)) fun t4 =>
  .done (((e.upd 2 t2).upd 3 t3).upd 4 t4)) h Q := Iff.rfl
def c16_r1 : Env → Reg := fun e =>
  .op (.fieldAddr 0 (e 2)) fun t5 =>
  .op (.load none t5) fun t6 =>
  .op (.fieldAddr 0 (e 3)) fun t7 =>
  .op (.load none t7) fun t8 =>
  .op (.bin .neq t6 t8) fun t9 =>
  .done (e.upd 9 t9)
theorem c16_r1_run {CP : CProg} (e : Env) (h : Heap) (Q : Post) : RunR CP (c16_r1 e) h Q ↔ RunR CP (
  .op (.fieldAddr 0 (e 2)) fun t5 =>
  .op (.load none t5) fun t6 =>
  .op (.fieldAddr 0 (e 3)) fun t7 =>
  .op (.load none t7) fun t8 =>
  .op (.bin .neq t6 t8) fun t9 =>
  .done (e.upd 9 t9)) h Q := Iff.rfl
def c16_r2 : Env → Reg := fun e =>
  .op (.fieldAddr 0 (e 2)) fun t10 =>
  .op (.load none t10) fun t11 =>
  .op (.fieldAddr 0 (e 3)) fun t12 =>
  .op (.load none t12) fun t13 =>
  .op (.bin .sub t11 t13) fun t14 =>
  .op (.mv t14) fun t4 =>
  .done (e.upd 4 t4)
theorem c16_r2_run {CP : CProg} (e : Env) (h : Heap) (Q : Post) : RunR CP (c16_r2 e) h Q ↔ RunR CP (
  .op (.fieldAddr 0 (e 2)) fun t10 =>
  .op (.load none t10) fun t11 =>
  .op (.fieldAddr 0 (e 3)) fun t12 =>
  .op (.load none t12) fun t13 =>
  .op (.bin .sub t11 t13) fun t14 =>
  .op (.mv t14) fun t4 =>
  .done (e.upd 4 t4)) h Q := Iff.rfl
def c16_r3 : Env → Reg := fun e =>
  .op (.fieldAddr 1 (e 2)) fun t15 =>
  .op (.load none t15) fun t16 =>
  .op (.fieldAddr 1 (e 3)) fun t17 =>
  .op (.load none t17) fun t18 =>
  .op (.bin .lss t16 t18) fun t19 =>
  .done (e.upd 19 t19)
theorem c16_r3_run {CP : CProg} (e : Env) (h : Heap) (Q : Post) : RunR CP (c16_r3 e) h Q ↔ RunR CP (
  .op (.fieldAddr 1 (e 2)) fun t15 =>
  .op (.load none t15) fun t16 =>
  .op (.fieldAddr 1 (e 3)) fun t17 =>
  .op (.load none t17) fun t18 =>
  .op (.bin .lss t16 t18) fun t19 =>
  .done (e.upd 19 t19)) h Q := Iff.rfl
def c16_r4 : Env → Reg := fun e =>
  .op (.mv (.int .i64 (-1))) fun t4 =>
  .done (e.upd 4 t4)
theorem c16_r4_run {CP : CProg} (e : Env) (h : Heap) (Q : Post) : RunR CP (c16_r4 e) h Q ↔ RunR CP (
  .op (.mv (.int .i64 (-1))) fun t4 =>
  .done (e.upd 4 t4)) h Q := Iff.rfl
def c16_r5 : Env → Reg := fun e =>
  .op (.mv (.int .i64 1)) fun t4 =>
  .done (e.upd 4 t4)
theorem c16_r5_run {CP : CProg} (e : Env) (h : Heap) (Q : Post) : RunR CP (c16_r5 e) h Q ↔ RunR CP (
  .op (.mv (.int .i64 1)) fun t4 =>
  .done (e.upd 4 t4)) h Q := Iff.rfl
def c16 : CFn := ⟨(.seq (.region c16_r0) (.seq (.seq (.region c16_r1) (.cond (fun e => e 9) (.seq (.region c16_r2) .ret) .skip)) (.seq (.seq (.region c16_r3) (.cond (fun e => e 19) (.seq (.region c16_r4) .ret) .skip)) (.seq (.region c16_r5) .ret)))), [.t 4]⟩
def p16 : Pers := ⟨5, [9, 19], 20⟩
-- 17: weighbridge/arith.Add
def c17_r0 : Env → Reg := fun e =>
  .op (.mv (.int .i64 0)) fun t4 =>
  .op (.mv (.bool false)) fun t5 =>
  .done ((e.upd 4 t4).upd 5 t5)
theorem c17_r0_run {CP : CProg} (e : Env) (h : Heap) (Q : Post) : RunR CP (c17_r0 e) h Q ↔ RunR CP (
  .op (.mv (.int .i64 0)) fun t4 =>
  .op (.mv (.bool false)) fun t5 =>
  .done ((e.upd 4 t4).upd 5 t5)) h Q := Iff.rfl
def c17_r1 : Env → Reg := fun e =>
  .op (.mv (e 0)) fun t7 =>
  .op (.mv (e 1)) fun t8 =>
  .op (.bin .add t7 t8) fun t9 =>
  .op (.mv t9) fun t6 =>
  .done (e.upd 6 t6)
theorem c17_r1_run {CP : CProg} (e : Env) (h : Heap) (Q : Post) : RunR CP (c17_r1 e) h Q ↔ RunR CP (
  .op (.mv (e 0)) fun t7 =>
  .op (.mv (e 1)) fun t8 =>
  .op (.bin .add t7 t8) fun t9 =>
  .op (.mv t9) fun t6 =>
  .done (e.upd 6 t6)) h Q := Iff.rfl
def c17_r2 : Env → Reg := fun e =>
  .op (.mv (e 6)) fun t10 =>
  .op (.mv (e 6)) fun t11 =>
  .op (.mv (e 0)) fun t12 =>
  .op (.bin .gtr t11 t12) fun t13 =>
  .op (.mv (e 1)) fun t14 =>
  .op (.bin .gtr t14 (.int .i64 0)) fun t15 =>
  .op (.eqK .bool false t13 t15) fun t16 =>
  .op (.mv t10) fun t4 =>
  .op (.mv t16) fun t5 =>
  .done ((e.upd 4 t4).upd 5 t5)
theorem c17_r2_run {CP : CProg} (e : Env) (h : Heap) (Q : Post) : RunR CP (c17_r2 e) h Q ↔ RunR CP (
  .op (.mv (e 6)) fun t10 =>
  .op (.mv (e 6)) fun t11 =>
  .op (.mv (e 0)) fun t12 =>
  .op (.bin .gtr t11 t12) fun t13 =>
  .op (.mv (e 1)) fun t14 =>
  .op (.bin .gtr t14 (.int .i64 0)) fun t15 =>
  .op (.eqK .bool false t13 t15) fun t16 =>
  .op (.mv t10) fun t4 =>
  .op (.mv t16) fun t5 =>
  .done ((e.upd 4 t4).upd 5 t5)) h Q := Iff.rfl
def c17 : CFn := ⟨(.seq (.region c17_r0) (.seq (.region c17_r1) (.seq (.region c17_r2) .ret))), [.t 4, .t 5]⟩
def p17 : Pers := ⟨7, [], 17⟩
-- 18: weighbridge/arith.end
def c18_r0 : Env → Reg := fun e =>
  .op (.mv (.int .i64 0)) fun t2 =>
  .done (e.upd 2 t2)
theorem c18_r0_run {CP : CProg} (e : Env) (h : Heap) (Q : Post) : RunR CP (c18_r0 e) h Q ↔ RunR CP (
  .op (.mv (.int .i64 0)) fun t2 =>
  .done (e.upd 2 t2)) h Q := Iff.rfl
def c18_r1 : Env → Reg := fun e =>
  .op (.mv (e 0)) fun t3 =>
  .done (e.upd 3 t3)
theorem c18_r1_run {CP : CProg} (e : Env) (h : Heap) (Q : Post) : RunR CP (c18_r1 e) h Q ↔ RunR CP (
  .op (.mv (e 0)) fun t3 =>
  .done (e.upd 3 t3)) h Q := Iff.rfl
def c18_r2 : Env → Reg := fun e =>
  .op (.mv (.int .i64 (-9223372036854775808))) fun t2 =>
  .done (e.upd 2 t2)
theorem c18_r2_run {CP : CProg} (e : Env) (h : Heap) (Q : Post) : RunR CP (c18_r2 e) h Q ↔ RunR CP (
  .op (.mv (.int .i64 (-9223372036854775808))) fun t2 =>
  .done (e.upd 2 t2)) h Q := Iff.rfl
def c18_r3 : Env → Reg := fun e =>
  .op (.mv (.int .i64 9223372036854775807)) fun t2 =>
  .done (e.upd 2 t2)
theorem c18_r3_run {CP : CProg} (e : Env) (h : Heap) (Q : Post) : RunR CP (c18_r3 e) h Q ↔ RunR CP (
  .op (.mv (.int .i64 9223372036854775807)) fun t2 =>
  .done (e.upd 2 t2)) h Q := Iff.rfl
def c18 : CFn := ⟨(.seq (.region c18_r0) (.seq (.seq (.region c18_r1) (.cond (fun e => e 3) (.seq (.region c18_r2) .ret) .skip)) (.seq (.region c18_r3) .ret))), [.t 2]⟩
def p18 : Pers := ⟨3, [3], 4⟩
-- 19: slices.pdqsortCmpFunc[weighbridge/audit.Who]
def c19_r0 : Env → Reg := fun e =>
  .op (.mv (.bool true)) fun t10 =>
  .done (e.upd 10 t10)
theorem c19_r0_run {CP : CProg} (e : Env) (h : Heap) (Q : Post) : RunR CP (c19_r0 e) h Q ↔ RunR CP (
  .op (.mv (.bool true)) fun t10 =>
  .done (e.upd 10 t10)) h Q := Iff.rfl
def c19_r1 : Env → Reg := fun e =>
  .op (.mv (.bool true)) fun t11 =>
  .done (e.upd 11 t11)
theorem c19_r1_run {CP : CProg} (e : Env) (h : Heap) (Q : Post) : RunR CP (c19_r1 e) h Q ↔ RunR CP (
  .op (.mv (.bool true)) fun t11 =>
  .done (e.upd 11 t11)) h Q := Iff.rfl
def c19_r2 : Env → Reg := fun e =>
  .op (.mv (e 2)) fun t21 =>
  .op (.mv (e 1)) fun t22 =>
  .op (.bin .sub t21 t22) fun t23 =>
  .op (.mv t23) fun t12 =>
  .done (e.upd 12 t12)
theorem c19_r2_run {CP : CProg} (e : Env) (h : Heap) (Q : Post) : RunR CP (c19_r2 e) h Q ↔ RunR CP (
  .op (.mv (e 2)) fun t21 =>
  .op (.mv (e 1)) fun t22 =>
  .op (.bin .sub t21 t22) fun t23 =>
  .op (.mv t23) fun t12 =>
  .done (e.upd 12 t12)) h Q := Iff.rfl
def c19_r3 : Env → Reg := fun e =>
  .op (.mv (e 12)) fun t24 =>
  .op (.bin .leq t24 (.int .i64 12)) fun t25 =>
  .done (e.upd 25 t25)
theorem c19_r3_run {CP : CProg} (e : Env) (h : Heap) (Q : Post) : RunR CP (c19_r3 e) h Q ↔ RunR CP (
  .op (.mv (e 12)) fun t24 =>
  .op (.bin .leq t24 (.int .i64 12)) fun t25 =>
  .done (e.upd 25 t25)) h Q := Iff.rfl
def c19_r4 : Env → Reg := fun e =>
  .op (.mv (e 0)) fun t26 =>
  .op (.mv (e 1)) fun t27 =>
  .op (.mv (e 2)) fun t28 =>
  .op (.mv (e 4)) fun t29 =>
  .op (.call 21 [t26, t27, t28, t29]) fun t30 =>
  .done e
theorem c19_r4_run {CP : CProg} (e : Env) (h : Heap) (Q : Post) : RunR CP (c19_r4 e) h Q ↔ RunR CP (
  .op (.mv (e 0)) fun t26 =>
  .op (.mv (e 1)) fun t27 =>
  .op (.mv (e 2)) fun t28 =>
  .op (.mv (e 4)) fun t29 =>
  .op (.call 21 [t26, t27, t28, t29]) fun t30 =>
  .done e) h Q := Iff.rfl
def c19_r5 : Env → Reg := fun e =>
  .op (.mv (e 3)) fun t31 =>
  .op (.bin .eql t31 (.int .i64 0)) fun t32 =>
  .done (e.upd 32 t32)
theorem c19_r5_run {CP : CProg} (e : Env) (h : Heap) (Q : Post) : RunR CP (c19_r5 e) h Q ↔ RunR CP (
  .op (.mv (e 3)) fun t31 =>
  .op (.bin .eql t31 (.int .i64 0)) fun t32 =>
  .done (e.upd 32 t32)) h Q := Iff.rfl
def c19_r6 : Env → Reg := fun e =>
  .op (.mv (e 0)) fun t33 =>
  .op (.mv (e 1)) fun t34 =>
  .op (.mv (e 2)) fun t35 =>
  .op (.mv (e 4)) fun t36 =>
  .op (.call 22 [t33, t34, t35, t36]) fun t37 =>
  .done e
theorem c19_r6_run {CP : CProg} (e : Env) (h : Heap) (Q : Post) : RunR CP (c19_r6 e) h Q ↔ RunR CP (
  .op (.mv (e 0)) fun t33 =>
  .op (.mv (e 1)) fun t34 =>
  .op (.mv (e 2)) fun t35 =>
  .op (.mv (e 4)) fun t36 =>
  .op (.call 22 [t33, t34, t35, t36]) fun t37 =>
  .done e) h Q := Iff.rfl
def c19_r7 : Env → Reg := fun e =>
  .op (.mv (e 10)) fun t38 =>
  .op (.un .not t38) fun t39 =>
  .done (e.upd 39 t39)
theorem c19_r7_run {CP : CProg} (e : Env) (h : Heap) (Q : Post) : RunR CP (c19_r7 e) h Q ↔ RunR CP (
  .op (.mv (e 10)) fun t38 =>
  .op (.un .not t38) fun t39 =>
  .done (e.upd 39 t39)) h Q := Iff.rfl
def c19_r8 : Env → Reg := fun e =>
  .op (.mv (e 0)) fun t40 =>
  .op (.mv (e 1)) fun t41 =>
  .op (.mv (e 2)) fun t42 =>
  .op (.mv (e 4)) fun t43 =>
  .op (.call 23 [t40, t41, t42, t43]) fun t44 =>
  .done e
theorem c19_r8_run {CP : CProg} (e : Env) (h : Heap) (Q : Post) : RunR CP (c19_r8 e) h Q ↔ RunR CP (
  .op (.mv (e 0)) fun t40 =>
  .op (.mv (e 1)) fun t41 =>
  .op (.mv (e 2)) fun t42 =>
  .op (.mv (e 4)) fun t43 =>
  .op (.call 23 [t40, t41, t42, t43]) fun t44 =>
  .done e) h Q := Iff.rfl
def c19_r9 : Env → Reg := fun e =>
  .op (.mv (e 3)) fun t45 =>
  .op (.bin .sub t45 (.int .i64 1)) fun t46 =>
  .op (.mv t46) fun t3 =>
  .done (e.upd 3 t3)
theorem c19_r9_run {CP : CProg} (e : Env) (h : Heap) (Q : Post) : RunR CP (c19_r9 e) h Q ↔ RunR CP (
  .op (.mv (e 3)) fun t45 =>
  .op (.bin .sub t45 (.int .i64 1)) fun t46 =>
  .op (.mv t46) fun t3 =>
  .done (e.upd 3 t3)) h Q := Iff.rfl
def c19_r10 : Env → Reg := fun e =>
  .op (.mv (e 0)) fun t48 =>
  .op (.mv (e 1)) fun t49 =>
  .op (.mv (e 2)) fun t50 =>
  .op (.mv (e 4)) fun t51 =>
  .op (.call 24 [t48, t49, t50, t51]) fun t52 =>
  .op (.mv t52) fun t47 =>
  .op (.extract t47 0) fun t53 =>
  .op (.extract t47 1) fun t54 =>
  .op (.mv t53) fun t13 =>
  .op (.mv t54) fun t14 =>
  .done ((e.upd 13 t13).upd 14 t14)
theorem c19_r10_run {CP : CProg} (e : Env) (h : Heap) (Q : Post) : RunR CP (c19_r10 e) h Q ↔ RunR CP (
  .op (.mv (e 0)) fun t48 =>
  .op (.mv (e 1)) fun t49 =>
  .op (.mv (e 2)) fun t50 =>
  .op (.mv (e 4)) fun t51 =>
  .op (.call 24 [t48, t49, t50, t51]) fun t52 =>
  .op (.mv t52) fun t47 =>
  .op (.extract t47 0) fun t53 =>
  .op (.extract t47 1) fun t54 =>
  .op (.mv t53) fun t13 =>
  .op (.mv t54) fun t14 =>
  .done ((e.upd 13 t13).upd 14 t14)) h Q := Iff.rfl
def c19_r11 : Env → Reg := fun e =>
  .op (.mv (e 14)) fun t55 =>
  .op (.bin .eql t55 (.int .i64 2)) fun t56 =>
  .done (e.upd 56 t56)
theorem c19_r11_run {CP : CProg} (e : Env) (h : Heap) (Q : Post) : RunR CP (c19_r11 e) h Q ↔ RunR CP (
  .op (.mv (e 14)) fun t55 =>
  .op (.bin .eql t55 (.int .i64 2)) fun t56 =>
  .done (e.upd 56 t56)) h Q := Iff.rfl
def c19_r12 : Env → Reg := fun e =>
  .op (.mv (e 0)) fun t57 =>
  .op (.mv (e 1)) fun t58 =>
  .op (.mv (e 2)) fun t59 =>
  .op (.mv (e 4)) fun t60 =>
  .op (.call 25 [t57, t58, t59, t60]) fun t61 =>
  .done e
theorem c19_r12_run {CP : CProg} (e : Env) (h : Heap) (Q : Post) : RunR CP (c19_r12 e) h Q ↔ RunR CP (
  .op (.mv (e 0)) fun t57 =>
  .op (.mv (e 1)) fun t58 =>
  .op (.mv (e 2)) fun t59 =>
  .op (.mv (e 4)) fun t60 =>
  .op (.call 25 [t57, t58, t59, t60]) fun t61 =>
  .done e) h Q := Iff.rfl
def c19_r13 : Env → Reg := fun e =>
  .op (.mv (e 2)) fun t62 =>
  .op (.bin .sub t62 (.int .i64 1)) fun t63 =>
  .op (.mv (e 13)) fun t64 =>
  .op (.mv (e 1)) fun t65 =>
  .op (.bin .sub t64 t65) fun t66 =>
  .op (.bin .sub t63 t66) fun t67 =>
  .op (.mv t67) fun t13 =>
  .done (e.upd 13 t13)
theorem c19_r13_run {CP : CProg} (e : Env) (h : Heap) (Q : Post) : RunR CP (c19_r13 e) h Q ↔ RunR CP (
  .op (.mv (e 2)) fun t62 =>
  .op (.bin .sub t62 (.int .i64 1)) fun t63 =>
  .op (.mv (e 13)) fun t64 =>
  .op (.mv (e 1)) fun t65 =>
  .op (.bin .sub t64 t65) fun t66 =>
  .op (.bin .sub t63 t66) fun t67 =>
  .op (.mv t67) fun t13 =>
  .done (e.upd 13 t13)) h Q := Iff.rfl
def c19_r14 : Env → Reg := fun e =>
  .op (.mv (.int .i64 1)) fun t14 =>
  .done (e.upd 14 t14)
theorem c19_r14_run {CP : CProg} (e : Env) (h : Heap) (Q : Post) : RunR CP (c19_r14 e) h Q ↔ RunR CP (
  .op (.mv (.int .i64 1)) fun t14 =>
  .done (e.upd 14 t14)) h Q := Iff.rfl
def c19_r15 : Env → Reg := fun e =>
  .op (.mv (e 10)) fun t68 =>
  .op (.mv t68) fun t69 =>
  .opg t69 true (.mv (e 11)) fun t70 =>
  .op (.pick t69 t70 (.bool false)) fun t71 =>
  .op (.mv t71) fun t72 =>
  .opg t72 true (.mv (e 14)) fun t73 =>
  .opg t72 true (.bin .eql t73 (.int .i64 1)) fun t74 =>
  .op (.pick t72 t74 (.bool false)) fun t75 =>
  .done (e.upd 75 t75)
theorem c19_r15_run {CP : CProg} (e : Env) (h : Heap) (Q : Post) : RunR CP (c19_r15 e) h Q ↔ RunR CP (
  .op (.mv (e 10)) fun t68 =>
  .op (.mv t68) fun t69 =>
  .opg t69 true (.mv (e 11)) fun t70 =>
  .op (.pick t69 t70 (.bool false)) fun t71 =>
  .op (.mv t71) fun t72 =>
  .opg t72 true (.mv (e 14)) fun t73 =>
  .opg t72 true (.bin .eql t73 (.int .i64 1)) fun t74 =>
  .op (.pick t72 t74 (.bool false)) fun t75 =>
  .done (e.upd 75 t75)) h Q := Iff.rfl
def c19_r16 : Env → Reg := fun e =>
  .op (.mv (e 0)) fun t76 =>
  .op (.mv (e 1)) fun t77 =>
  .op (.mv (e 2)) fun t78 =>
  .op (.mv (e 4)) fun t79 =>
  .op (.call 26 [t76, t77, t78, t79]) fun t80 =>
  .done (e.upd 80 t80)
theorem c19_r16_run {CP : CProg} (e : Env) (h : Heap) (Q : Post) : RunR CP (c19_r16 e) h Q ↔ RunR CP (
  .op (.mv (e 0)) fun t76 =>
  .op (.mv (e 1)) fun t77 =>
  .op (.mv (e 2)) fun t78 =>
  .op (.mv (e 4)) fun t79 =>
  .op (.call 26 [t76, t77, t78, t79]) fun t80 =>
  .done (e.upd 80 t80)) h Q := Iff.rfl
def c19_r17_c1 (e : Env) (t83 : Value) (t84 : Value) (t88 : Value) : Reg :=
  .opg t83 true (.load (some 2) t88) fun t89 =>
  .opg t83 true (.mv (e 0)) fun t90 =>
  .opg t83 true (.mv (e 13)) fun t91 =>
  .opg t83 true (.indexSl 2 t90 t91) fun t92 =>
  .opg t83 true (.load (some 2) t92) fun t93 =>
  .snap fun h13 =>
  .opg t83 true (.callv t84 [t89, t93]) fun t94 =>
  .opg t83 true (.bin .lss t94 (.int .i64 0)) fun t95 =>
  .opg t83 true (.un .not t95) fun t96 =>
  .op (.pick t83 t96 (.bool false)) fun t97 =>
  .done (e.upd 97 t97)
theorem c19_r17_c1_run {CP : CProg} (e : Env) (t83 : Value) (t84 : Value) (t88 : Value) (h : Heap) (Q : Post) : RunR CP (c19_r17_c1 e t83 t84 t88) h Q ↔ RunR CP (
  .opg t83 true (.load (some 2) t88) fun t89 =>
  .opg t83 true (.mv (e 0)) fun t90 =>
  .opg t83 true (.mv (e 13)) fun t91 =>
  .opg t83 true (.indexSl 2 t90 t91) fun t92 =>
  .opg t83 true (.load (some 2) t92) fun t93 =>
  .snap fun h13 =>
  .opg t83 true (.callv t84 [t89, t93]) fun t94 =>
  .opg t83 true (.bin .lss t94 (.int .i64 0)) fun t95 =>
  .opg t83 true (.un .not t95) fun t96 =>
  .op (.pick t83 t96 (.bool false)) fun t97 =>
  .done (e.upd 97 t97)) h Q := Iff.rfl
def c19_r17 : Env → Reg := fun e =>
  .op (.mv (e 1)) fun t81 =>
  .op (.bin .gtr t81 (.int .i64 0)) fun t82 =>
  .op (.mv t82) fun t83 =>
  .opg t83 true (.mv (e 4)) fun t84 =>
  .opg t83 true (.mv (e 0)) fun t85 =>
  .opg t83 true (.mv (e 1)) fun t86 =>
  .opg t83 true (.bin .sub t86 (.int .i64 1)) fun t87 =>
  .opg t83 true (.indexSl 2 t85 t87) fun t88 =>
  c19_r17_c1 e t83 t84 t88
theorem c19_r17_run {CP : CProg} (e : Env) (h : Heap) (Q : Post) : RunR CP (c19_r17 e) h Q ↔ RunR CP (
  .op (.mv (e 1)) fun t81 =>
  .op (.bin .gtr t81 (.int .i64 0)) fun t82 =>
  .op (.mv t82) fun t83 =>
  .opg t83 true (.mv (e 4)) fun t84 =>
  .opg t83 true (.mv (e 0)) fun t85 =>
  .opg t83 true (.mv (e 1)) fun t86 =>
  .opg t83 true (.bin .sub t86 (.int .i64 1)) fun t87 =>
  .opg t83 true (.indexSl 2 t85 t87) fun t88 =>
  c19_r17_c1 e t83 t84 t88) h Q := Iff.rfl
def c19_r18 : Env → Reg := fun e =>
  .op (.mv (e 0)) fun t98 =>
  .op (.mv (e 1)) fun t99 =>
  .op (.mv (e 2)) fun t100 =>
  .op (.mv (e 13)) fun t101 =>
  .op (.mv (e 4)) fun t102 =>
  .op (.call 27 [t98, t99, t100, t101, t102]) fun t103 =>
  .op (.mv t103) fun t15 =>
  .done (e.upd 15 t15)
theorem c19_r18_run {CP : CProg} (e : Env) (h : Heap) (Q : Post) : RunR CP (c19_r18 e) h Q ↔ RunR CP (
  .op (.mv (e 0)) fun t98 =>
  .op (.mv (e 1)) fun t99 =>
  .op (.mv (e 2)) fun t100 =>
  .op (.mv (e 13)) fun t101 =>
  .op (.mv (e 4)) fun t102 =>
  .op (.call 27 [t98, t99, t100, t101, t102]) fun t103 =>
  .op (.mv t103) fun t15 =>
  .done (e.upd 15 t15)) h Q := Iff.rfl
def c19_r19 : Env → Reg := fun e =>
  .op (.mv (e 15)) fun t104 =>
  .op (.mv t104) fun t1 =>
  .done (e.upd 1 t1)
theorem c19_r19_run {CP : CProg} (e : Env) (h : Heap) (Q : Post) : RunR CP (c19_r19 e) h Q ↔ RunR CP (
  .op (.mv (e 15)) fun t104 =>
  .op (.mv t104) fun t1 =>
  .done (e.upd 1 t1)) h Q := Iff.rfl
def c19_r20_c1 (e : Env) (t105 : Value) (t112 : Value) : Reg :=
  .op (.extract t105 1) fun t113 =>
  .op (.mv t112) fun t16 =>
  .op (.mv t113) fun t17 =>
  .done ((e.upd 16 t16).upd 17 t17)
theorem c19_r20_c1_run {CP : CProg} (e : Env) (t105 : Value) (t112 : Value) (h : Heap) (Q : Post) : RunR CP (c19_r20_c1 e t105 t112) h Q ↔ RunR CP (
  .op (.extract t105 1) fun t113 =>
  .op (.mv t112) fun t16 =>
  .op (.mv t113) fun t17 =>
  .done ((e.upd 16 t16).upd 17 t17)) h Q := Iff.rfl
def c19_r20 : Env → Reg := fun e =>
  .op (.mv (e 0)) fun t106 =>
  .op (.mv (e 1)) fun t107 =>
  .op (.mv (e 2)) fun t108 =>
  .op (.mv (e 13)) fun t109 =>
  .op (.mv (e 4)) fun t110 =>
  .op (.call 28 [t106, t107, t108, t109, t110]) fun t111 =>
  .op (.mv t111) fun t105 =>
  .op (.extract t105 0) fun t112 =>
  c19_r20_c1 e t105 t112
theorem c19_r20_run {CP : CProg} (e : Env) (h : Heap) (Q : Post) : RunR CP (c19_r20 e) h Q ↔ RunR CP (
  .op (.mv (e 0)) fun t106 =>
  .op (.mv (e 1)) fun t107 =>
  .op (.mv (e 2)) fun t108 =>
  .op (.mv (e 13)) fun t109 =>
  .op (.mv (e 4)) fun t110 =>
  .op (.call 28 [t106, t107, t108, t109, t110]) fun t111 =>
  .op (.mv t111) fun t105 =>
  .op (.extract t105 0) fun t112 =>
  c19_r20_c1 e t105 t112) h Q := Iff.rfl
def c19_r21 : Env → Reg := fun e =>
  .op (.mv (e 17)) fun t114 =>
  .op (.mv t114) fun t11 =>
  .done (e.upd 11 t11)
theorem c19_r21_run {CP : CProg} (e : Env) (h : Heap) (Q : Post) : RunR CP (c19_r21 e) h Q ↔ RunR CP (
  .op (.mv (e 17)) fun t114 =>
  .op (.mv t114) fun t11 =>
  .done (e.upd 11 t11)) h Q := Iff.rfl
def c19_r22 : Env → Reg := fun e =>
  .op (.mv (e 16)) fun t115 =>
  .op (.mv (e 1)) fun t116 =>
  .op (.bin .sub t115 t116) fun t117 =>
  .op (.mv (e 2)) fun t118 =>
  .op (.mv (e 16)) fun t119 =>
  .op (.bin .sub t118 t119) fun t120 =>
  .op (.mv t117) fun t18 =>
  .op (.mv t120) fun t19 =>
  .done ((e.upd 18 t18).upd 19 t19)
theorem c19_r22_run {CP : CProg} (e : Env) (h : Heap) (Q : Post) : RunR CP (c19_r22 e) h Q ↔ RunR CP (
  .op (.mv (e 16)) fun t115 =>
  .op (.mv (e 1)) fun t116 =>
  .op (.bin .sub t115 t116) fun t117 =>
  .op (.mv (e 2)) fun t118 =>
  .op (.mv (e 16)) fun t119 =>
  .op (.bin .sub t118 t119) fun t120 =>
  .op (.mv t117) fun t18 =>
  .op (.mv t120) fun t19 =>
  .done ((e.upd 18 t18).upd 19 t19)) h Q := Iff.rfl
def c19_r23 : Env → Reg := fun e =>
  .op (.mv (e 12)) fun t121 =>
  .op (.bin .quo t121 (.int .i64 8)) fun t122 =>
  .op (.mv t122) fun t20 =>
  .done (e.upd 20 t20)
theorem c19_r23_run {CP : CProg} (e : Env) (h : Heap) (Q : Post) : RunR CP (c19_r23 e) h Q ↔ RunR CP (
  .op (.mv (e 12)) fun t121 =>
  .op (.bin .quo t121 (.int .i64 8)) fun t122 =>
  .op (.mv t122) fun t20 =>
  .done (e.upd 20 t20)) h Q := Iff.rfl
def c19_r24 : Env → Reg := fun e =>
  .op (.mv (e 18)) fun t123 =>
  .op (.mv (e 19)) fun t124 =>
  .op (.bin .lss t123 t124) fun t125 =>
  .done (e.upd 125 t125)
theorem c19_r24_run {CP : CProg} (e : Env) (h : Heap) (Q : Post) : RunR CP (c19_r24 e) h Q ↔ RunR CP (
  .op (.mv (e 18)) fun t123 =>
  .op (.mv (e 19)) fun t124 =>
  .op (.bin .lss t123 t124) fun t125 =>
  .done (e.upd 125 t125)) h Q := Iff.rfl
def c19_r25 : Env → Reg := fun e =>
  .op (.mv (e 18)) fun t126 =>
  .op (.mv (e 20)) fun t127 =>
  .op (.bin .geq t126 t127) fun t128 =>
  .op (.mv t128) fun t10 =>
  .done (e.upd 10 t10)
theorem c19_r25_run {CP : CProg} (e : Env) (h : Heap) (Q : Post) : RunR CP (c19_r25 e) h Q ↔ RunR CP (
  .op (.mv (e 18)) fun t126 =>
  .op (.mv (e 20)) fun t127 =>
  .op (.bin .geq t126 t127) fun t128 =>
  .op (.mv t128) fun t10 =>
  .done (e.upd 10 t10)) h Q := Iff.rfl
def c19_r26 : Env → Reg := fun e =>
  .op (.mv (e 0)) fun t129 =>
  .op (.mv (e 1)) fun t130 =>
  .op (.mv (e 16)) fun t131 =>
  .op (.mv (e 3)) fun t132 =>
  .op (.mv (e 4)) fun t133 =>
  .op (.call 19 [t129, t130, t131, t132, t133]) fun t134 =>
  .done e
theorem c19_r26_run {CP : CProg} (e : Env) (h : Heap) (Q : Post) : RunR CP (c19_r26 e) h Q ↔ RunR CP (
  .op (.mv (e 0)) fun t129 =>
  .op (.mv (e 1)) fun t130 =>
  .op (.mv (e 16)) fun t131 =>
  .op (.mv (e 3)) fun t132 =>
  .op (.mv (e 4)) fun t133 =>
  .op (.call 19 [t129, t130, t131, t132, t133]) fun t134 =>
  .done e) h Q := Iff.rfl
def c19_r27 : Env → Reg := fun e =>
  .op (.mv (e 16)) fun t135 =>
  .op (.bin .add t135 (.int .i64 1)) fun t136 =>
  .op (.mv t136) fun t1 =>
  .done (e.upd 1 t1)
theorem c19_r27_run {CP : CProg} (e : Env) (h : Heap) (Q : Post) : RunR CP (c19_r27 e) h Q ↔ RunR CP (
  .op (.mv (e 16)) fun t135 =>
  .op (.bin .add t135 (.int .i64 1)) fun t136 =>
  .op (.mv t136) fun t1 =>
  .done (e.upd 1 t1)) h Q := Iff.rfl
def c19_r28 : Env → Reg := fun e =>
  .op (.mv (e 19)) fun t137 =>
  .op (.mv (e 20)) fun t138 =>
  .op (.bin .geq t137 t138) fun t139 =>
  .op (.mv t139) fun t10 =>
  .done (e.upd 10 t10)
theorem c19_r28_run {CP : CProg} (e : Env) (h : Heap) (Q : Post) : RunR CP (c19_r28 e) h Q ↔ RunR CP (
  .op (.mv (e 19)) fun t137 =>
  .op (.mv (e 20)) fun t138 =>
  .op (.bin .geq t137 t138) fun t139 =>
  .op (.mv t139) fun t10 =>
  .done (e.upd 10 t10)) h Q := Iff.rfl
def c19_r29 : Env → Reg := fun e =>
  .op (.mv (e 0)) fun t140 =>
  .op (.mv (e 16)) fun t141 =>
  .op (.bin .add t141 (.int .i64 1)) fun t142 =>
  .op (.mv (e 2)) fun t143 =>
  .op (.mv (e 3)) fun t144 =>
  .op (.mv (e 4)) fun t145 =>
  .op (.call 19 [t140, t142, t143, t144, t145]) fun t146 =>
  .done e
theorem c19_r29_run {CP : CProg} (e : Env) (h : Heap) (Q : Post) : RunR CP (c19_r29 e) h Q ↔ RunR CP (
  .op (.mv (e 0)) fun t140 =>
  .op (.mv (e 16)) fun t141 =>
  .op (.bin .add t141 (.int .i64 1)) fun t142 =>
  .op (.mv (e 2)) fun t143 =>
  .op (.mv (e 3)) fun t144 =>
  .op (.mv (e 4)) fun t145 =>
  .op (.call 19 [t140, t142, t143, t144, t145]) fun t146 =>
  .done e) h Q := Iff.rfl
def c19_r30 : Env → Reg := fun e =>
  .op (.mv (e 16)) fun t147 =>
  .op (.mv t147) fun t2 =>
  .done (e.upd 2 t2)
theorem c19_r30_run {CP : CProg} (e : Env) (h : Heap) (Q : Post) : RunR CP (c19_r30 e) h Q ↔ RunR CP (
  .op (.mv (e 16)) fun t147 =>
  .op (.mv t147) fun t2 =>
  .done (e.upd 2 t2)) h Q := Iff.rfl
def c19_l0 : CC := (.block 1 (.seq (.region c19_r2) (.seq (.seq (.region c19_r3) (.cond (fun e => e 25) (.seq (.region c19_r4) .ret) .skip)) (.seq (.seq (.region c19_r5) (.cond (fun e => e 32) (.seq (.region c19_r6) .ret) .skip)) (.seq (.seq (.region c19_r7) (.cond (fun e => e 39) (.seq (.region c19_r8) (.region c19_r9)) .skip)) (.seq (.region c19_r10) (.seq (.seq (.region c19_r11) (.cond (fun e => e 56) (.seq (.region c19_r12) (.seq (.region c19_r13) (.region c19_r14))) .skip)) (.seq (.seq (.region c19_r15) (.cond (fun e => e 75) (.seq (.region c19_r16) (.cond (fun e => e 80) .ret .skip)) .skip)) (.seq (.seq (.region c19_r17) (.cond (fun e => e 97) (.seq (.region c19_r18) (.seq (.region c19_r19) (.exit 1))) .skip)) (.seq (.region c19_r20) (.seq (.region c19_r21) (.seq (.region c19_r22) (.seq (.region c19_r23) (.seq (.region c19_r24) (.cond (fun e => e 125) (.seq (.region c19_r25) (.seq (.region c19_r26) (.region c19_r27))) (.seq (.region c19_r28) (.seq (.region c19_r29) (.region c19_r30))))))))))))))))))
def c19 : CFn := ⟨(.seq (.region c19_r0) (.seq (.region c19_r1) (.block 0 (.loop c19_l0)))), []⟩
def p19 : Pers := ⟨21, [25, 32, 39, 56, 75, 80, 97, 125], 148⟩
-- 20: math/bits.Len
def c20_r0 : Env → Reg := fun e =>
  .op (.mv (.int .i64 0)) fun t2 =>
  .done (e.upd 2 t2)
theorem c20_r0_run {CP : CProg} (e : Env) (h : Heap) (Q : Post) : RunR CP (c20_r0 e) h Q ↔ RunR CP (
  .op (.mv (.int .i64 0)) fun t2 =>
  .done (e.upd 2 t2)) h Q := Iff.rfl
def c20_r1 : Env → Reg := fun e =>
  .op (.mv (e 0)) fun t3 =>
  .op (.conv .u32 t3) fun t4 =>
  .op (.call 29 [t4]) fun t5 =>
  .op (.mv t5) fun t2 =>
  .done (e.upd 2 t2)
theorem c20_r1_run {CP : CProg} (e : Env) (h : Heap) (Q : Post) : RunR CP (c20_r1 e) h Q ↔ RunR CP (
  .op (.mv (e 0)) fun t3 =>
  .op (.conv .u32 t3) fun t4 =>
  .op (.call 29 [t4]) fun t5 =>
  .op (.mv t5) fun t2 =>
  .done (e.upd 2 t2)) h Q := Iff.rfl
def c20_r2 : Env → Reg := fun e =>
  .op (.mv (e 0)) fun t6 =>
  .op (.call 30 [t6]) fun t7 =>
  .op (.mv t7) fun t2 =>
  .done (e.upd 2 t2)
theorem c20_r2_run {CP : CProg} (e : Env) (h : Heap) (Q : Post) : RunR CP (c20_r2 e) h Q ↔ RunR CP (
  .op (.mv (e 0)) fun t6 =>
  .op (.call 30 [t6]) fun t7 =>
  .op (.mv t7) fun t2 =>
  .done (e.upd 2 t2)) h Q := Iff.rfl
def c20 : CFn := ⟨(.seq (.region c20_r0) (.seq (.cond (fun _ => (.bool false)) (.seq (.region c20_r1) .ret) .skip) (.seq (.region c20_r2) .ret))), [.t 2]⟩
def p20 : Pers := ⟨3, [], 8⟩
-- 21: slices.insertionSortCmpFunc[weighbridge/audit.Who]
def c21_r0 : Env → Reg := fun e =>
  .op (.mv (e 1)) fun t10 =>
  .op (.bin .add t10 (.int .i64 1)) fun t11 =>
  .op (.mv t11) fun t8 =>
  .done (e.upd 8 t8)
theorem c21_r0_run {CP : CProg} (e : Env) (h : Heap) (Q : Post) : RunR CP (c21_r0 e) h Q ↔ RunR CP (
  .op (.mv (e 1)) fun t10 =>
  .op (.bin .add t10 (.int .i64 1)) fun t11 =>
  .op (.mv t11) fun t8 =>
  .done (e.upd 8 t8)) h Q := Iff.rfl
def c21_r1 : Env → Reg := fun e =>
  .op (.mv (e 8)) fun t12 =>
  .op (.mv (e 2)) fun t13 =>
  .op (.bin .lss t12 t13) fun t14 =>
  .done (e.upd 14 t14)
theorem c21_r1_run {CP : CProg} (e : Env) (h : Heap) (Q : Post) : RunR CP (c21_r1 e) h Q ↔ RunR CP (
  .op (.mv (e 8)) fun t12 =>
  .op (.mv (e 2)) fun t13 =>
  .op (.bin .lss t12 t13) fun t14 =>
  .done (e.upd 14 t14)) h Q := Iff.rfl
def c21_r3 : Env → Reg := fun e =>
  .op (.mv (e 8)) fun t17 =>
  .op (.mv t17) fun t9 =>
  .done (e.upd 9 t9)
theorem c21_r3_run {CP : CProg} (e : Env) (h : Heap) (Q : Post) : RunR CP (c21_r3 e) h Q ↔ RunR CP (
  .op (.mv (e 8)) fun t17 =>
  .op (.mv t17) fun t9 =>
  .done (e.upd 9 t9)) h Q := Iff.rfl
def c21_r4_c1 (e : Env) (t21 : Value) (t22 : Value) (t25 : Value) : Reg :=
  .opg t21 true (.load (some 2) t25) fun t26 =>
  .opg t21 true (.mv (e 0)) fun t27 =>
  .opg t21 true (.mv (e 9)) fun t28 =>
  .opg t21 true (.bin .sub t28 (.int .i64 1)) fun t29 =>
  .opg t21 true (.indexSl 2 t27 t29) fun t30 =>
  .opg t21 true (.load (some 2) t30) fun t31 =>
  .snap fun h14 =>
  .opg t21 true (.callv t22 [t26, t31]) fun t32 =>
  .opg t21 true (.bin .lss t32 (.int .i64 0)) fun t33 =>
  .op (.pick t21 t33 (.bool false)) fun t34 =>
  .done (e.upd 34 t34)
theorem c21_r4_c1_run {CP : CProg} (e : Env) (t21 : Value) (t22 : Value) (t25 : Value) (h : Heap) (Q : Post) : RunR CP (c21_r4_c1 e t21 t22 t25) h Q ↔ RunR CP (
  .opg t21 true (.load (some 2) t25) fun t26 =>
  .opg t21 true (.mv (e 0)) fun t27 =>
  .opg t21 true (.mv (e 9)) fun t28 =>
  .opg t21 true (.bin .sub t28 (.int .i64 1)) fun t29 =>
  .opg t21 true (.indexSl 2 t27 t29) fun t30 =>
  .opg t21 true (.load (some 2) t30) fun t31 =>
  .snap fun h14 =>
  .opg t21 true (.callv t22 [t26, t31]) fun t32 =>
  .opg t21 true (.bin .lss t32 (.int .i64 0)) fun t33 =>
  .op (.pick t21 t33 (.bool false)) fun t34 =>
  .done (e.upd 34 t34)) h Q := Iff.rfl
def c21_r4 : Env → Reg := fun e =>
  .op (.mv (e 9)) fun t18 =>
  .op (.mv (e 1)) fun t19 =>
  .op (.bin .gtr t18 t19) fun t20 =>
  .op (.mv t20) fun t21 =>
  .opg t21 true (.mv (e 3)) fun t22 =>
  .opg t21 true (.mv (e 0)) fun t23 =>
  .opg t21 true (.mv (e 9)) fun t24 =>
  .opg t21 true (.indexSl 2 t23 t24) fun t25 =>
  c21_r4_c1 e t21 t22 t25
theorem c21_r4_run {CP : CProg} (e : Env) (h : Heap) (Q : Post) : RunR CP (c21_r4 e) h Q ↔ RunR CP (
  .op (.mv (e 9)) fun t18 =>
  .op (.mv (e 1)) fun t19 =>
  .op (.bin .gtr t18 t19) fun t20 =>
  .op (.mv t20) fun t21 =>
  .opg t21 true (.mv (e 3)) fun t22 =>
  .opg t21 true (.mv (e 0)) fun t23 =>
  .opg t21 true (.mv (e 9)) fun t24 =>
  .opg t21 true (.indexSl 2 t23 t24) fun t25 =>
  c21_r4_c1 e t21 t22 t25) h Q := Iff.rfl
def c21_r6_c2 (e : Env) (t39 : Value) (t41 : Value) (t46 : Value) (t50 : Value) (t51 : Value) : Reg :=
  .op (.store 2 t51 t46) fun _ =>
  .op (.indexSl 2 t39 t41) fun t52 =>
  .snap fun h17 =>
  .op (.store 2 t52 t50) fun _ =>
  .done e
theorem c21_r6_c2_run {CP : CProg} (e : Env) (t39 : Value) (t41 : Value) (t46 : Value) (t50 : Value) (t51 : Value) (h : Heap) (Q : Post) : RunR CP (c21_r6_c2 e t39 t41 t46 t50 t51) h Q ↔ RunR CP (
  .op (.store 2 t51 t46) fun _ =>
  .op (.indexSl 2 t39 t41) fun t52 =>
  .snap fun h17 =>
  .op (.store 2 t52 t50) fun _ =>
  .done e) h Q := Iff.rfl
def c21_r6_c1 (e : Env) (t37 : Value) (t38 : Value) (t39 : Value) (t41 : Value) (t42 : Value) (t44 : Value) : Reg :=
  .op (.indexSl 2 t42 t44) fun t45 =>
  .op (.load (some 2) t45) fun t46 =>
  .op (.mv (e 0)) fun t47 =>
  .op (.mv (e 9)) fun t48 =>
  .op (.indexSl 2 t47 t48) fun t49 =>
  .op (.load (some 2) t49) fun t50 =>
  .op (.indexSl 2 t37 t38) fun t51 =>
  .snap fun h15 =>
  c21_r6_c2 e t39 t41 t46 t50 t51
theorem c21_r6_c1_run {CP : CProg} (e : Env) (t37 : Value) (t38 : Value) (t39 : Value) (t41 : Value) (t42 : Value) (t44 : Value) (h : Heap) (Q : Post) : RunR CP (c21_r6_c1 e t37 t38 t39 t41 t42 t44) h Q ↔ RunR CP (
  .op (.indexSl 2 t42 t44) fun t45 =>
  .op (.load (some 2) t45) fun t46 =>
  .op (.mv (e 0)) fun t47 =>
  .op (.mv (e 9)) fun t48 =>
  .op (.indexSl 2 t47 t48) fun t49 =>
  .op (.load (some 2) t49) fun t50 =>
  .op (.indexSl 2 t37 t38) fun t51 =>
  .snap fun h15 =>
  c21_r6_c2 e t39 t41 t46 t50 t51) h Q := Iff.rfl
def c21_r6 : Env → Reg := fun e =>
  .op (.mv (e 0)) fun t37 =>
  .op (.mv (e 9)) fun t38 =>
  .op (.mv (e 0)) fun t39 =>
  .op (.mv (e 9)) fun t40 =>
  .op (.bin .sub t40 (.int .i64 1)) fun t41 =>
  .op (.mv (e 0)) fun t42 =>
  .op (.mv (e 9)) fun t43 =>
  .op (.bin .sub t43 (.int .i64 1)) fun t44 =>
  c21_r6_c1 e t37 t38 t39 t41 t42 t44
theorem c21_r6_run {CP : CProg} (e : Env) (h : Heap) (Q : Post) : RunR CP (c21_r6 e) h Q ↔ RunR CP (
  .op (.mv (e 0)) fun t37 =>
  .op (.mv (e 9)) fun t38 =>
  .op (.mv (e 0)) fun t39 =>
  .op (.mv (e 9)) fun t40 =>
  .op (.bin .sub t40 (.int .i64 1)) fun t41 =>
  .op (.mv (e 0)) fun t42 =>
  .op (.mv (e 9)) fun t43 =>
  .op (.bin .sub t43 (.int .i64 1)) fun t44 =>
  c21_r6_c1 e t37 t38 t39 t41 t42 t44) h Q := Iff.rfl
def c21_r5 : Env → Reg := fun e =>
  .op (.mv (e 9)) fun t35 =>
  .op (.bin .sub t35 (.int .i64 1)) fun t36 =>
  .op (.mv t36) fun t9 =>
  .done (e.upd 9 t9)
theorem c21_r5_run {CP : CProg} (e : Env) (h : Heap) (Q : Post) : RunR CP (c21_r5 e) h Q ↔ RunR CP (
  .op (.mv (e 9)) fun t35 =>
  .op (.bin .sub t35 (.int .i64 1)) fun t36 =>
  .op (.mv t36) fun t9 =>
  .done (e.upd 9 t9)) h Q := Iff.rfl
def c21_l0 : CC := (.seq (.seq (.region c21_r4) (.cond (fun e => e 34) .skip (.exit 2))) (.seq (.block 3 (.region c21_r6)) (.region c21_r5)))
def c21_r2 : Env → Reg := fun e =>
  .op (.mv (e 8)) fun t15 =>
  .op (.bin .add t15 (.int .i64 1)) fun t16 =>
  .op (.mv t16) fun t8 =>
  .done (e.upd 8 t8)
theorem c21_r2_run {CP : CProg} (e : Env) (h : Heap) (Q : Post) : RunR CP (c21_r2 e) h Q ↔ RunR CP (
  .op (.mv (e 8)) fun t15 =>
  .op (.bin .add t15 (.int .i64 1)) fun t16 =>
  .op (.mv t16) fun t8 =>
  .done (e.upd 8 t8)) h Q := Iff.rfl
def c21_l1 : CC := (.seq (.seq (.region c21_r1) (.cond (fun e => e 14) .skip (.exit 0))) (.seq (.block 1 (.seq (.region c21_r3) (.block 2 (.loop c21_l0)))) (.region c21_r2)))
def c21 : CFn := ⟨(.seq (.region c21_r0) (.block 0 (.loop c21_l1))), []⟩
def p21 : Pers := ⟨10, [14, 34], 53⟩
-- 22: slices.heapSortCmpFunc[weighbridge/audit.Who]
def c22_r0 : Env → Reg := fun e =>
  .op (.mv (e 1)) fun t13 =>
  .op (.mv t13) fun t8 =>
  .done (e.upd 8 t8)
theorem c22_r0_run {CP : CProg} (e : Env) (h : Heap) (Q : Post) : RunR CP (c22_r0 e) h Q ↔ RunR CP (
  .op (.mv (e 1)) fun t13 =>
  .op (.mv t13) fun t8 =>
  .done (e.upd 8 t8)) h Q := Iff.rfl
def c22_r1 : Env → Reg := fun e =>
  .op (.mv (.int .i64 0)) fun t9 =>
  .done (e.upd 9 t9)
theorem c22_r1_run {CP : CProg} (e : Env) (h : Heap) (Q : Post) : RunR CP (c22_r1 e) h Q ↔ RunR CP (
  .op (.mv (.int .i64 0)) fun t9 =>
  .done (e.upd 9 t9)) h Q := Iff.rfl
def c22_r2 : Env → Reg := fun e =>
  .op (.mv (e 2)) fun t14 =>
  .op (.mv (e 1)) fun t15 =>
  .op (.bin .sub t14 t15) fun t16 =>
  .op (.mv t16) fun t10 =>
  .done (e.upd 10 t10)
theorem c22_r2_run {CP : CProg} (e : Env) (h : Heap) (Q : Post) : RunR CP (c22_r2 e) h Q ↔ RunR CP (
  .op (.mv (e 2)) fun t14 =>
  .op (.mv (e 1)) fun t15 =>
  .op (.bin .sub t14 t15) fun t16 =>
  .op (.mv t16) fun t10 =>
  .done (e.upd 10 t10)) h Q := Iff.rfl
def c22_r3 : Env → Reg := fun e =>
  .op (.mv (e 10)) fun t17 =>
  .op (.bin .sub t17 (.int .i64 1)) fun t18 =>
  .op (.bin .quo t18 (.int .i64 2)) fun t19 =>
  .op (.mv t19) fun t11 =>
  .done (e.upd 11 t11)
theorem c22_r3_run {CP : CProg} (e : Env) (h : Heap) (Q : Post) : RunR CP (c22_r3 e) h Q ↔ RunR CP (
  .op (.mv (e 10)) fun t17 =>
  .op (.bin .sub t17 (.int .i64 1)) fun t18 =>
  .op (.bin .quo t18 (.int .i64 2)) fun t19 =>
  .op (.mv t19) fun t11 =>
  .done (e.upd 11 t11)) h Q := Iff.rfl
def c22_r4 : Env → Reg := fun e =>
  .op (.mv (e 11)) fun t20 =>
  .op (.bin .geq t20 (.int .i64 0)) fun t21 =>
  .done (e.upd 21 t21)
theorem c22_r4_run {CP : CProg} (e : Env) (h : Heap) (Q : Post) : RunR CP (c22_r4 e) h Q ↔ RunR CP (
  .op (.mv (e 11)) fun t20 =>
  .op (.bin .geq t20 (.int .i64 0)) fun t21 =>
  .done (e.upd 21 t21)) h Q := Iff.rfl
def c22_r6 : Env → Reg := fun e =>
  .op (.mv (e 0)) fun t24 =>
  .op (.mv (e 11)) fun t25 =>
  .op (.mv (e 10)) fun t26 =>
  .op (.mv (e 8)) fun t27 =>
  .op (.mv (e 3)) fun t28 =>
  .op (.call 31 [t24, t25, t26, t27, t28]) fun t29 =>
  .done e
theorem c22_r6_run {CP : CProg} (e : Env) (h : Heap) (Q : Post) : RunR CP (c22_r6 e) h Q ↔ RunR CP (
  .op (.mv (e 0)) fun t24 =>
  .op (.mv (e 11)) fun t25 =>
  .op (.mv (e 10)) fun t26 =>
  .op (.mv (e 8)) fun t27 =>
  .op (.mv (e 3)) fun t28 =>
  .op (.call 31 [t24, t25, t26, t27, t28]) fun t29 =>
  .done e) h Q := Iff.rfl
def c22_r5 : Env → Reg := fun e =>
  .op (.mv (e 11)) fun t22 =>
  .op (.bin .sub t22 (.int .i64 1)) fun t23 =>
  .op (.mv t23) fun t11 =>
  .done (e.upd 11 t11)
theorem c22_r5_run {CP : CProg} (e : Env) (h : Heap) (Q : Post) : RunR CP (c22_r5 e) h Q ↔ RunR CP (
  .op (.mv (e 11)) fun t22 =>
  .op (.bin .sub t22 (.int .i64 1)) fun t23 =>
  .op (.mv t23) fun t11 =>
  .done (e.upd 11 t11)) h Q := Iff.rfl
def c22_l0 : CC := (.seq (.seq (.region c22_r4) (.cond (fun e => e 21) .skip (.exit 0))) (.seq (.block 1 (.region c22_r6)) (.region c22_r5)))
def c22_r7 : Env → Reg := fun e =>
  .op (.mv (e 10)) fun t30 =>
  .op (.bin .sub t30 (.int .i64 1)) fun t31 =>
  .op (.mv t31) fun t12 =>
  .done (e.upd 12 t12)
theorem c22_r7_run {CP : CProg} (e : Env) (h : Heap) (Q : Post) : RunR CP (c22_r7 e) h Q ↔ RunR CP (
  .op (.mv (e 10)) fun t30 =>
  .op (.bin .sub t30 (.int .i64 1)) fun t31 =>
  .op (.mv t31) fun t12 =>
  .done (e.upd 12 t12)) h Q := Iff.rfl
def c22_r8 : Env → Reg := fun e =>
  .op (.mv (e 12)) fun t32 =>
  .op (.bin .geq t32 (.int .i64 0)) fun t33 =>
  .done (e.upd 33 t33)
theorem c22_r8_run {CP : CProg} (e : Env) (h : Heap) (Q : Post) : RunR CP (c22_r8 e) h Q ↔ RunR CP (
  .op (.mv (e 12)) fun t32 =>
  .op (.bin .geq t32 (.int .i64 0)) fun t33 =>
  .done (e.upd 33 t33)) h Q := Iff.rfl
def c22_r10_c2 (e : Env) (t36 : Value) (t37 : Value) (t38 : Value) (t41 : Value) (t47 : Value) (t51 : Value) : Reg :=
  .op (.indexSl 2 t36 t37) fun t52 =>
  .snap fun h17 =>
  .op (.store 2 t52 t47) fun _ =>
  .op (.indexSl 2 t38 t41) fun t53 =>
  .snap fun h19 =>
  .op (.store 2 t53 t51) fun _ =>
  .done e
theorem c22_r10_c2_run {CP : CProg} (e : Env) (t36 : Value) (t37 : Value) (t38 : Value) (t41 : Value) (t47 : Value) (t51 : Value) (h : Heap) (Q : Post) : RunR CP (c22_r10_c2 e t36 t37 t38 t41 t47 t51) h Q ↔ RunR CP (
  .op (.indexSl 2 t36 t37) fun t52 =>
  .snap fun h17 =>
  .op (.store 2 t52 t47) fun _ =>
  .op (.indexSl 2 t38 t41) fun t53 =>
  .snap fun h19 =>
  .op (.store 2 t53 t51) fun _ =>
  .done e) h Q := Iff.rfl
def c22_r10_c1 (e : Env) (t36 : Value) (t37 : Value) (t38 : Value) (t41 : Value) (t42 : Value) (t43 : Value) : Reg :=
  .op (.mv (e 12)) fun t44 =>
  .op (.bin .add t43 t44) fun t45 =>
  .op (.indexSl 2 t42 t45) fun t46 =>
  .op (.load (some 2) t46) fun t47 =>
  .op (.mv (e 0)) fun t48 =>
  .op (.mv (e 8)) fun t49 =>
  .op (.indexSl 2 t48 t49) fun t50 =>
  .op (.load (some 2) t50) fun t51 =>
  c22_r10_c2 e t36 t37 t38 t41 t47 t51
theorem c22_r10_c1_run {CP : CProg} (e : Env) (t36 : Value) (t37 : Value) (t38 : Value) (t41 : Value) (t42 : Value) (t43 : Value) (h : Heap) (Q : Post) : RunR CP (c22_r10_c1 e t36 t37 t38 t41 t42 t43) h Q ↔ RunR CP (
  .op (.mv (e 12)) fun t44 =>
  .op (.bin .add t43 t44) fun t45 =>
  .op (.indexSl 2 t42 t45) fun t46 =>
  .op (.load (some 2) t46) fun t47 =>
  .op (.mv (e 0)) fun t48 =>
  .op (.mv (e 8)) fun t49 =>
  .op (.indexSl 2 t48 t49) fun t50 =>
  .op (.load (some 2) t50) fun t51 =>
  c22_r10_c2 e t36 t37 t38 t41 t47 t51) h Q := Iff.rfl
def c22_r10 : Env → Reg := fun e =>
  .op (.mv (e 0)) fun t36 =>
  .op (.mv (e 8)) fun t37 =>
  .op (.mv (e 0)) fun t38 =>
  .op (.mv (e 8)) fun t39 =>
  .op (.mv (e 12)) fun t40 =>
  .op (.bin .add t39 t40) fun t41 =>
  .op (.mv (e 0)) fun t42 =>
  .op (.mv (e 8)) fun t43 =>
  c22_r10_c1 e t36 t37 t38 t41 t42 t43
theorem c22_r10_run {CP : CProg} (e : Env) (h : Heap) (Q : Post) : RunR CP (c22_r10 e) h Q ↔ RunR CP (
  .op (.mv (e 0)) fun t36 =>
  .op (.mv (e 8)) fun t37 =>
  .op (.mv (e 0)) fun t38 =>
  .op (.mv (e 8)) fun t39 =>
  .op (.mv (e 12)) fun t40 =>
  .op (.bin .add t39 t40) fun t41 =>
  .op (.mv (e 0)) fun t42 =>
  .op (.mv (e 8)) fun t43 =>
  c22_r10_c1 e t36 t37 t38 t41 t42 t43) h Q := Iff.rfl
def c22_r11 : Env → Reg := fun e =>
  .op (.mv (e 0)) fun t54 =>
  .op (.mv (e 9)) fun t55 =>
  .op (.mv (e 12)) fun t56 =>
  .op (.mv (e 8)) fun t57 =>
  .op (.mv (e 3)) fun t58 =>
  .op (.call 31 [t54, t55, t56, t57, t58]) fun t59 =>
  .done e
theorem c22_r11_run {CP : CProg} (e : Env) (h : Heap) (Q : Post) : RunR CP (c22_r11 e) h Q ↔ RunR CP (
  .op (.mv (e 0)) fun t54 =>
  .op (.mv (e 9)) fun t55 =>
  .op (.mv (e 12)) fun t56 =>
  .op (.mv (e 8)) fun t57 =>
  .op (.mv (e 3)) fun t58 =>
  .op (.call 31 [t54, t55, t56, t57, t58]) fun t59 =>
  .done e) h Q := Iff.rfl
def c22_r9 : Env → Reg := fun e =>
  .op (.mv (e 12)) fun t34 =>
  .op (.bin .sub t34 (.int .i64 1)) fun t35 =>
  .op (.mv t35) fun t12 =>
  .done (e.upd 12 t12)
theorem c22_r9_run {CP : CProg} (e : Env) (h : Heap) (Q : Post) : RunR CP (c22_r9 e) h Q ↔ RunR CP (
  .op (.mv (e 12)) fun t34 =>
  .op (.bin .sub t34 (.int .i64 1)) fun t35 =>
  .op (.mv t35) fun t12 =>
  .done (e.upd 12 t12)) h Q := Iff.rfl
def c22_l1 : CC := (.seq (.seq (.region c22_r8) (.cond (fun e => e 33) .skip (.exit 2))) (.seq (.block 3 (.seq (.region c22_r10) (.region c22_r11))) (.region c22_r9)))
def c22 : CFn := ⟨(.seq (.region c22_r0) (.seq (.region c22_r1) (.seq (.region c22_r2) (.seq (.seq (.region c22_r3) (.block 0 (.loop c22_l0))) (.seq (.region c22_r7) (.block 2 (.loop c22_l1))))))), []⟩
def p22 : Pers := ⟨13, [21, 33], 60⟩
-- 23: slices.breakPatternsCmpFunc[weighbridge/audit.Who]
def c23_r0 : Env → Reg := fun e =>
  .op (.mv (e 2)) fun t13 =>
  .op (.mv (e 1)) fun t14 =>
  .op (.bin .sub t13 t14) fun t15 =>
  .op (.mv t15) fun t8 =>
  .done (e.upd 8 t8)
theorem c23_r0_run {CP : CProg} (e : Env) (h : Heap) (Q : Post) : RunR CP (c23_r0 e) h Q ↔ RunR CP (
  .op (.mv (e 2)) fun t13 =>
  .op (.mv (e 1)) fun t14 =>
  .op (.bin .sub t13 t14) fun t15 =>
  .op (.mv t15) fun t8 =>
  .done (e.upd 8 t8)) h Q := Iff.rfl
def c23_r1 : Env → Reg := fun e =>
  .op (.mv (e 8)) fun t16 =>
  .op (.bin .geq t16 (.int .i64 8)) fun t17 =>
  .done (e.upd 17 t17)
theorem c23_r1_run {CP : CProg} (e : Env) (h : Heap) (Q : Post) : RunR CP (c23_r1 e) h Q ↔ RunR CP (
  .op (.mv (e 8)) fun t16 =>
  .op (.bin .geq t16 (.int .i64 8)) fun t17 =>
  .done (e.upd 17 t17)) h Q := Iff.rfl
def c23_r2 : Env → Reg := fun e =>
  .op (.mv (e 8)) fun t18 =>
  .op (.conv .u64 t18) fun t19 =>
  .op (.alloc 67 [(.int .u64 0)]) fun t9 =>
  .op (.store 1 t9 t19) fun _ =>
  .done (e.upd 9 t9)
theorem c23_r2_run {CP : CProg} (e : Env) (h : Heap) (Q : Post) : RunR CP (c23_r2 e) h Q ↔ RunR CP (
  .op (.mv (e 8)) fun t18 =>
  .op (.conv .u64 t18) fun t19 =>
  .op (.alloc 67 [(.int .u64 0)]) fun t9 =>
  .op (.store 1 t9 t19) fun _ =>
  .done (e.upd 9 t9)) h Q := Iff.rfl
def c23_r3 : Env → Reg := fun e =>
  .op (.mv (e 8)) fun t20 =>
  .op (.call 32 [t20]) fun t21 =>
  .op (.mv t21) fun t10 =>
  .done (e.upd 10 t10)
theorem c23_r3_run {CP : CProg} (e : Env) (h : Heap) (Q : Post) : RunR CP (c23_r3 e) h Q ↔ RunR CP (
  .op (.mv (e 8)) fun t20 =>
  .op (.call 32 [t20]) fun t21 =>
  .op (.mv t21) fun t10 =>
  .done (e.upd 10 t10)) h Q := Iff.rfl
def c23_r4 : Env → Reg := fun e =>
  .op (.mv (e 1)) fun t22 =>
  .op (.mv (e 8)) fun t23 =>
  .op (.bin .quo t23 (.int .i64 4)) fun t24 =>
  .op (.bin .mul t24 (.int .i64 2)) fun t25 =>
  .op (.bin .add t22 t25) fun t26 =>
  .op (.bin .sub t26 (.int .i64 1)) fun t27 =>
  .op (.mv t27) fun t11 =>
  .done (e.upd 11 t11)
theorem c23_r4_run {CP : CProg} (e : Env) (h : Heap) (Q : Post) : RunR CP (c23_r4 e) h Q ↔ RunR CP (
  .op (.mv (e 1)) fun t22 =>
  .op (.mv (e 8)) fun t23 =>
  .op (.bin .quo t23 (.int .i64 4)) fun t24 =>
  .op (.bin .mul t24 (.int .i64 2)) fun t25 =>
  .op (.bin .add t22 t25) fun t26 =>
  .op (.bin .sub t26 (.int .i64 1)) fun t27 =>
  .op (.mv t27) fun t11 =>
  .done (e.upd 11 t11)) h Q := Iff.rfl
def c23_r5 : Env → Reg := fun e =>
  .op (.mv (e 11)) fun t28 =>
  .op (.mv (e 1)) fun t29 =>
  .op (.mv (e 8)) fun t30 =>
  .op (.bin .quo t30 (.int .i64 4)) fun t31 =>
  .op (.bin .mul t31 (.int .i64 2)) fun t32 =>
  .op (.bin .add t29 t32) fun t33 =>
  .op (.bin .add t33 (.int .i64 1)) fun t34 =>
  .op (.bin .leq t28 t34) fun t35 =>
  .done (e.upd 35 t35)
theorem c23_r5_run {CP : CProg} (e : Env) (h : Heap) (Q : Post) : RunR CP (c23_r5 e) h Q ↔ RunR CP (
  .op (.mv (e 11)) fun t28 =>
  .op (.mv (e 1)) fun t29 =>
  .op (.mv (e 8)) fun t30 =>
  .op (.bin .quo t30 (.int .i64 4)) fun t31 =>
  .op (.bin .mul t31 (.int .i64 2)) fun t32 =>
  .op (.bin .add t29 t32) fun t33 =>
  .op (.bin .add t33 (.int .i64 1)) fun t34 =>
  .op (.bin .leq t28 t34) fun t35 =>
  .done (e.upd 35 t35)) h Q := Iff.rfl
def c23_r7 : Env → Reg := fun e =>
  .op (.call 33 [(e 9)]) fun t38 =>
  .op (.mv (e 10)) fun t39 =>
  .op (.bin .sub t39 (.int .u64 1)) fun t40 =>
  .op (.bin .and t38 t40) fun t41 =>
  .op (.conv .i64 t41) fun t42 =>
  .op (.mv t42) fun t12 =>
  .done (e.upd 12 t12)
theorem c23_r7_run {CP : CProg} (e : Env) (h : Heap) (Q : Post) : RunR CP (c23_r7 e) h Q ↔ RunR CP (
  .op (.call 33 [(e 9)]) fun t38 =>
  .op (.mv (e 10)) fun t39 =>
  .op (.bin .sub t39 (.int .u64 1)) fun t40 =>
  .op (.bin .and t38 t40) fun t41 =>
  .op (.conv .i64 t41) fun t42 =>
  .op (.mv t42) fun t12 =>
  .done (e.upd 12 t12)) h Q := Iff.rfl
def c23_r8 : Env → Reg := fun e =>
  .op (.mv (e 12)) fun t43 =>
  .op (.mv (e 8)) fun t44 =>
  .op (.bin .geq t43 t44) fun t45 =>
  .done (e.upd 45 t45)
theorem c23_r8_run {CP : CProg} (e : Env) (h : Heap) (Q : Post) : RunR CP (c23_r8 e) h Q ↔ RunR CP (
  .op (.mv (e 12)) fun t43 =>
  .op (.mv (e 8)) fun t44 =>
  .op (.bin .geq t43 t44) fun t45 =>
  .done (e.upd 45 t45)) h Q := Iff.rfl
def c23_r9 : Env → Reg := fun e =>
  .op (.mv (e 12)) fun t46 =>
  .op (.mv (e 8)) fun t47 =>
  .op (.bin .sub t46 t47) fun t48 =>
  .op (.mv t48) fun t12 =>
  .done (e.upd 12 t12)
theorem c23_r9_run {CP : CProg} (e : Env) (h : Heap) (Q : Post) : RunR CP (c23_r9 e) h Q ↔ RunR CP (
  .op (.mv (e 12)) fun t46 =>
  .op (.mv (e 8)) fun t47 =>
  .op (.bin .sub t46 t47) fun t48 =>
  .op (.mv t48) fun t12 =>
  .done (e.upd 12 t12)) h Q := Iff.rfl
def c23_r10_c2 (e : Env) (t49 : Value) (t50 : Value) (t51 : Value) (t54 : Value) (t60 : Value) (t64 : Value) : Reg :=
  .op (.indexSl 2 t49 t50) fun t65 =>
  .snap fun h17 =>
  .op (.store 2 t65 t60) fun _ =>
  .op (.indexSl 2 t51 t54) fun t66 =>
  .snap fun h19 =>
  .op (.store 2 t66 t64) fun _ =>
  .done e
theorem c23_r10_c2_run {CP : CProg} (e : Env) (t49 : Value) (t50 : Value) (t51 : Value) (t54 : Value) (t60 : Value) (t64 : Value) (h : Heap) (Q : Post) : RunR CP (c23_r10_c2 e t49 t50 t51 t54 t60 t64) h Q ↔ RunR CP (
  .op (.indexSl 2 t49 t50) fun t65 =>
  .snap fun h17 =>
  .op (.store 2 t65 t60) fun _ =>
  .op (.indexSl 2 t51 t54) fun t66 =>
  .snap fun h19 =>
  .op (.store 2 t66 t64) fun _ =>
  .done e) h Q := Iff.rfl
def c23_r10_c1 (e : Env) (t49 : Value) (t50 : Value) (t51 : Value) (t54 : Value) (t55 : Value) (t56 : Value) : Reg :=
  .op (.mv (e 12)) fun t57 =>
  .op (.bin .add t56 t57) fun t58 =>
  .op (.indexSl 2 t55 t58) fun t59 =>
  .op (.load (some 2) t59) fun t60 =>
  .op (.mv (e 0)) fun t61 =>
  .op (.mv (e 11)) fun t62 =>
  .op (.indexSl 2 t61 t62) fun t63 =>
  .op (.load (some 2) t63) fun t64 =>
  c23_r10_c2 e t49 t50 t51 t54 t60 t64
theorem c23_r10_c1_run {CP : CProg} (e : Env) (t49 : Value) (t50 : Value) (t51 : Value) (t54 : Value) (t55 : Value) (t56 : Value) (h : Heap) (Q : Post) : RunR CP (c23_r10_c1 e t49 t50 t51 t54 t55 t56) h Q ↔ RunR CP (
  .op (.mv (e 12)) fun t57 =>
  .op (.bin .add t56 t57) fun t58 =>
  .op (.indexSl 2 t55 t58) fun t59 =>
  .op (.load (some 2) t59) fun t60 =>
  .op (.mv (e 0)) fun t61 =>
  .op (.mv (e 11)) fun t62 =>
  .op (.indexSl 2 t61 t62) fun t63 =>
  .op (.load (some 2) t63) fun t64 =>
  c23_r10_c2 e t49 t50 t51 t54 t60 t64) h Q := Iff.rfl
def c23_r10 : Env → Reg := fun e =>
  .op (.mv (e 0)) fun t49 =>
  .op (.mv (e 11)) fun t50 =>
  .op (.mv (e 0)) fun t51 =>
  .op (.mv (e 1)) fun t52 =>
  .op (.mv (e 12)) fun t53 =>
  .op (.bin .add t52 t53) fun t54 =>
  .op (.mv (e 0)) fun t55 =>
  .op (.mv (e 1)) fun t56 =>
  c23_r10_c1 e t49 t50 t51 t54 t55 t56
theorem c23_r10_run {CP : CProg} (e : Env) (h : Heap) (Q : Post) : RunR CP (c23_r10 e) h Q ↔ RunR CP (
  .op (.mv (e 0)) fun t49 =>
  .op (.mv (e 11)) fun t50 =>
  .op (.mv (e 0)) fun t51 =>
  .op (.mv (e 1)) fun t52 =>
  .op (.mv (e 12)) fun t53 =>
  .op (.bin .add t52 t53) fun t54 =>
  .op (.mv (e 0)) fun t55 =>
  .op (.mv (e 1)) fun t56 =>
  c23_r10_c1 e t49 t50 t51 t54 t55 t56) h Q := Iff.rfl
def c23_r6 : Env → Reg := fun e =>
  .op (.mv (e 11)) fun t36 =>
  .op (.bin .add t36 (.int .i64 1)) fun t37 =>
  .op (.mv t37) fun t11 =>
  .done (e.upd 11 t11)
theorem c23_r6_run {CP : CProg} (e : Env) (h : Heap) (Q : Post) : RunR CP (c23_r6 e) h Q ↔ RunR CP (
  .op (.mv (e 11)) fun t36 =>
  .op (.bin .add t36 (.int .i64 1)) fun t37 =>
  .op (.mv t37) fun t11 =>
  .done (e.upd 11 t11)) h Q := Iff.rfl
def c23_l0 : CC := (.seq (.seq (.region c23_r5) (.cond (fun e => e 35) .skip (.exit 0))) (.seq (.block 1 (.seq (.region c23_r7) (.seq (.seq (.region c23_r8) (.cond (fun e => e 45) (.region c23_r9) .skip)) (.region c23_r10)))) (.region c23_r6)))
def c23 : CFn := ⟨(.seq (.region c23_r0) (.seq (.region c23_r1) (.cond (fun e => e 17) (.seq (.region c23_r2) (.seq (.region c23_r3) (.seq (.region c23_r4) (.block 0 (.loop c23_l0))))) .skip))), []⟩
def p23 : Pers := ⟨13, [17, 35, 45], 67⟩
-- 24: slices.choosePivotCmpFunc[weighbridge/audit.Who]
def c24_r0 : Env → Reg := fun e =>
  .op (.mv (.int .i64 0)) fun t8 =>
  .op (.mv (.int .i64 0)) fun t9 =>
  .done ((e.upd 8 t8).upd 9 t9)
theorem c24_r0_run {CP : CProg} (e : Env) (h : Heap) (Q : Post) : RunR CP (c24_r0 e) h Q ↔ RunR CP (
  .op (.mv (.int .i64 0)) fun t8 =>
  .op (.mv (.int .i64 0)) fun t9 =>
  .done ((e.upd 8 t8).upd 9 t9)) h Q := Iff.rfl
def c24_r1 : Env → Reg := fun e =>
  .op (.mv (e 2)) fun t15 =>
  .op (.mv (e 1)) fun t16 =>
  .op (.bin .sub t15 t16) fun t17 =>
  .op (.mv t17) fun t10 =>
  .done (e.upd 10 t10)
theorem c24_r1_run {CP : CProg} (e : Env) (h : Heap) (Q : Post) : RunR CP (c24_r1 e) h Q ↔ RunR CP (
  .op (.mv (e 2)) fun t15 =>
  .op (.mv (e 1)) fun t16 =>
  .op (.bin .sub t15 t16) fun t17 =>
  .op (.mv t17) fun t10 =>
  .done (e.upd 10 t10)) h Q := Iff.rfl
def c24_r2 : Env → Reg := fun e =>
  .op (.alloc 3 [(.int .i64 0)]) fun t11 =>
  .done (e.upd 11 t11)
theorem c24_r2_run {CP : CProg} (e : Env) (h : Heap) (Q : Post) : RunR CP (c24_r2 e) h Q ↔ RunR CP (
  .op (.alloc 3 [(.int .i64 0)]) fun t11 =>
  .done (e.upd 11 t11)) h Q := Iff.rfl
def c24_r3 : Env → Reg := fun e =>
  .op (.mv (e 1)) fun t18 =>
  .op (.mv (e 10)) fun t19 =>
  .op (.bin .quo t19 (.int .i64 4)) fun t20 =>
  .op (.bin .mul t20 (.int .i64 1)) fun t21 =>
  .op (.bin .add t18 t21) fun t22 =>
  .op (.mv t22) fun t12 =>
  .done (e.upd 12 t12)
theorem c24_r3_run {CP : CProg} (e : Env) (h : Heap) (Q : Post) : RunR CP (c24_r3 e) h Q ↔ RunR CP (
  .op (.mv (e 1)) fun t18 =>
  .op (.mv (e 10)) fun t19 =>
  .op (.bin .quo t19 (.int .i64 4)) fun t20 =>
  .op (.bin .mul t20 (.int .i64 1)) fun t21 =>
  .op (.bin .add t18 t21) fun t22 =>
  .op (.mv t22) fun t12 =>
  .done (e.upd 12 t12)) h Q := Iff.rfl
def c24_r4 : Env → Reg := fun e =>
  .op (.mv (e 1)) fun t23 =>
  .op (.mv (e 10)) fun t24 =>
  .op (.bin .quo t24 (.int .i64 4)) fun t25 =>
  .op (.bin .mul t25 (.int .i64 2)) fun t26 =>
  .op (.bin .add t23 t26) fun t27 =>
  .op (.mv t27) fun t13 =>
  .done (e.upd 13 t13)
theorem c24_r4_run {CP : CProg} (e : Env) (h : Heap) (Q : Post) : RunR CP (c24_r4 e) h Q ↔ RunR CP (
  .op (.mv (e 1)) fun t23 =>
  .op (.mv (e 10)) fun t24 =>
  .op (.bin .quo t24 (.int .i64 4)) fun t25 =>
  .op (.bin .mul t25 (.int .i64 2)) fun t26 =>
  .op (.bin .add t23 t26) fun t27 =>
  .op (.mv t27) fun t13 =>
  .done (e.upd 13 t13)) h Q := Iff.rfl
def c24_r5 : Env → Reg := fun e =>
  .op (.mv (e 1)) fun t28 =>
  .op (.mv (e 10)) fun t29 =>
  .op (.bin .quo t29 (.int .i64 4)) fun t30 =>
  .op (.bin .mul t30 (.int .i64 3)) fun t31 =>
  .op (.bin .add t28 t31) fun t32 =>
  .op (.mv t32) fun t14 =>
  .done (e.upd 14 t14)
theorem c24_r5_run {CP : CProg} (e : Env) (h : Heap) (Q : Post) : RunR CP (c24_r5 e) h Q ↔ RunR CP (
  .op (.mv (e 1)) fun t28 =>
  .op (.mv (e 10)) fun t29 =>
  .op (.bin .quo t29 (.int .i64 4)) fun t30 =>
  .op (.bin .mul t30 (.int .i64 3)) fun t31 =>
  .op (.bin .add t28 t31) fun t32 =>
  .op (.mv t32) fun t14 =>
  .done (e.upd 14 t14)) h Q := Iff.rfl
def c24_r6 : Env → Reg := fun e =>
  .op (.mv (e 10)) fun t33 =>
  .op (.bin .geq t33 (.int .i64 8)) fun t34 =>
  .done (e.upd 34 t34)
theorem c24_r6_run {CP : CProg} (e : Env) (h : Heap) (Q : Post) : RunR CP (c24_r6 e) h Q ↔ RunR CP (
  .op (.mv (e 10)) fun t33 =>
  .op (.bin .geq t33 (.int .i64 8)) fun t34 =>
  .done (e.upd 34 t34)) h Q := Iff.rfl
def c24_r7 : Env → Reg := fun e =>
  .op (.mv (e 10)) fun t35 =>
  .op (.bin .geq t35 (.int .i64 50)) fun t36 =>
  .done (e.upd 36 t36)
theorem c24_r7_run {CP : CProg} (e : Env) (h : Heap) (Q : Post) : RunR CP (c24_r7 e) h Q ↔ RunR CP (
  .op (.mv (e 10)) fun t35 =>
  .op (.bin .geq t35 (.int .i64 50)) fun t36 =>
  .done (e.upd 36 t36)) h Q := Iff.rfl
def c24_r8 : Env → Reg := fun e =>
  .op (.mv (e 0)) fun t37 =>
  .op (.mv (e 12)) fun t38 =>
  .op (.mv (e 3)) fun t39 =>
  .op (.call 34 [t37, t38, (e 11), t39]) fun t40 =>
  .op (.mv t40) fun t12 =>
  .done (e.upd 12 t12)
theorem c24_r8_run {CP : CProg} (e : Env) (h : Heap) (Q : Post) : RunR CP (c24_r8 e) h Q ↔ RunR CP (
  .op (.mv (e 0)) fun t37 =>
  .op (.mv (e 12)) fun t38 =>
  .op (.mv (e 3)) fun t39 =>
  .op (.call 34 [t37, t38, (e 11), t39]) fun t40 =>
  .op (.mv t40) fun t12 =>
  .done (e.upd 12 t12)) h Q := Iff.rfl
def c24_r9 : Env → Reg := fun e =>
  .op (.mv (e 0)) fun t41 =>
  .op (.mv (e 13)) fun t42 =>
  .op (.mv (e 3)) fun t43 =>
  .op (.call 34 [t41, t42, (e 11), t43]) fun t44 =>
  .op (.mv t44) fun t13 =>
  .done (e.upd 13 t13)
theorem c24_r9_run {CP : CProg} (e : Env) (h : Heap) (Q : Post) : RunR CP (c24_r9 e) h Q ↔ RunR CP (
  .op (.mv (e 0)) fun t41 =>
  .op (.mv (e 13)) fun t42 =>
  .op (.mv (e 3)) fun t43 =>
  .op (.call 34 [t41, t42, (e 11), t43]) fun t44 =>
  .op (.mv t44) fun t13 =>
  .done (e.upd 13 t13)) h Q := Iff.rfl
def c24_r10 : Env → Reg := fun e =>
  .op (.mv (e 0)) fun t45 =>
  .op (.mv (e 14)) fun t46 =>
  .op (.mv (e 3)) fun t47 =>
  .op (.call 34 [t45, t46, (e 11), t47]) fun t48 =>
  .op (.mv t48) fun t14 =>
  .done (e.upd 14 t14)
theorem c24_r10_run {CP : CProg} (e : Env) (h : Heap) (Q : Post) : RunR CP (c24_r10 e) h Q ↔ RunR CP (
  .op (.mv (e 0)) fun t45 =>
  .op (.mv (e 14)) fun t46 =>
  .op (.mv (e 3)) fun t47 =>
  .op (.call 34 [t45, t46, (e 11), t47]) fun t48 =>
  .op (.mv t48) fun t14 =>
  .done (e.upd 14 t14)) h Q := Iff.rfl
def c24_r11 : Env → Reg := fun e =>
  .op (.mv (e 0)) fun t49 =>
  .op (.mv (e 12)) fun t50 =>
  .op (.mv (e 13)) fun t51 =>
  .op (.mv (e 14)) fun t52 =>
  .op (.mv (e 3)) fun t53 =>
  .op (.call 35 [t49, t50, t51, t52, (e 11), t53]) fun t54 =>
  .op (.mv t54) fun t13 =>
  .done (e.upd 13 t13)
theorem c24_r11_run {CP : CProg} (e : Env) (h : Heap) (Q : Post) : RunR CP (c24_r11 e) h Q ↔ RunR CP (
  .op (.mv (e 0)) fun t49 =>
  .op (.mv (e 12)) fun t50 =>
  .op (.mv (e 13)) fun t51 =>
  .op (.mv (e 14)) fun t52 =>
  .op (.mv (e 3)) fun t53 =>
  .op (.call 35 [t49, t50, t51, t52, (e 11), t53]) fun t54 =>
  .op (.mv t54) fun t13 =>
  .done (e.upd 13 t13)) h Q := Iff.rfl
def c24_r12 : Env → Reg := fun e =>
  .op (.load none (e 11)) fun t55 =>
  .done (e.upd 55 t55)
theorem c24_r12_run {CP : CProg} (e : Env) (h : Heap) (Q : Post) : RunR CP (c24_r12 e) h Q ↔ RunR CP (
  .op (.load none (e 11)) fun t55 =>
  .done (e.upd 55 t55)) h Q := Iff.rfl
def c24_r14 : Env → Reg := fun e =>
  .op (.bin .eql (e 55) (.int .i64 0)) fun t58 =>
  .op (.mv t58) fun t57 =>
  .done (e.upd 57 t57)
theorem c24_r14_run {CP : CProg} (e : Env) (h : Heap) (Q : Post) : RunR CP (c24_r14 e) h Q ↔ RunR CP (
  .op (.bin .eql (e 55) (.int .i64 0)) fun t58 =>
  .op (.mv t58) fun t57 =>
  .done (e.upd 57 t57)) h Q := Iff.rfl
def c24_r15 : Env → Reg := fun e =>
  .op (.mv (e 13)) fun t59 =>
  .op (.mv t59) fun t8 =>
  .op (.mv (.int .i64 1)) fun t9 =>
  .done ((e.upd 8 t8).upd 9 t9)
theorem c24_r15_run {CP : CProg} (e : Env) (h : Heap) (Q : Post) : RunR CP (c24_r15 e) h Q ↔ RunR CP (
  .op (.mv (e 13)) fun t59 =>
  .op (.mv t59) fun t8 =>
  .op (.mv (.int .i64 1)) fun t9 =>
  .done ((e.upd 8 t8).upd 9 t9)) h Q := Iff.rfl
def c24_r16 : Env → Reg := fun e =>
  .op (.bin .eql (e 55) (.int .i64 12)) fun t61 =>
  .op (.mv t61) fun t60 =>
  .done (e.upd 60 t60)
theorem c24_r16_run {CP : CProg} (e : Env) (h : Heap) (Q : Post) : RunR CP (c24_r16 e) h Q ↔ RunR CP (
  .op (.bin .eql (e 55) (.int .i64 12)) fun t61 =>
  .op (.mv t61) fun t60 =>
  .done (e.upd 60 t60)) h Q := Iff.rfl
def c24_r17 : Env → Reg := fun e =>
  .op (.mv (e 13)) fun t62 =>
  .op (.mv t62) fun t8 =>
  .op (.mv (.int .i64 2)) fun t9 =>
  .done ((e.upd 8 t8).upd 9 t9)
theorem c24_r17_run {CP : CProg} (e : Env) (h : Heap) (Q : Post) : RunR CP (c24_r17 e) h Q ↔ RunR CP (
  .op (.mv (e 13)) fun t62 =>
  .op (.mv t62) fun t8 =>
  .op (.mv (.int .i64 2)) fun t9 =>
  .done ((e.upd 8 t8).upd 9 t9)) h Q := Iff.rfl
def c24_r13 : Env → Reg := fun e =>
  .op (.mv (e 13)) fun t56 =>
  .op (.mv t56) fun t8 =>
  .op (.mv (.int .i64 0)) fun t9 =>
  .done ((e.upd 8 t8).upd 9 t9)
theorem c24_r13_run {CP : CProg} (e : Env) (h : Heap) (Q : Post) : RunR CP (c24_r13 e) h Q ↔ RunR CP (
  .op (.mv (e 13)) fun t56 =>
  .op (.mv t56) fun t8 =>
  .op (.mv (.int .i64 0)) fun t9 =>
  .done ((e.upd 8 t8).upd 9 t9)) h Q := Iff.rfl
def c24 : CFn := ⟨(.seq (.region c24_r0) (.seq (.region c24_r1) (.seq (.region c24_r2) (.seq (.region c24_r3) (.seq (.region c24_r4) (.seq (.region c24_r5) (.seq (.seq (.region c24_r6) (.cond (fun e => e 34) (.seq (.seq (.region c24_r7) (.cond (fun e => e 36) (.seq (.region c24_r8) (.seq (.region c24_r9) (.region c24_r10))) .skip)) (.region c24_r11)) .skip)) (.seq (.region c24_r12) (.block 0 (.seq (.region c24_r14) (.cond (fun e => e 57) (.seq (.region c24_r15) .ret) (.seq (.region c24_r16) (.cond (fun e => e 60) (.seq (.region c24_r17) .ret) (.seq (.region c24_r13) .ret)))))))))))))), [.t 8, .t 9]⟩
def p24 : Pers := ⟨15, [34, 36, 55, 57, 60], 63⟩
-- 25: slices.reverseRangeCmpFunc[weighbridge/audit.Who]
def c25_r0 : Env → Reg := fun e =>
  .op (.mv (e 1)) fun t10 =>
  .op (.mv t10) fun t8 =>
  .done (e.upd 8 t8)
theorem c25_r0_run {CP : CProg} (e : Env) (h : Heap) (Q : Post) : RunR CP (c25_r0 e) h Q ↔ RunR CP (
  .op (.mv (e 1)) fun t10 =>
  .op (.mv t10) fun t8 =>
  .done (e.upd 8 t8)) h Q := Iff.rfl
def c25_r1 : Env → Reg := fun e =>
  .op (.mv (e 2)) fun t11 =>
  .op (.bin .sub t11 (.int .i64 1)) fun t12 =>
  .op (.mv t12) fun t9 =>
  .done (e.upd 9 t9)
theorem c25_r1_run {CP : CProg} (e : Env) (h : Heap) (Q : Post) : RunR CP (c25_r1 e) h Q ↔ RunR CP (
  .op (.mv (e 2)) fun t11 =>
  .op (.bin .sub t11 (.int .i64 1)) fun t12 =>
  .op (.mv t12) fun t9 =>
  .done (e.upd 9 t9)) h Q := Iff.rfl
def c25_r2 : Env → Reg := fun e =>
  .op (.mv (e 8)) fun t13 =>
  .op (.mv (e 9)) fun t14 =>
  .op (.bin .lss t13 t14) fun t15 =>
  .done (e.upd 15 t15)
theorem c25_r2_run {CP : CProg} (e : Env) (h : Heap) (Q : Post) : RunR CP (c25_r2 e) h Q ↔ RunR CP (
  .op (.mv (e 8)) fun t13 =>
  .op (.mv (e 9)) fun t14 =>
  .op (.bin .lss t13 t14) fun t15 =>
  .done (e.upd 15 t15)) h Q := Iff.rfl
def c25_r3_c1 (e : Env) (t16 : Value) (t17 : Value) (t18 : Value) (t19 : Value) (t23 : Value) : Reg :=
  .op (.mv (e 0)) fun t24 =>
  .op (.mv (e 8)) fun t25 =>
  .op (.indexSl 2 t24 t25) fun t26 =>
  .op (.load (some 2) t26) fun t27 =>
  .op (.indexSl 2 t16 t17) fun t28 =>
  .snap fun h13 =>
  .op (.store 2 t28 t23) fun _ =>
  .op (.indexSl 2 t18 t19) fun t29 =>
  .snap fun h15 =>
  .op (.store 2 t29 t27) fun _ =>
  .done e
theorem c25_r3_c1_run {CP : CProg} (e : Env) (t16 : Value) (t17 : Value) (t18 : Value) (t19 : Value) (t23 : Value) (h : Heap) (Q : Post) : RunR CP (c25_r3_c1 e t16 t17 t18 t19 t23) h Q ↔ RunR CP (
  .op (.mv (e 0)) fun t24 =>
  .op (.mv (e 8)) fun t25 =>
  .op (.indexSl 2 t24 t25) fun t26 =>
  .op (.load (some 2) t26) fun t27 =>
  .op (.indexSl 2 t16 t17) fun t28 =>
  .snap fun h13 =>
  .op (.store 2 t28 t23) fun _ =>
  .op (.indexSl 2 t18 t19) fun t29 =>
  .snap fun h15 =>
  .op (.store 2 t29 t27) fun _ =>
  .done e) h Q := Iff.rfl
def c25_r3 : Env → Reg := fun e =>
  .op (.mv (e 0)) fun t16 =>
  .op (.mv (e 8)) fun t17 =>
  .op (.mv (e 0)) fun t18 =>
  .op (.mv (e 9)) fun t19 =>
  .op (.mv (e 0)) fun t20 =>
  .op (.mv (e 9)) fun t21 =>
  .op (.indexSl 2 t20 t21) fun t22 =>
  .op (.load (some 2) t22) fun t23 =>
  c25_r3_c1 e t16 t17 t18 t19 t23
theorem c25_r3_run {CP : CProg} (e : Env) (h : Heap) (Q : Post) : RunR CP (c25_r3 e) h Q ↔ RunR CP (
  .op (.mv (e 0)) fun t16 =>
  .op (.mv (e 8)) fun t17 =>
  .op (.mv (e 0)) fun t18 =>
  .op (.mv (e 9)) fun t19 =>
  .op (.mv (e 0)) fun t20 =>
  .op (.mv (e 9)) fun t21 =>
  .op (.indexSl 2 t20 t21) fun t22 =>
  .op (.load (some 2) t22) fun t23 =>
  c25_r3_c1 e t16 t17 t18 t19 t23) h Q := Iff.rfl
def c25_r4 : Env → Reg := fun e =>
  .op (.mv (e 8)) fun t30 =>
  .op (.bin .add t30 (.int .i64 1)) fun t31 =>
  .op (.mv t31) fun t8 =>
  .done (e.upd 8 t8)
theorem c25_r4_run {CP : CProg} (e : Env) (h : Heap) (Q : Post) : RunR CP (c25_r4 e) h Q ↔ RunR CP (
  .op (.mv (e 8)) fun t30 =>
  .op (.bin .add t30 (.int .i64 1)) fun t31 =>
  .op (.mv t31) fun t8 =>
  .done (e.upd 8 t8)) h Q := Iff.rfl
def c25_r5 : Env → Reg := fun e =>
  .op (.mv (e 9)) fun t32 =>
  .op (.bin .sub t32 (.int .i64 1)) fun t33 =>
  .op (.mv t33) fun t9 =>
  .done (e.upd 9 t9)
theorem c25_r5_run {CP : CProg} (e : Env) (h : Heap) (Q : Post) : RunR CP (c25_r5 e) h Q ↔ RunR CP (
  .op (.mv (e 9)) fun t32 =>
  .op (.bin .sub t32 (.int .i64 1)) fun t33 =>
  .op (.mv t33) fun t9 =>
  .done (e.upd 9 t9)) h Q := Iff.rfl
def c25_l0 : CC := (.seq (.seq (.region c25_r2) (.cond (fun e => e 15) .skip (.exit 0))) (.block 1 (.seq (.region c25_r3) (.seq (.region c25_r4) (.region c25_r5)))))
def c25 : CFn := ⟨(.seq (.region c25_r0) (.seq (.region c25_r1) (.block 0 (.loop c25_l0)))), []⟩
def p25 : Pers := ⟨10, [15], 34⟩
-- 26: slices.partialInsertionSortCmpFunc[weighbridge/audit.Who]
def c26_r0 : Env → Reg := fun e =>
  .op (.mv (.bool false)) fun t8 =>
  .done (e.upd 8 t8)
theorem c26_r0_run {CP : CProg} (e : Env) (h : Heap) (Q : Post) : RunR CP (c26_r0 e) h Q ↔ RunR CP (
  .op (.mv (.bool false)) fun t8 =>
  .done (e.upd 8 t8)) h Q := Iff.rfl
def c26_r1 : Env → Reg := fun e =>
  .op (.mv (e 1)) fun t13 =>
  .op (.bin .add t13 (.int .i64 1)) fun t14 =>
  .op (.mv t14) fun t9 =>
  .done (e.upd 9 t9)
theorem c26_r1_run {CP : CProg} (e : Env) (h : Heap) (Q : Post) : RunR CP (c26_r1 e) h Q ↔ RunR CP (
  .op (.mv (e 1)) fun t13 =>
  .op (.bin .add t13 (.int .i64 1)) fun t14 =>
  .op (.mv t14) fun t9 =>
  .done (e.upd 9 t9)) h Q := Iff.rfl
def c26_r2 : Env → Reg := fun e =>
  .op (.mv (.int .i64 0)) fun t10 =>
  .done (e.upd 10 t10)
theorem c26_r2_run {CP : CProg} (e : Env) (h : Heap) (Q : Post) : RunR CP (c26_r2 e) h Q ↔ RunR CP (
  .op (.mv (.int .i64 0)) fun t10 =>
  .done (e.upd 10 t10)) h Q := Iff.rfl
def c26_r3 : Env → Reg := fun e =>
  .op (.mv (e 10)) fun t15 =>
  .op (.bin .lss t15 (.int .i64 5)) fun t16 =>
  .done (e.upd 16 t16)
theorem c26_r3_run {CP : CProg} (e : Env) (h : Heap) (Q : Post) : RunR CP (c26_r3 e) h Q ↔ RunR CP (
  .op (.mv (e 10)) fun t15 =>
  .op (.bin .lss t15 (.int .i64 5)) fun t16 =>
  .done (e.upd 16 t16)) h Q := Iff.rfl
def c26_r5_c2 (e : Env) (t22 : Value) (t33 : Value) : Reg :=
  .opg t22 true (.bin .lss t33 (.int .i64 0)) fun t34 =>
  .opg t22 true (.un .not t34) fun t35 =>
  .op (.pick t22 t35 (.bool false)) fun t36 =>
  .done (e.upd 36 t36)
theorem c26_r5_c2_run {CP : CProg} (e : Env) (t22 : Value) (t33 : Value) (h : Heap) (Q : Post) : RunR CP (c26_r5_c2 e t22 t33) h Q ↔ RunR CP (
  .opg t22 true (.bin .lss t33 (.int .i64 0)) fun t34 =>
  .opg t22 true (.un .not t34) fun t35 =>
  .op (.pick t22 t35 (.bool false)) fun t36 =>
  .done (e.upd 36 t36)) h Q := Iff.rfl
def c26_r5_c1 (e : Env) (t22 : Value) (t23 : Value) (t26 : Value) : Reg :=
  .opg t22 true (.load (some 2) t26) fun t27 =>
  .opg t22 true (.mv (e 0)) fun t28 =>
  .opg t22 true (.mv (e 9)) fun t29 =>
  .opg t22 true (.bin .sub t29 (.int .i64 1)) fun t30 =>
  .opg t22 true (.indexSl 2 t28 t30) fun t31 =>
  .opg t22 true (.load (some 2) t31) fun t32 =>
  .snap fun h14 =>
  .opg t22 true (.callv t23 [t27, t32]) fun t33 =>
  c26_r5_c2 e t22 t33
theorem c26_r5_c1_run {CP : CProg} (e : Env) (t22 : Value) (t23 : Value) (t26 : Value) (h : Heap) (Q : Post) : RunR CP (c26_r5_c1 e t22 t23 t26) h Q ↔ RunR CP (
  .opg t22 true (.load (some 2) t26) fun t27 =>
  .opg t22 true (.mv (e 0)) fun t28 =>
  .opg t22 true (.mv (e 9)) fun t29 =>
  .opg t22 true (.bin .sub t29 (.int .i64 1)) fun t30 =>
  .opg t22 true (.indexSl 2 t28 t30) fun t31 =>
  .opg t22 true (.load (some 2) t31) fun t32 =>
  .snap fun h14 =>
  .opg t22 true (.callv t23 [t27, t32]) fun t33 =>
  c26_r5_c2 e t22 t33) h Q := Iff.rfl
def c26_r5 : Env → Reg := fun e =>
  .op (.mv (e 9)) fun t19 =>
  .op (.mv (e 2)) fun t20 =>
  .op (.bin .lss t19 t20) fun t21 =>
  .op (.mv t21) fun t22 =>
  .opg t22 true (.mv (e 3)) fun t23 =>
  .opg t22 true (.mv (e 0)) fun t24 =>
  .opg t22 true (.mv (e 9)) fun t25 =>
  .opg t22 true (.indexSl 2 t24 t25) fun t26 =>
  c26_r5_c1 e t22 t23 t26
theorem c26_r5_run {CP : CProg} (e : Env) (h : Heap) (Q : Post) : RunR CP (c26_r5 e) h Q ↔ RunR CP (
  .op (.mv (e 9)) fun t19 =>
  .op (.mv (e 2)) fun t20 =>
  .op (.bin .lss t19 t20) fun t21 =>
  .op (.mv t21) fun t22 =>
  .opg t22 true (.mv (e 3)) fun t23 =>
  .opg t22 true (.mv (e 0)) fun t24 =>
  .opg t22 true (.mv (e 9)) fun t25 =>
  .opg t22 true (.indexSl 2 t24 t25) fun t26 =>
  c26_r5_c1 e t22 t23 t26) h Q := Iff.rfl
def c26_r6 : Env → Reg := fun e =>
  .op (.mv (e 9)) fun t37 =>
  .op (.bin .add t37 (.int .i64 1)) fun t38 =>
  .op (.mv t38) fun t9 =>
  .done (e.upd 9 t9)
theorem c26_r6_run {CP : CProg} (e : Env) (h : Heap) (Q : Post) : RunR CP (c26_r6 e) h Q ↔ RunR CP (
  .op (.mv (e 9)) fun t37 =>
  .op (.bin .add t37 (.int .i64 1)) fun t38 =>
  .op (.mv t38) fun t9 =>
  .done (e.upd 9 t9)) h Q := Iff.rfl
def c26_l0 : CC := (.seq (.seq (.region c26_r5) (.cond (fun e => e 36) .skip (.exit 2))) (.block 3 (.region c26_r6)))
def c26_r7 : Env → Reg := fun e =>
  .op (.mv (e 9)) fun t39 =>
  .op (.mv (e 2)) fun t40 =>
  .op (.bin .eql t39 t40) fun t41 =>
  .done (e.upd 41 t41)
theorem c26_r7_run {CP : CProg} (e : Env) (h : Heap) (Q : Post) : RunR CP (c26_r7 e) h Q ↔ RunR CP (
  .op (.mv (e 9)) fun t39 =>
  .op (.mv (e 2)) fun t40 =>
  .op (.bin .eql t39 t40) fun t41 =>
  .done (e.upd 41 t41)) h Q := Iff.rfl
def c26_r8 : Env → Reg := fun e =>
  .op (.mv (.bool true)) fun t8 =>
  .done (e.upd 8 t8)
theorem c26_r8_run {CP : CProg} (e : Env) (h : Heap) (Q : Post) : RunR CP (c26_r8 e) h Q ↔ RunR CP (
  .op (.mv (.bool true)) fun t8 =>
  .done (e.upd 8 t8)) h Q := Iff.rfl
def c26_r9 : Env → Reg := fun e =>
  .op (.mv (e 2)) fun t42 =>
  .op (.mv (e 1)) fun t43 =>
  .op (.bin .sub t42 t43) fun t44 =>
  .op (.bin .lss t44 (.int .i64 50)) fun t45 =>
  .done (e.upd 45 t45)
theorem c26_r9_run {CP : CProg} (e : Env) (h : Heap) (Q : Post) : RunR CP (c26_r9 e) h Q ↔ RunR CP (
  .op (.mv (e 2)) fun t42 =>
  .op (.mv (e 1)) fun t43 =>
  .op (.bin .sub t42 t43) fun t44 =>
  .op (.bin .lss t44 (.int .i64 50)) fun t45 =>
  .done (e.upd 45 t45)) h Q := Iff.rfl
def c26_r10 : Env → Reg := fun e =>
  .op (.mv (.bool false)) fun t8 =>
  .done (e.upd 8 t8)
theorem c26_r10_run {CP : CProg} (e : Env) (h : Heap) (Q : Post) : RunR CP (c26_r10 e) h Q ↔ RunR CP (
  .op (.mv (.bool false)) fun t8 =>
  .done (e.upd 8 t8)) h Q := Iff.rfl
def c26_r11_c2 (e : Env) (t48 : Value) (t50 : Value) (t55 : Value) (t59 : Value) (t60 : Value) : Reg :=
  .op (.store 2 t60 t55) fun _ =>
  .op (.indexSl 2 t48 t50) fun t61 =>
  .snap fun h17 =>
  .op (.store 2 t61 t59) fun _ =>
  .done e
theorem c26_r11_c2_run {CP : CProg} (e : Env) (t48 : Value) (t50 : Value) (t55 : Value) (t59 : Value) (t60 : Value) (h : Heap) (Q : Post) : RunR CP (c26_r11_c2 e t48 t50 t55 t59 t60) h Q ↔ RunR CP (
  .op (.store 2 t60 t55) fun _ =>
  .op (.indexSl 2 t48 t50) fun t61 =>
  .snap fun h17 =>
  .op (.store 2 t61 t59) fun _ =>
  .done e) h Q := Iff.rfl
def c26_r11_c1 (e : Env) (t46 : Value) (t47 : Value) (t48 : Value) (t50 : Value) (t51 : Value) (t53 : Value) : Reg :=
  .op (.indexSl 2 t51 t53) fun t54 =>
  .op (.load (some 2) t54) fun t55 =>
  .op (.mv (e 0)) fun t56 =>
  .op (.mv (e 9)) fun t57 =>
  .op (.indexSl 2 t56 t57) fun t58 =>
  .op (.load (some 2) t58) fun t59 =>
  .op (.indexSl 2 t46 t47) fun t60 =>
  .snap fun h15 =>
  c26_r11_c2 e t48 t50 t55 t59 t60
theorem c26_r11_c1_run {CP : CProg} (e : Env) (t46 : Value) (t47 : Value) (t48 : Value) (t50 : Value) (t51 : Value) (t53 : Value) (h : Heap) (Q : Post) : RunR CP (c26_r11_c1 e t46 t47 t48 t50 t51 t53) h Q ↔ RunR CP (
  .op (.indexSl 2 t51 t53) fun t54 =>
  .op (.load (some 2) t54) fun t55 =>
  .op (.mv (e 0)) fun t56 =>
  .op (.mv (e 9)) fun t57 =>
  .op (.indexSl 2 t56 t57) fun t58 =>
  .op (.load (some 2) t58) fun t59 =>
  .op (.indexSl 2 t46 t47) fun t60 =>
  .snap fun h15 =>
  c26_r11_c2 e t48 t50 t55 t59 t60) h Q := Iff.rfl
def c26_r11 : Env → Reg := fun e =>
  .op (.mv (e 0)) fun t46 =>
  .op (.mv (e 9)) fun t47 =>
  .op (.mv (e 0)) fun t48 =>
  .op (.mv (e 9)) fun t49 =>
  .op (.bin .sub t49 (.int .i64 1)) fun t50 =>
  .op (.mv (e 0)) fun t51 =>
  .op (.mv (e 9)) fun t52 =>
  .op (.bin .sub t52 (.int .i64 1)) fun t53 =>
  c26_r11_c1 e t46 t47 t48 t50 t51 t53
theorem c26_r11_run {CP : CProg} (e : Env) (h : Heap) (Q : Post) : RunR CP (c26_r11 e) h Q ↔ RunR CP (
  .op (.mv (e 0)) fun t46 =>
  .op (.mv (e 9)) fun t47 =>
  .op (.mv (e 0)) fun t48 =>
  .op (.mv (e 9)) fun t49 =>
  .op (.bin .sub t49 (.int .i64 1)) fun t50 =>
  .op (.mv (e 0)) fun t51 =>
  .op (.mv (e 9)) fun t52 =>
  .op (.bin .sub t52 (.int .i64 1)) fun t53 =>
  c26_r11_c1 e t46 t47 t48 t50 t51 t53) h Q := Iff.rfl
def c26_r12 : Env → Reg := fun e =>
  .op (.mv (e 9)) fun t62 =>
  .op (.mv (e 1)) fun t63 =>
  .op (.bin .sub t62 t63) fun t64 =>
  .op (.bin .geq t64 (.int .i64 2)) fun t65 =>
  .done (e.upd 65 t65)
theorem c26_r12_run {CP : CProg} (e : Env) (h : Heap) (Q : Post) : RunR CP (c26_r12 e) h Q ↔ RunR CP (
  .op (.mv (e 9)) fun t62 =>
  .op (.mv (e 1)) fun t63 =>
  .op (.bin .sub t62 t63) fun t64 =>
  .op (.bin .geq t64 (.int .i64 2)) fun t65 =>
  .done (e.upd 65 t65)) h Q := Iff.rfl
def c26_r13 : Env → Reg := fun e =>
  .op (.mv (e 9)) fun t66 =>
  .op (.bin .sub t66 (.int .i64 1)) fun t67 =>
  .op (.mv t67) fun t11 =>
  .done (e.upd 11 t11)
theorem c26_r13_run {CP : CProg} (e : Env) (h : Heap) (Q : Post) : RunR CP (c26_r13 e) h Q ↔ RunR CP (
  .op (.mv (e 9)) fun t66 =>
  .op (.bin .sub t66 (.int .i64 1)) fun t67 =>
  .op (.mv t67) fun t11 =>
  .done (e.upd 11 t11)) h Q := Iff.rfl
def c26_r14 : Env → Reg := fun e =>
  .op (.mv (e 11)) fun t68 =>
  .op (.bin .geq t68 (.int .i64 1)) fun t69 =>
  .done (e.upd 69 t69)
theorem c26_r14_run {CP : CProg} (e : Env) (h : Heap) (Q : Post) : RunR CP (c26_r14 e) h Q ↔ RunR CP (
  .op (.mv (e 11)) fun t68 =>
  .op (.bin .geq t68 (.int .i64 1)) fun t69 =>
  .done (e.upd 69 t69)) h Q := Iff.rfl
def c26_r16_c1 (e : Env) (t72 : Value) (t76 : Value) (t77 : Value) (t79 : Value) : Reg :=
  .op (.indexSl 2 t77 t79) fun t80 =>
  .op (.load (some 2) t80) fun t81 =>
  .snap fun h10 =>
  .op (.callv t72 [t76, t81]) fun t82 =>
  .op (.bin .lss t82 (.int .i64 0)) fun t83 =>
  .op (.un .not t83) fun t84 =>
  .done (e.upd 84 t84)
theorem c26_r16_c1_run {CP : CProg} (e : Env) (t72 : Value) (t76 : Value) (t77 : Value) (t79 : Value) (h : Heap) (Q : Post) : RunR CP (c26_r16_c1 e t72 t76 t77 t79) h Q ↔ RunR CP (
  .op (.indexSl 2 t77 t79) fun t80 =>
  .op (.load (some 2) t80) fun t81 =>
  .snap fun h10 =>
  .op (.callv t72 [t76, t81]) fun t82 =>
  .op (.bin .lss t82 (.int .i64 0)) fun t83 =>
  .op (.un .not t83) fun t84 =>
  .done (e.upd 84 t84)) h Q := Iff.rfl
def c26_r16 : Env → Reg := fun e =>
  .op (.mv (e 3)) fun t72 =>
  .op (.mv (e 0)) fun t73 =>
  .op (.mv (e 11)) fun t74 =>
  .op (.indexSl 2 t73 t74) fun t75 =>
  .op (.load (some 2) t75) fun t76 =>
  .op (.mv (e 0)) fun t77 =>
  .op (.mv (e 11)) fun t78 =>
  .op (.bin .sub t78 (.int .i64 1)) fun t79 =>
  c26_r16_c1 e t72 t76 t77 t79
theorem c26_r16_run {CP : CProg} (e : Env) (h : Heap) (Q : Post) : RunR CP (c26_r16 e) h Q ↔ RunR CP (
  .op (.mv (e 3)) fun t72 =>
  .op (.mv (e 0)) fun t73 =>
  .op (.mv (e 11)) fun t74 =>
  .op (.indexSl 2 t73 t74) fun t75 =>
  .op (.load (some 2) t75) fun t76 =>
  .op (.mv (e 0)) fun t77 =>
  .op (.mv (e 11)) fun t78 =>
  .op (.bin .sub t78 (.int .i64 1)) fun t79 =>
  c26_r16_c1 e t72 t76 t77 t79) h Q := Iff.rfl
def c26_r17_c2 (e : Env) (t87 : Value) (t89 : Value) (t94 : Value) (t98 : Value) (t99 : Value) : Reg :=
  .op (.store 2 t99 t94) fun _ =>
  .op (.indexSl 2 t87 t89) fun t100 =>
  .snap fun h17 =>
  .op (.store 2 t100 t98) fun _ =>
  .done e
theorem c26_r17_c2_run {CP : CProg} (e : Env) (t87 : Value) (t89 : Value) (t94 : Value) (t98 : Value) (t99 : Value) (h : Heap) (Q : Post) : RunR CP (c26_r17_c2 e t87 t89 t94 t98 t99) h Q ↔ RunR CP (
  .op (.store 2 t99 t94) fun _ =>
  .op (.indexSl 2 t87 t89) fun t100 =>
  .snap fun h17 =>
  .op (.store 2 t100 t98) fun _ =>
  .done e) h Q := Iff.rfl
def c26_r17_c1 (e : Env) (t85 : Value) (t86 : Value) (t87 : Value) (t89 : Value) (t90 : Value) (t92 : Value) : Reg :=
  .op (.indexSl 2 t90 t92) fun t93 =>
  .op (.load (some 2) t93) fun t94 =>
  .op (.mv (e 0)) fun t95 =>
  .op (.mv (e 11)) fun t96 =>
  .op (.indexSl 2 t95 t96) fun t97 =>
  .op (.load (some 2) t97) fun t98 =>
  .op (.indexSl 2 t85 t86) fun t99 =>
  .snap fun h15 =>
  c26_r17_c2 e t87 t89 t94 t98 t99
theorem c26_r17_c1_run {CP : CProg} (e : Env) (t85 : Value) (t86 : Value) (t87 : Value) (t89 : Value) (t90 : Value) (t92 : Value) (h : Heap) (Q : Post) : RunR CP (c26_r17_c1 e t85 t86 t87 t89 t90 t92) h Q ↔ RunR CP (
  .op (.indexSl 2 t90 t92) fun t93 =>
  .op (.load (some 2) t93) fun t94 =>
  .op (.mv (e 0)) fun t95 =>
  .op (.mv (e 11)) fun t96 =>
  .op (.indexSl 2 t95 t96) fun t97 =>
  .op (.load (some 2) t97) fun t98 =>
  .op (.indexSl 2 t85 t86) fun t99 =>
  .snap fun h15 =>
  c26_r17_c2 e t87 t89 t94 t98 t99) h Q := Iff.rfl
def c26_r17 : Env → Reg := fun e =>
  .op (.mv (e 0)) fun t85 =>
  .op (.mv (e 11)) fun t86 =>
  .op (.mv (e 0)) fun t87 =>
  .op (.mv (e 11)) fun t88 =>
  .op (.bin .sub t88 (.int .i64 1)) fun t89 =>
  .op (.mv (e 0)) fun t90 =>
  .op (.mv (e 11)) fun t91 =>
  .op (.bin .sub t91 (.int .i64 1)) fun t92 =>
  c26_r17_c1 e t85 t86 t87 t89 t90 t92
theorem c26_r17_run {CP : CProg} (e : Env) (h : Heap) (Q : Post) : RunR CP (c26_r17 e) h Q ↔ RunR CP (
  .op (.mv (e 0)) fun t85 =>
  .op (.mv (e 11)) fun t86 =>
  .op (.mv (e 0)) fun t87 =>
  .op (.mv (e 11)) fun t88 =>
  .op (.bin .sub t88 (.int .i64 1)) fun t89 =>
  .op (.mv (e 0)) fun t90 =>
  .op (.mv (e 11)) fun t91 =>
  .op (.bin .sub t91 (.int .i64 1)) fun t92 =>
  c26_r17_c1 e t85 t86 t87 t89 t90 t92) h Q := Iff.rfl
def c26_r15 : Env → Reg := fun e =>
  .op (.mv (e 11)) fun t70 =>
  .op (.bin .sub t70 (.int .i64 1)) fun t71 =>
  .op (.mv t71) fun t11 =>
  .done (e.upd 11 t11)
theorem c26_r15_run {CP : CProg} (e : Env) (h : Heap) (Q : Post) : RunR CP (c26_r15 e) h Q ↔ RunR CP (
  .op (.mv (e 11)) fun t70 =>
  .op (.bin .sub t70 (.int .i64 1)) fun t71 =>
  .op (.mv t71) fun t11 =>
  .done (e.upd 11 t11)) h Q := Iff.rfl
def c26_l1 : CC := (.seq (.seq (.region c26_r14) (.cond (fun e => e 69) .skip (.exit 4))) (.seq (.block 5 (.seq (.seq (.region c26_r16) (.cond (fun e => e 84) (.exit 4) .skip)) (.region c26_r17))) (.region c26_r15)))
def c26_r18 : Env → Reg := fun e =>
  .op (.mv (e 2)) fun t101 =>
  .op (.mv (e 9)) fun t102 =>
  .op (.bin .sub t101 t102) fun t103 =>
  .op (.bin .geq t103 (.int .i64 2)) fun t104 =>
  .done (e.upd 104 t104)
theorem c26_r18_run {CP : CProg} (e : Env) (h : Heap) (Q : Post) : RunR CP (c26_r18 e) h Q ↔ RunR CP (
  .op (.mv (e 2)) fun t101 =>
  .op (.mv (e 9)) fun t102 =>
  .op (.bin .sub t101 t102) fun t103 =>
  .op (.bin .geq t103 (.int .i64 2)) fun t104 =>
  .done (e.upd 104 t104)) h Q := Iff.rfl
def c26_r19 : Env → Reg := fun e =>
  .op (.mv (e 9)) fun t105 =>
  .op (.bin .add t105 (.int .i64 1)) fun t106 =>
  .op (.mv t106) fun t12 =>
  .done (e.upd 12 t12)
theorem c26_r19_run {CP : CProg} (e : Env) (h : Heap) (Q : Post) : RunR CP (c26_r19 e) h Q ↔ RunR CP (
  .op (.mv (e 9)) fun t105 =>
  .op (.bin .add t105 (.int .i64 1)) fun t106 =>
  .op (.mv t106) fun t12 =>
  .done (e.upd 12 t12)) h Q := Iff.rfl
def c26_r20 : Env → Reg := fun e =>
  .op (.mv (e 12)) fun t107 =>
  .op (.mv (e 2)) fun t108 =>
  .op (.bin .lss t107 t108) fun t109 =>
  .done (e.upd 109 t109)
theorem c26_r20_run {CP : CProg} (e : Env) (h : Heap) (Q : Post) : RunR CP (c26_r20 e) h Q ↔ RunR CP (
  .op (.mv (e 12)) fun t107 =>
  .op (.mv (e 2)) fun t108 =>
  .op (.bin .lss t107 t108) fun t109 =>
  .done (e.upd 109 t109)) h Q := Iff.rfl
def c26_r22_c1 (e : Env) (t112 : Value) (t116 : Value) (t117 : Value) (t119 : Value) : Reg :=
  .op (.indexSl 2 t117 t119) fun t120 =>
  .op (.load (some 2) t120) fun t121 =>
  .snap fun h10 =>
  .op (.callv t112 [t116, t121]) fun t122 =>
  .op (.bin .lss t122 (.int .i64 0)) fun t123 =>
  .op (.un .not t123) fun t124 =>
  .done (e.upd 124 t124)
theorem c26_r22_c1_run {CP : CProg} (e : Env) (t112 : Value) (t116 : Value) (t117 : Value) (t119 : Value) (h : Heap) (Q : Post) : RunR CP (c26_r22_c1 e t112 t116 t117 t119) h Q ↔ RunR CP (
  .op (.indexSl 2 t117 t119) fun t120 =>
  .op (.load (some 2) t120) fun t121 =>
  .snap fun h10 =>
  .op (.callv t112 [t116, t121]) fun t122 =>
  .op (.bin .lss t122 (.int .i64 0)) fun t123 =>
  .op (.un .not t123) fun t124 =>
  .done (e.upd 124 t124)) h Q := Iff.rfl
def c26_r22 : Env → Reg := fun e =>
  .op (.mv (e 3)) fun t112 =>
  .op (.mv (e 0)) fun t113 =>
  .op (.mv (e 12)) fun t114 =>
  .op (.indexSl 2 t113 t114) fun t115 =>
  .op (.load (some 2) t115) fun t116 =>
  .op (.mv (e 0)) fun t117 =>
  .op (.mv (e 12)) fun t118 =>
  .op (.bin .sub t118 (.int .i64 1)) fun t119 =>
  c26_r22_c1 e t112 t116 t117 t119
theorem c26_r22_run {CP : CProg} (e : Env) (h : Heap) (Q : Post) : RunR CP (c26_r22 e) h Q ↔ RunR CP (
  .op (.mv (e 3)) fun t112 =>
  .op (.mv (e 0)) fun t113 =>
  .op (.mv (e 12)) fun t114 =>
  .op (.indexSl 2 t113 t114) fun t115 =>
  .op (.load (some 2) t115) fun t116 =>
  .op (.mv (e 0)) fun t117 =>
  .op (.mv (e 12)) fun t118 =>
  .op (.bin .sub t118 (.int .i64 1)) fun t119 =>
  c26_r22_c1 e t112 t116 t117 t119) h Q := Iff.rfl
def c26_r23_c2 (e : Env) (t127 : Value) (t129 : Value) (t134 : Value) (t138 : Value) (t139 : Value) : Reg :=
  .op (.store 2 t139 t134) fun _ =>
  .op (.indexSl 2 t127 t129) fun t140 =>
  .snap fun h17 =>
  .op (.store 2 t140 t138) fun _ =>
  .done e
theorem c26_r23_c2_run {CP : CProg} (e : Env) (t127 : Value) (t129 : Value) (t134 : Value) (t138 : Value) (t139 : Value) (h : Heap) (Q : Post) : RunR CP (c26_r23_c2 e t127 t129 t134 t138 t139) h Q ↔ RunR CP (
  .op (.store 2 t139 t134) fun _ =>
  .op (.indexSl 2 t127 t129) fun t140 =>
  .snap fun h17 =>
  .op (.store 2 t140 t138) fun _ =>
  .done e) h Q := Iff.rfl
def c26_r23_c1 (e : Env) (t125 : Value) (t126 : Value) (t127 : Value) (t129 : Value) (t130 : Value) (t132 : Value) : Reg :=
  .op (.indexSl 2 t130 t132) fun t133 =>
  .op (.load (some 2) t133) fun t134 =>
  .op (.mv (e 0)) fun t135 =>
  .op (.mv (e 12)) fun t136 =>
  .op (.indexSl 2 t135 t136) fun t137 =>
  .op (.load (some 2) t137) fun t138 =>
  .op (.indexSl 2 t125 t126) fun t139 =>
  .snap fun h15 =>
  c26_r23_c2 e t127 t129 t134 t138 t139
theorem c26_r23_c1_run {CP : CProg} (e : Env) (t125 : Value) (t126 : Value) (t127 : Value) (t129 : Value) (t130 : Value) (t132 : Value) (h : Heap) (Q : Post) : RunR CP (c26_r23_c1 e t125 t126 t127 t129 t130 t132) h Q ↔ RunR CP (
  .op (.indexSl 2 t130 t132) fun t133 =>
  .op (.load (some 2) t133) fun t134 =>
  .op (.mv (e 0)) fun t135 =>
  .op (.mv (e 12)) fun t136 =>
  .op (.indexSl 2 t135 t136) fun t137 =>
  .op (.load (some 2) t137) fun t138 =>
  .op (.indexSl 2 t125 t126) fun t139 =>
  .snap fun h15 =>
  c26_r23_c2 e t127 t129 t134 t138 t139) h Q := Iff.rfl
def c26_r23 : Env → Reg := fun e =>
  .op (.mv (e 0)) fun t125 =>
  .op (.mv (e 12)) fun t126 =>
  .op (.mv (e 0)) fun t127 =>
  .op (.mv (e 12)) fun t128 =>
  .op (.bin .sub t128 (.int .i64 1)) fun t129 =>
  .op (.mv (e 0)) fun t130 =>
  .op (.mv (e 12)) fun t131 =>
  .op (.bin .sub t131 (.int .i64 1)) fun t132 =>
  c26_r23_c1 e t125 t126 t127 t129 t130 t132
theorem c26_r23_run {CP : CProg} (e : Env) (h : Heap) (Q : Post) : RunR CP (c26_r23 e) h Q ↔ RunR CP (
  .op (.mv (e 0)) fun t125 =>
  .op (.mv (e 12)) fun t126 =>
  .op (.mv (e 0)) fun t127 =>
  .op (.mv (e 12)) fun t128 =>
  .op (.bin .sub t128 (.int .i64 1)) fun t129 =>
  .op (.mv (e 0)) fun t130 =>
  .op (.mv (e 12)) fun t131 =>
  .op (.bin .sub t131 (.int .i64 1)) fun t132 =>
  c26_r23_c1 e t125 t126 t127 t129 t130 t132) h Q := Iff.rfl
def c26_r21 : Env → Reg := fun e =>
  .op (.mv (e 12)) fun t110 =>
  .op (.bin .add t110 (.int .i64 1)) fun t111 =>
  .op (.mv t111) fun t12 =>
  .done (e.upd 12 t12)
theorem c26_r21_run {CP : CProg} (e : Env) (h : Heap) (Q : Post) : RunR CP (c26_r21 e) h Q ↔ RunR CP (
  .op (.mv (e 12)) fun t110 =>
  .op (.bin .add t110 (.int .i64 1)) fun t111 =>
  .op (.mv t111) fun t12 =>
  .done (e.upd 12 t12)) h Q := Iff.rfl
def c26_l2 : CC := (.seq (.seq (.region c26_r20) (.cond (fun e => e 109) .skip (.exit 6))) (.seq (.block 7 (.seq (.seq (.region c26_r22) (.cond (fun e => e 124) (.exit 6) .skip)) (.region c26_r23))) (.region c26_r21)))
def c26_r4 : Env → Reg := fun e =>
  .op (.mv (e 10)) fun t17 =>
  .op (.bin .add t17 (.int .i64 1)) fun t18 =>
  .op (.mv t18) fun t10 =>
  .done (e.upd 10 t10)
theorem c26_r4_run {CP : CProg} (e : Env) (h : Heap) (Q : Post) : RunR CP (c26_r4 e) h Q ↔ RunR CP (
  .op (.mv (e 10)) fun t17 =>
  .op (.bin .add t17 (.int .i64 1)) fun t18 =>
  .op (.mv t18) fun t10 =>
  .done (e.upd 10 t10)) h Q := Iff.rfl
def c26_l3 : CC := (.seq (.seq (.region c26_r3) (.cond (fun e => e 16) .skip (.exit 0))) (.seq (.block 1 (.seq (.block 2 (.loop c26_l0)) (.seq (.seq (.region c26_r7) (.cond (fun e => e 41) (.seq (.region c26_r8) .ret) .skip)) (.seq (.seq (.region c26_r9) (.cond (fun e => e 45) (.seq (.region c26_r10) .ret) .skip)) (.seq (.region c26_r11) (.seq (.seq (.region c26_r12) (.cond (fun e => e 65) (.seq (.region c26_r13) (.block 4 (.loop c26_l1))) .skip)) (.seq (.region c26_r18) (.cond (fun e => e 104) (.seq (.region c26_r19) (.block 6 (.loop c26_l2))) .skip)))))))) (.region c26_r4)))
def c26_r24 : Env → Reg := fun e =>
  .op (.mv (.bool false)) fun t8 =>
  .done (e.upd 8 t8)
theorem c26_r24_run {CP : CProg} (e : Env) (h : Heap) (Q : Post) : RunR CP (c26_r24 e) h Q ↔ RunR CP (
  .op (.mv (.bool false)) fun t8 =>
  .done (e.upd 8 t8)) h Q := Iff.rfl
def c26 : CFn := ⟨(.seq (.region c26_r0) (.seq (.region c26_r1) (.seq (.seq (.region c26_r2) (.block 0 (.loop c26_l3))) (.seq (.region c26_r24) .ret)))), [.t 8]⟩
def p26 : Pers := ⟨13, [16, 36, 41, 45, 65, 69, 84, 104, 109, 124], 141⟩
-- 27: slices.partitionEqualCmpFunc[weighbridge/audit.Who]
def c27_r0 : Env → Reg := fun e =>
  .op (.mv (.int .i64 0)) fun t10 =>
  .done (e.upd 10 t10)
theorem c27_r0_run {CP : CProg} (e : Env) (h : Heap) (Q : Post) : RunR CP (c27_r0 e) h Q ↔ RunR CP (
  .op (.mv (.int .i64 0)) fun t10 =>
  .done (e.upd 10 t10)) h Q := Iff.rfl
def c27_r1_c1 (e : Env) (t13 : Value) (t14 : Value) (t15 : Value) (t16 : Value) (t20 : Value) : Reg :=
  .op (.mv (e 0)) fun t21 =>
  .op (.mv (e 1)) fun t22 =>
  .op (.indexSl 2 t21 t22) fun t23 =>
  .op (.load (some 2) t23) fun t24 =>
  .op (.indexSl 2 t13 t14) fun t25 =>
  .snap fun h13 =>
  .op (.store 2 t25 t20) fun _ =>
  .op (.indexSl 2 t15 t16) fun t26 =>
  .snap fun h15 =>
  .op (.store 2 t26 t24) fun _ =>
  .done e
theorem c27_r1_c1_run {CP : CProg} (e : Env) (t13 : Value) (t14 : Value) (t15 : Value) (t16 : Value) (t20 : Value) (h : Heap) (Q : Post) : RunR CP (c27_r1_c1 e t13 t14 t15 t16 t20) h Q ↔ RunR CP (
  .op (.mv (e 0)) fun t21 =>
  .op (.mv (e 1)) fun t22 =>
  .op (.indexSl 2 t21 t22) fun t23 =>
  .op (.load (some 2) t23) fun t24 =>
  .op (.indexSl 2 t13 t14) fun t25 =>
  .snap fun h13 =>
  .op (.store 2 t25 t20) fun _ =>
  .op (.indexSl 2 t15 t16) fun t26 =>
  .snap fun h15 =>
  .op (.store 2 t26 t24) fun _ =>
  .done e) h Q := Iff.rfl
def c27_r1 : Env → Reg := fun e =>
  .op (.mv (e 0)) fun t13 =>
  .op (.mv (e 1)) fun t14 =>
  .op (.mv (e 0)) fun t15 =>
  .op (.mv (e 3)) fun t16 =>
  .op (.mv (e 0)) fun t17 =>
  .op (.mv (e 3)) fun t18 =>
  .op (.indexSl 2 t17 t18) fun t19 =>
  .op (.load (some 2) t19) fun t20 =>
  c27_r1_c1 e t13 t14 t15 t16 t20
theorem c27_r1_run {CP : CProg} (e : Env) (h : Heap) (Q : Post) : RunR CP (c27_r1 e) h Q ↔ RunR CP (
  .op (.mv (e 0)) fun t13 =>
  .op (.mv (e 1)) fun t14 =>
  .op (.mv (e 0)) fun t15 =>
  .op (.mv (e 3)) fun t16 =>
  .op (.mv (e 0)) fun t17 =>
  .op (.mv (e 3)) fun t18 =>
  .op (.indexSl 2 t17 t18) fun t19 =>
  .op (.load (some 2) t19) fun t20 =>
  c27_r1_c1 e t13 t14 t15 t16 t20) h Q := Iff.rfl
def c27_r2 : Env → Reg := fun e =>
  .op (.mv (e 1)) fun t27 =>
  .op (.bin .add t27 (.int .i64 1)) fun t28 =>
  .op (.mv (e 2)) fun t29 =>
  .op (.bin .sub t29 (.int .i64 1)) fun t30 =>
  .op (.mv t28) fun t11 =>
  .op (.mv t30) fun t12 =>
  .done ((e.upd 11 t11).upd 12 t12)
theorem c27_r2_run {CP : CProg} (e : Env) (h : Heap) (Q : Post) : RunR CP (c27_r2 e) h Q ↔ RunR CP (
  .op (.mv (e 1)) fun t27 =>
  .op (.bin .add t27 (.int .i64 1)) fun t28 =>
  .op (.mv (e 2)) fun t29 =>
  .op (.bin .sub t29 (.int .i64 1)) fun t30 =>
  .op (.mv t28) fun t11 =>
  .op (.mv t30) fun t12 =>
  .done ((e.upd 11 t11).upd 12 t12)) h Q := Iff.rfl
def c27_r3_c1 (e : Env) (t34 : Value) (t35 : Value) (t38 : Value) : Reg :=
  .opg t34 true (.load (some 2) t38) fun t39 =>
  .opg t34 true (.mv (e 0)) fun t40 =>
  .opg t34 true (.mv (e 11)) fun t41 =>
  .opg t34 true (.indexSl 2 t40 t41) fun t42 =>
  .opg t34 true (.load (some 2) t42) fun t43 =>
  .snap fun h13 =>
  .opg t34 true (.callv t35 [t39, t43]) fun t44 =>
  .opg t34 true (.bin .lss t44 (.int .i64 0)) fun t45 =>
  .opg t34 true (.un .not t45) fun t46 =>
  .op (.pick t34 t46 (.bool false)) fun t47 =>
  .done (e.upd 47 t47)
theorem c27_r3_c1_run {CP : CProg} (e : Env) (t34 : Value) (t35 : Value) (t38 : Value) (h : Heap) (Q : Post) : RunR CP (c27_r3_c1 e t34 t35 t38) h Q ↔ RunR CP (
  .opg t34 true (.load (some 2) t38) fun t39 =>
  .opg t34 true (.mv (e 0)) fun t40 =>
  .opg t34 true (.mv (e 11)) fun t41 =>
  .opg t34 true (.indexSl 2 t40 t41) fun t42 =>
  .opg t34 true (.load (some 2) t42) fun t43 =>
  .snap fun h13 =>
  .opg t34 true (.callv t35 [t39, t43]) fun t44 =>
  .opg t34 true (.bin .lss t44 (.int .i64 0)) fun t45 =>
  .opg t34 true (.un .not t45) fun t46 =>
  .op (.pick t34 t46 (.bool false)) fun t47 =>
  .done (e.upd 47 t47)) h Q := Iff.rfl
def c27_r3 : Env → Reg := fun e =>
  .op (.mv (e 11)) fun t31 =>
  .op (.mv (e 12)) fun t32 =>
  .op (.bin .leq t31 t32) fun t33 =>
  .op (.mv t33) fun t34 =>
  .opg t34 true (.mv (e 4)) fun t35 =>
  .opg t34 true (.mv (e 0)) fun t36 =>
  .opg t34 true (.mv (e 1)) fun t37 =>
  .opg t34 true (.indexSl 2 t36 t37) fun t38 =>
  c27_r3_c1 e t34 t35 t38
theorem c27_r3_run {CP : CProg} (e : Env) (h : Heap) (Q : Post) : RunR CP (c27_r3 e) h Q ↔ RunR CP (
  .op (.mv (e 11)) fun t31 =>
  .op (.mv (e 12)) fun t32 =>
  .op (.bin .leq t31 t32) fun t33 =>
  .op (.mv t33) fun t34 =>
  .opg t34 true (.mv (e 4)) fun t35 =>
  .opg t34 true (.mv (e 0)) fun t36 =>
  .opg t34 true (.mv (e 1)) fun t37 =>
  .opg t34 true (.indexSl 2 t36 t37) fun t38 =>
  c27_r3_c1 e t34 t35 t38) h Q := Iff.rfl
def c27_r4 : Env → Reg := fun e =>
  .op (.mv (e 11)) fun t48 =>
  .op (.bin .add t48 (.int .i64 1)) fun t49 =>
  .op (.mv t49) fun t11 =>
  .done (e.upd 11 t11)
theorem c27_r4_run {CP : CProg} (e : Env) (h : Heap) (Q : Post) : RunR CP (c27_r4 e) h Q ↔ RunR CP (
  .op (.mv (e 11)) fun t48 =>
  .op (.bin .add t48 (.int .i64 1)) fun t49 =>
  .op (.mv t49) fun t11 =>
  .done (e.upd 11 t11)) h Q := Iff.rfl
def c27_l0 : CC := (.seq (.seq (.region c27_r3) (.cond (fun e => e 47) .skip (.exit 2))) (.block 3 (.region c27_r4)))
def c27_r5_c1 (e : Env) (t53 : Value) (t54 : Value) (t57 : Value) : Reg :=
  .opg t53 true (.load (some 2) t57) fun t58 =>
  .opg t53 true (.mv (e 0)) fun t59 =>
  .opg t53 true (.mv (e 12)) fun t60 =>
  .opg t53 true (.indexSl 2 t59 t60) fun t61 =>
  .opg t53 true (.load (some 2) t61) fun t62 =>
  .snap fun h13 =>
  .opg t53 true (.callv t54 [t58, t62]) fun t63 =>
  .opg t53 true (.bin .lss t63 (.int .i64 0)) fun t64 =>
  .op (.pick t53 t64 (.bool false)) fun t65 =>
  .done (e.upd 65 t65)
theorem c27_r5_c1_run {CP : CProg} (e : Env) (t53 : Value) (t54 : Value) (t57 : Value) (h : Heap) (Q : Post) : RunR CP (c27_r5_c1 e t53 t54 t57) h Q ↔ RunR CP (
  .opg t53 true (.load (some 2) t57) fun t58 =>
  .opg t53 true (.mv (e 0)) fun t59 =>
  .opg t53 true (.mv (e 12)) fun t60 =>
  .opg t53 true (.indexSl 2 t59 t60) fun t61 =>
  .opg t53 true (.load (some 2) t61) fun t62 =>
  .snap fun h13 =>
  .opg t53 true (.callv t54 [t58, t62]) fun t63 =>
  .opg t53 true (.bin .lss t63 (.int .i64 0)) fun t64 =>
  .op (.pick t53 t64 (.bool false)) fun t65 =>
  .done (e.upd 65 t65)) h Q := Iff.rfl
def c27_r5 : Env → Reg := fun e =>
  .op (.mv (e 11)) fun t50 =>
  .op (.mv (e 12)) fun t51 =>
  .op (.bin .leq t50 t51) fun t52 =>
  .op (.mv t52) fun t53 =>
  .opg t53 true (.mv (e 4)) fun t54 =>
  .opg t53 true (.mv (e 0)) fun t55 =>
  .opg t53 true (.mv (e 1)) fun t56 =>
  .opg t53 true (.indexSl 2 t55 t56) fun t57 =>
  c27_r5_c1 e t53 t54 t57
theorem c27_r5_run {CP : CProg} (e : Env) (h : Heap) (Q : Post) : RunR CP (c27_r5 e) h Q ↔ RunR CP (
  .op (.mv (e 11)) fun t50 =>
  .op (.mv (e 12)) fun t51 =>
  .op (.bin .leq t50 t51) fun t52 =>
  .op (.mv t52) fun t53 =>
  .opg t53 true (.mv (e 4)) fun t54 =>
  .opg t53 true (.mv (e 0)) fun t55 =>
  .opg t53 true (.mv (e 1)) fun t56 =>
  .opg t53 true (.indexSl 2 t55 t56) fun t57 =>
  c27_r5_c1 e t53 t54 t57) h Q := Iff.rfl
def c27_r6 : Env → Reg := fun e =>
  .op (.mv (e 12)) fun t66 =>
  .op (.bin .sub t66 (.int .i64 1)) fun t67 =>
  .op (.mv t67) fun t12 =>
  .done (e.upd 12 t12)
theorem c27_r6_run {CP : CProg} (e : Env) (h : Heap) (Q : Post) : RunR CP (c27_r6 e) h Q ↔ RunR CP (
  .op (.mv (e 12)) fun t66 =>
  .op (.bin .sub t66 (.int .i64 1)) fun t67 =>
  .op (.mv t67) fun t12 =>
  .done (e.upd 12 t12)) h Q := Iff.rfl
def c27_l1 : CC := (.seq (.seq (.region c27_r5) (.cond (fun e => e 65) .skip (.exit 4))) (.block 5 (.region c27_r6)))
def c27_r7 : Env → Reg := fun e =>
  .op (.mv (e 11)) fun t68 =>
  .op (.mv (e 12)) fun t69 =>
  .op (.bin .gtr t68 t69) fun t70 =>
  .done (e.upd 70 t70)
theorem c27_r7_run {CP : CProg} (e : Env) (h : Heap) (Q : Post) : RunR CP (c27_r7 e) h Q ↔ RunR CP (
  .op (.mv (e 11)) fun t68 =>
  .op (.mv (e 12)) fun t69 =>
  .op (.bin .gtr t68 t69) fun t70 =>
  .done (e.upd 70 t70)) h Q := Iff.rfl
def c27_r8_c1 (e : Env) (t71 : Value) (t72 : Value) (t73 : Value) (t74 : Value) (t78 : Value) : Reg :=
  .op (.mv (e 0)) fun t79 =>
  .op (.mv (e 11)) fun t80 =>
  .op (.indexSl 2 t79 t80) fun t81 =>
  .op (.load (some 2) t81) fun t82 =>
  .op (.indexSl 2 t71 t72) fun t83 =>
  .snap fun h13 =>
  .op (.store 2 t83 t78) fun _ =>
  .op (.indexSl 2 t73 t74) fun t84 =>
  .snap fun h15 =>
  .op (.store 2 t84 t82) fun _ =>
  .done e
theorem c27_r8_c1_run {CP : CProg} (e : Env) (t71 : Value) (t72 : Value) (t73 : Value) (t74 : Value) (t78 : Value) (h : Heap) (Q : Post) : RunR CP (c27_r8_c1 e t71 t72 t73 t74 t78) h Q ↔ RunR CP (
  .op (.mv (e 0)) fun t79 =>
  .op (.mv (e 11)) fun t80 =>
  .op (.indexSl 2 t79 t80) fun t81 =>
  .op (.load (some 2) t81) fun t82 =>
  .op (.indexSl 2 t71 t72) fun t83 =>
  .snap fun h13 =>
  .op (.store 2 t83 t78) fun _ =>
  .op (.indexSl 2 t73 t74) fun t84 =>
  .snap fun h15 =>
  .op (.store 2 t84 t82) fun _ =>
  .done e) h Q := Iff.rfl
def c27_r8 : Env → Reg := fun e =>
  .op (.mv (e 0)) fun t71 =>
  .op (.mv (e 11)) fun t72 =>
  .op (.mv (e 0)) fun t73 =>
  .op (.mv (e 12)) fun t74 =>
  .op (.mv (e 0)) fun t75 =>
  .op (.mv (e 12)) fun t76 =>
  .op (.indexSl 2 t75 t76) fun t77 =>
  .op (.load (some 2) t77) fun t78 =>
  c27_r8_c1 e t71 t72 t73 t74 t78
theorem c27_r8_run {CP : CProg} (e : Env) (h : Heap) (Q : Post) : RunR CP (c27_r8 e) h Q ↔ RunR CP (
  .op (.mv (e 0)) fun t71 =>
  .op (.mv (e 11)) fun t72 =>
  .op (.mv (e 0)) fun t73 =>
  .op (.mv (e 12)) fun t74 =>
  .op (.mv (e 0)) fun t75 =>
  .op (.mv (e 12)) fun t76 =>
  .op (.indexSl 2 t75 t76) fun t77 =>
  .op (.load (some 2) t77) fun t78 =>
  c27_r8_c1 e t71 t72 t73 t74 t78) h Q := Iff.rfl
def c27_r9 : Env → Reg := fun e =>
  .op (.mv (e 11)) fun t85 =>
  .op (.bin .add t85 (.int .i64 1)) fun t86 =>
  .op (.mv t86) fun t11 =>
  .done (e.upd 11 t11)
theorem c27_r9_run {CP : CProg} (e : Env) (h : Heap) (Q : Post) : RunR CP (c27_r9 e) h Q ↔ RunR CP (
  .op (.mv (e 11)) fun t85 =>
  .op (.bin .add t85 (.int .i64 1)) fun t86 =>
  .op (.mv t86) fun t11 =>
  .done (e.upd 11 t11)) h Q := Iff.rfl
def c27_r10 : Env → Reg := fun e =>
  .op (.mv (e 12)) fun t87 =>
  .op (.bin .sub t87 (.int .i64 1)) fun t88 =>
  .op (.mv t88) fun t12 =>
  .done (e.upd 12 t12)
theorem c27_r10_run {CP : CProg} (e : Env) (h : Heap) (Q : Post) : RunR CP (c27_r10 e) h Q ↔ RunR CP (
  .op (.mv (e 12)) fun t87 =>
  .op (.bin .sub t87 (.int .i64 1)) fun t88 =>
  .op (.mv t88) fun t12 =>
  .done (e.upd 12 t12)) h Q := Iff.rfl
def c27_l2 : CC := (.block 1 (.seq (.block 2 (.loop c27_l0)) (.seq (.block 4 (.loop c27_l1)) (.seq (.seq (.region c27_r7) (.cond (fun e => e 70) (.exit 0) .skip)) (.seq (.region c27_r8) (.seq (.region c27_r9) (.region c27_r10)))))))
def c27_r11 : Env → Reg := fun e =>
  .op (.mv (e 11)) fun t89 =>
  .op (.mv t89) fun t10 =>
  .done (e.upd 10 t10)
theorem c27_r11_run {CP : CProg} (e : Env) (h : Heap) (Q : Post) : RunR CP (c27_r11 e) h Q ↔ RunR CP (
  .op (.mv (e 11)) fun t89 =>
  .op (.mv t89) fun t10 =>
  .done (e.upd 10 t10)) h Q := Iff.rfl
def c27 : CFn := ⟨(.seq (.region c27_r0) (.seq (.region c27_r1) (.seq (.region c27_r2) (.seq (.block 0 (.loop c27_l2)) (.seq (.region c27_r11) .ret))))), [.t 10]⟩
def p27 : Pers := ⟨13, [47, 65, 70], 90⟩
-- 28: slices.partitionCmpFunc[weighbridge/audit.Who]
def c28_r0 : Env → Reg := fun e =>
  .op (.mv (.int .i64 0)) fun t10 =>
  .op (.mv (.bool false)) fun t11 =>
  .done ((e.upd 10 t10).upd 11 t11)
theorem c28_r0_run {CP : CProg} (e : Env) (h : Heap) (Q : Post) : RunR CP (c28_r0 e) h Q ↔ RunR CP (
  .op (.mv (.int .i64 0)) fun t10 =>
  .op (.mv (.bool false)) fun t11 =>
  .done ((e.upd 10 t10).upd 11 t11)) h Q := Iff.rfl
def c28_r1_c1 (e : Env) (t14 : Value) (t15 : Value) (t16 : Value) (t17 : Value) (t21 : Value) : Reg :=
  .op (.mv (e 0)) fun t22 =>
  .op (.mv (e 1)) fun t23 =>
  .op (.indexSl 2 t22 t23) fun t24 =>
  .op (.load (some 2) t24) fun t25 =>
  .op (.indexSl 2 t14 t15) fun t26 =>
  .snap fun h13 =>
  .op (.store 2 t26 t21) fun _ =>
  .op (.indexSl 2 t16 t17) fun t27 =>
  .snap fun h15 =>
  .op (.store 2 t27 t25) fun _ =>
  .done e
theorem c28_r1_c1_run {CP : CProg} (e : Env) (t14 : Value) (t15 : Value) (t16 : Value) (t17 : Value) (t21 : Value) (h : Heap) (Q : Post) : RunR CP (c28_r1_c1 e t14 t15 t16 t17 t21) h Q ↔ RunR CP (
  .op (.mv (e 0)) fun t22 =>
  .op (.mv (e 1)) fun t23 =>
  .op (.indexSl 2 t22 t23) fun t24 =>
  .op (.load (some 2) t24) fun t25 =>
  .op (.indexSl 2 t14 t15) fun t26 =>
  .snap fun h13 =>
  .op (.store 2 t26 t21) fun _ =>
  .op (.indexSl 2 t16 t17) fun t27 =>
  .snap fun h15 =>
  .op (.store 2 t27 t25) fun _ =>
  .done e) h Q := Iff.rfl
def c28_r1 : Env → Reg := fun e =>
  .op (.mv (e 0)) fun t14 =>
  .op (.mv (e 1)) fun t15 =>
  .op (.mv (e 0)) fun t16 =>
  .op (.mv (e 3)) fun t17 =>
  .op (.mv (e 0)) fun t18 =>
  .op (.mv (e 3)) fun t19 =>
  .op (.indexSl 2 t18 t19) fun t20 =>
  .op (.load (some 2) t20) fun t21 =>
  c28_r1_c1 e t14 t15 t16 t17 t21
theorem c28_r1_run {CP : CProg} (e : Env) (h : Heap) (Q : Post) : RunR CP (c28_r1 e) h Q ↔ RunR CP (
  .op (.mv (e 0)) fun t14 =>
  .op (.mv (e 1)) fun t15 =>
  .op (.mv (e 0)) fun t16 =>
  .op (.mv (e 3)) fun t17 =>
  .op (.mv (e 0)) fun t18 =>
  .op (.mv (e 3)) fun t19 =>
  .op (.indexSl 2 t18 t19) fun t20 =>
  .op (.load (some 2) t20) fun t21 =>
  c28_r1_c1 e t14 t15 t16 t17 t21) h Q := Iff.rfl
def c28_r2 : Env → Reg := fun e =>
  .op (.mv (e 1)) fun t28 =>
  .op (.bin .add t28 (.int .i64 1)) fun t29 =>
  .op (.mv (e 2)) fun t30 =>
  .op (.bin .sub t30 (.int .i64 1)) fun t31 =>
  .op (.mv t29) fun t12 =>
  .op (.mv t31) fun t13 =>
  .done ((e.upd 12 t12).upd 13 t13)
theorem c28_r2_run {CP : CProg} (e : Env) (h : Heap) (Q : Post) : RunR CP (c28_r2 e) h Q ↔ RunR CP (
  .op (.mv (e 1)) fun t28 =>
  .op (.bin .add t28 (.int .i64 1)) fun t29 =>
  .op (.mv (e 2)) fun t30 =>
  .op (.bin .sub t30 (.int .i64 1)) fun t31 =>
  .op (.mv t29) fun t12 =>
  .op (.mv t31) fun t13 =>
  .done ((e.upd 12 t12).upd 13 t13)) h Q := Iff.rfl
def c28_r3_c1 (e : Env) (t35 : Value) (t36 : Value) (t39 : Value) : Reg :=
  .opg t35 true (.load (some 2) t39) fun t40 =>
  .opg t35 true (.mv (e 0)) fun t41 =>
  .opg t35 true (.mv (e 1)) fun t42 =>
  .opg t35 true (.indexSl 2 t41 t42) fun t43 =>
  .opg t35 true (.load (some 2) t43) fun t44 =>
  .snap fun h13 =>
  .opg t35 true (.callv t36 [t40, t44]) fun t45 =>
  .opg t35 true (.bin .lss t45 (.int .i64 0)) fun t46 =>
  .op (.pick t35 t46 (.bool false)) fun t47 =>
  .done (e.upd 47 t47)
theorem c28_r3_c1_run {CP : CProg} (e : Env) (t35 : Value) (t36 : Value) (t39 : Value) (h : Heap) (Q : Post) : RunR CP (c28_r3_c1 e t35 t36 t39) h Q ↔ RunR CP (
  .opg t35 true (.load (some 2) t39) fun t40 =>
  .opg t35 true (.mv (e 0)) fun t41 =>
  .opg t35 true (.mv (e 1)) fun t42 =>
  .opg t35 true (.indexSl 2 t41 t42) fun t43 =>
  .opg t35 true (.load (some 2) t43) fun t44 =>
  .snap fun h13 =>
  .opg t35 true (.callv t36 [t40, t44]) fun t45 =>
  .opg t35 true (.bin .lss t45 (.int .i64 0)) fun t46 =>
  .op (.pick t35 t46 (.bool false)) fun t47 =>
  .done (e.upd 47 t47)) h Q := Iff.rfl
def c28_r3 : Env → Reg := fun e =>
  .op (.mv (e 12)) fun t32 =>
  .op (.mv (e 13)) fun t33 =>
  .op (.bin .leq t32 t33) fun t34 =>
  .op (.mv t34) fun t35 =>
  .opg t35 true (.mv (e 4)) fun t36 =>
  .opg t35 true (.mv (e 0)) fun t37 =>
  .opg t35 true (.mv (e 12)) fun t38 =>
  .opg t35 true (.indexSl 2 t37 t38) fun t39 =>
  c28_r3_c1 e t35 t36 t39
theorem c28_r3_run {CP : CProg} (e : Env) (h : Heap) (Q : Post) : RunR CP (c28_r3 e) h Q ↔ RunR CP (
  .op (.mv (e 12)) fun t32 =>
  .op (.mv (e 13)) fun t33 =>
  .op (.bin .leq t32 t33) fun t34 =>
  .op (.mv t34) fun t35 =>
  .opg t35 true (.mv (e 4)) fun t36 =>
  .opg t35 true (.mv (e 0)) fun t37 =>
  .opg t35 true (.mv (e 12)) fun t38 =>
  .opg t35 true (.indexSl 2 t37 t38) fun t39 =>
  c28_r3_c1 e t35 t36 t39) h Q := Iff.rfl
def c28_r4 : Env → Reg := fun e =>
  .op (.mv (e 12)) fun t48 =>
  .op (.bin .add t48 (.int .i64 1)) fun t49 =>
  .op (.mv t49) fun t12 =>
  .done (e.upd 12 t12)
theorem c28_r4_run {CP : CProg} (e : Env) (h : Heap) (Q : Post) : RunR CP (c28_r4 e) h Q ↔ RunR CP (
  .op (.mv (e 12)) fun t48 =>
  .op (.bin .add t48 (.int .i64 1)) fun t49 =>
  .op (.mv t49) fun t12 =>
  .done (e.upd 12 t12)) h Q := Iff.rfl
def c28_l0 : CC := (.seq (.seq (.region c28_r3) (.cond (fun e => e 47) .skip (.exit 0))) (.block 1 (.region c28_r4)))
def c28_r5_c1 (e : Env) (t53 : Value) (t54 : Value) (t57 : Value) : Reg :=
  .opg t53 true (.load (some 2) t57) fun t58 =>
  .opg t53 true (.mv (e 0)) fun t59 =>
  .opg t53 true (.mv (e 1)) fun t60 =>
  .opg t53 true (.indexSl 2 t59 t60) fun t61 =>
  .opg t53 true (.load (some 2) t61) fun t62 =>
  .snap fun h13 =>
  .opg t53 true (.callv t54 [t58, t62]) fun t63 =>
  .opg t53 true (.bin .lss t63 (.int .i64 0)) fun t64 =>
  .opg t53 true (.un .not t64) fun t65 =>
  .op (.pick t53 t65 (.bool false)) fun t66 =>
  .done (e.upd 66 t66)
theorem c28_r5_c1_run {CP : CProg} (e : Env) (t53 : Value) (t54 : Value) (t57 : Value) (h : Heap) (Q : Post) : RunR CP (c28_r5_c1 e t53 t54 t57) h Q ↔ RunR CP (
  .opg t53 true (.load (some 2) t57) fun t58 =>
  .opg t53 true (.mv (e 0)) fun t59 =>
  .opg t53 true (.mv (e 1)) fun t60 =>
  .opg t53 true (.indexSl 2 t59 t60) fun t61 =>
  .opg t53 true (.load (some 2) t61) fun t62 =>
  .snap fun h13 =>
  .opg t53 true (.callv t54 [t58, t62]) fun t63 =>
  .opg t53 true (.bin .lss t63 (.int .i64 0)) fun t64 =>
  .opg t53 true (.un .not t64) fun t65 =>
  .op (.pick t53 t65 (.bool false)) fun t66 =>
  .done (e.upd 66 t66)) h Q := Iff.rfl
def c28_r5 : Env → Reg := fun e =>
  .op (.mv (e 12)) fun t50 =>
  .op (.mv (e 13)) fun t51 =>
  .op (.bin .leq t50 t51) fun t52 =>
  .op (.mv t52) fun t53 =>
  .opg t53 true (.mv (e 4)) fun t54 =>
  .opg t53 true (.mv (e 0)) fun t55 =>
  .opg t53 true (.mv (e 13)) fun t56 =>
  .opg t53 true (.indexSl 2 t55 t56) fun t57 =>
  c28_r5_c1 e t53 t54 t57
theorem c28_r5_run {CP : CProg} (e : Env) (h : Heap) (Q : Post) : RunR CP (c28_r5 e) h Q ↔ RunR CP (
  .op (.mv (e 12)) fun t50 =>
  .op (.mv (e 13)) fun t51 =>
  .op (.bin .leq t50 t51) fun t52 =>
  .op (.mv t52) fun t53 =>
  .opg t53 true (.mv (e 4)) fun t54 =>
  .opg t53 true (.mv (e 0)) fun t55 =>
  .opg t53 true (.mv (e 13)) fun t56 =>
  .opg t53 true (.indexSl 2 t55 t56) fun t57 =>
  c28_r5_c1 e t53 t54 t57) h Q := Iff.rfl
def c28_r6 : Env → Reg := fun e =>
  .op (.mv (e 13)) fun t67 =>
  .op (.bin .sub t67 (.int .i64 1)) fun t68 =>
  .op (.mv t68) fun t13 =>
  .done (e.upd 13 t13)
theorem c28_r6_run {CP : CProg} (e : Env) (h : Heap) (Q : Post) : RunR CP (c28_r6 e) h Q ↔ RunR CP (
  .op (.mv (e 13)) fun t67 =>
  .op (.bin .sub t67 (.int .i64 1)) fun t68 =>
  .op (.mv t68) fun t13 =>
  .done (e.upd 13 t13)) h Q := Iff.rfl
def c28_l1 : CC := (.seq (.seq (.region c28_r5) (.cond (fun e => e 66) .skip (.exit 2))) (.block 3 (.region c28_r6)))
def c28_r7 : Env → Reg := fun e =>
  .op (.mv (e 12)) fun t69 =>
  .op (.mv (e 13)) fun t70 =>
  .op (.bin .gtr t69 t70) fun t71 =>
  .done (e.upd 71 t71)
theorem c28_r7_run {CP : CProg} (e : Env) (h : Heap) (Q : Post) : RunR CP (c28_r7 e) h Q ↔ RunR CP (
  .op (.mv (e 12)) fun t69 =>
  .op (.mv (e 13)) fun t70 =>
  .op (.bin .gtr t69 t70) fun t71 =>
  .done (e.upd 71 t71)) h Q := Iff.rfl
def c28_r8_c1 (e : Env) (t72 : Value) (t73 : Value) (t74 : Value) (t75 : Value) (t79 : Value) : Reg :=
  .op (.mv (e 0)) fun t80 =>
  .op (.mv (e 13)) fun t81 =>
  .op (.indexSl 2 t80 t81) fun t82 =>
  .op (.load (some 2) t82) fun t83 =>
  .op (.indexSl 2 t72 t73) fun t84 =>
  .snap fun h13 =>
  .op (.store 2 t84 t79) fun _ =>
  .op (.indexSl 2 t74 t75) fun t85 =>
  .snap fun h15 =>
  .op (.store 2 t85 t83) fun _ =>
  .done e
theorem c28_r8_c1_run {CP : CProg} (e : Env) (t72 : Value) (t73 : Value) (t74 : Value) (t75 : Value) (t79 : Value) (h : Heap) (Q : Post) : RunR CP (c28_r8_c1 e t72 t73 t74 t75 t79) h Q ↔ RunR CP (
  .op (.mv (e 0)) fun t80 =>
  .op (.mv (e 13)) fun t81 =>
  .op (.indexSl 2 t80 t81) fun t82 =>
  .op (.load (some 2) t82) fun t83 =>
  .op (.indexSl 2 t72 t73) fun t84 =>
  .snap fun h13 =>
  .op (.store 2 t84 t79) fun _ =>
  .op (.indexSl 2 t74 t75) fun t85 =>
  .snap fun h15 =>
  .op (.store 2 t85 t83) fun _ =>
  .done e) h Q := Iff.rfl
def c28_r8 : Env → Reg := fun e =>
  .op (.mv (e 0)) fun t72 =>
  .op (.mv (e 13)) fun t73 =>
  .op (.mv (e 0)) fun t74 =>
  .op (.mv (e 1)) fun t75 =>
  .op (.mv (e 0)) fun t76 =>
  .op (.mv (e 1)) fun t77 =>
  .op (.indexSl 2 t76 t77) fun t78 =>
  .op (.load (some 2) t78) fun t79 =>
  c28_r8_c1 e t72 t73 t74 t75 t79
theorem c28_r8_run {CP : CProg} (e : Env) (h : Heap) (Q : Post) : RunR CP (c28_r8 e) h Q ↔ RunR CP (
  .op (.mv (e 0)) fun t72 =>
  .op (.mv (e 13)) fun t73 =>
  .op (.mv (e 0)) fun t74 =>
  .op (.mv (e 1)) fun t75 =>
  .op (.mv (e 0)) fun t76 =>
  .op (.mv (e 1)) fun t77 =>
  .op (.indexSl 2 t76 t77) fun t78 =>
  .op (.load (some 2) t78) fun t79 =>
  c28_r8_c1 e t72 t73 t74 t75 t79) h Q := Iff.rfl
def c28_r9 : Env → Reg := fun e =>
  .op (.mv (e 13)) fun t86 =>
  .op (.mv t86) fun t10 =>
  .op (.mv (.bool true)) fun t11 =>
  .done ((e.upd 10 t10).upd 11 t11)
theorem c28_r9_run {CP : CProg} (e : Env) (h : Heap) (Q : Post) : RunR CP (c28_r9 e) h Q ↔ RunR CP (
  .op (.mv (e 13)) fun t86 =>
  .op (.mv t86) fun t10 =>
  .op (.mv (.bool true)) fun t11 =>
  .done ((e.upd 10 t10).upd 11 t11)) h Q := Iff.rfl
def c28_r10_c1 (e : Env) (t87 : Value) (t88 : Value) (t89 : Value) (t90 : Value) (t94 : Value) : Reg :=
  .op (.mv (e 0)) fun t95 =>
  .op (.mv (e 12)) fun t96 =>
  .op (.indexSl 2 t95 t96) fun t97 =>
  .op (.load (some 2) t97) fun t98 =>
  .op (.indexSl 2 t87 t88) fun t99 =>
  .snap fun h13 =>
  .op (.store 2 t99 t94) fun _ =>
  .op (.indexSl 2 t89 t90) fun t100 =>
  .snap fun h15 =>
  .op (.store 2 t100 t98) fun _ =>
  .done e
theorem c28_r10_c1_run {CP : CProg} (e : Env) (t87 : Value) (t88 : Value) (t89 : Value) (t90 : Value) (t94 : Value) (h : Heap) (Q : Post) : RunR CP (c28_r10_c1 e t87 t88 t89 t90 t94) h Q ↔ RunR CP (
  .op (.mv (e 0)) fun t95 =>
  .op (.mv (e 12)) fun t96 =>
  .op (.indexSl 2 t95 t96) fun t97 =>
  .op (.load (some 2) t97) fun t98 =>
  .op (.indexSl 2 t87 t88) fun t99 =>
  .snap fun h13 =>
  .op (.store 2 t99 t94) fun _ =>
  .op (.indexSl 2 t89 t90) fun t100 =>
  .snap fun h15 =>
  .op (.store 2 t100 t98) fun _ =>
  .done e) h Q := Iff.rfl
def c28_r10 : Env → Reg := fun e =>
  .op (.mv (e 0)) fun t87 =>
  .op (.mv (e 12)) fun t88 =>
  .op (.mv (e 0)) fun t89 =>
  .op (.mv (e 13)) fun t90 =>
  .op (.mv (e 0)) fun t91 =>
  .op (.mv (e 13)) fun t92 =>
  .op (.indexSl 2 t91 t92) fun t93 =>
  .op (.load (some 2) t93) fun t94 =>
  c28_r10_c1 e t87 t88 t89 t90 t94
theorem c28_r10_run {CP : CProg} (e : Env) (h : Heap) (Q : Post) : RunR CP (c28_r10 e) h Q ↔ RunR CP (
  .op (.mv (e 0)) fun t87 =>
  .op (.mv (e 12)) fun t88 =>
  .op (.mv (e 0)) fun t89 =>
  .op (.mv (e 13)) fun t90 =>
  .op (.mv (e 0)) fun t91 =>
  .op (.mv (e 13)) fun t92 =>
  .op (.indexSl 2 t91 t92) fun t93 =>
  .op (.load (some 2) t93) fun t94 =>
  c28_r10_c1 e t87 t88 t89 t90 t94) h Q := Iff.rfl
def c28_r11 : Env → Reg := fun e =>
  .op (.mv (e 12)) fun t101 =>
  .op (.bin .add t101 (.int .i64 1)) fun t102 =>
  .op (.mv t102) fun t12 =>
  .done (e.upd 12 t12)
theorem c28_r11_run {CP : CProg} (e : Env) (h : Heap) (Q : Post) : RunR CP (c28_r11 e) h Q ↔ RunR CP (
  .op (.mv (e 12)) fun t101 =>
  .op (.bin .add t101 (.int .i64 1)) fun t102 =>
  .op (.mv t102) fun t12 =>
  .done (e.upd 12 t12)) h Q := Iff.rfl
def c28_r12 : Env → Reg := fun e =>
  .op (.mv (e 13)) fun t103 =>
  .op (.bin .sub t103 (.int .i64 1)) fun t104 =>
  .op (.mv t104) fun t13 =>
  .done (e.upd 13 t13)
theorem c28_r12_run {CP : CProg} (e : Env) (h : Heap) (Q : Post) : RunR CP (c28_r12 e) h Q ↔ RunR CP (
  .op (.mv (e 13)) fun t103 =>
  .op (.bin .sub t103 (.int .i64 1)) fun t104 =>
  .op (.mv t104) fun t13 =>
  .done (e.upd 13 t13)) h Q := Iff.rfl
def c28_r13_c1 (e : Env) (t108 : Value) (t109 : Value) (t112 : Value) : Reg :=
  .opg t108 true (.load (some 2) t112) fun t113 =>
  .opg t108 true (.mv (e 0)) fun t114 =>
  .opg t108 true (.mv (e 1)) fun t115 =>
  .opg t108 true (.indexSl 2 t114 t115) fun t116 =>
  .opg t108 true (.load (some 2) t116) fun t117 =>
  .snap fun h13 =>
  .opg t108 true (.callv t109 [t113, t117]) fun t118 =>
  .opg t108 true (.bin .lss t118 (.int .i64 0)) fun t119 =>
  .op (.pick t108 t119 (.bool false)) fun t120 =>
  .done (e.upd 120 t120)
theorem c28_r13_c1_run {CP : CProg} (e : Env) (t108 : Value) (t109 : Value) (t112 : Value) (h : Heap) (Q : Post) : RunR CP (c28_r13_c1 e t108 t109 t112) h Q ↔ RunR CP (
  .opg t108 true (.load (some 2) t112) fun t113 =>
  .opg t108 true (.mv (e 0)) fun t114 =>
  .opg t108 true (.mv (e 1)) fun t115 =>
  .opg t108 true (.indexSl 2 t114 t115) fun t116 =>
  .opg t108 true (.load (some 2) t116) fun t117 =>
  .snap fun h13 =>
  .opg t108 true (.callv t109 [t113, t117]) fun t118 =>
  .opg t108 true (.bin .lss t118 (.int .i64 0)) fun t119 =>
  .op (.pick t108 t119 (.bool false)) fun t120 =>
  .done (e.upd 120 t120)) h Q := Iff.rfl
def c28_r13 : Env → Reg := fun e =>
  .op (.mv (e 12)) fun t105 =>
  .op (.mv (e 13)) fun t106 =>
  .op (.bin .leq t105 t106) fun t107 =>
  .op (.mv t107) fun t108 =>
  .opg t108 true (.mv (e 4)) fun t109 =>
  .opg t108 true (.mv (e 0)) fun t110 =>
  .opg t108 true (.mv (e 12)) fun t111 =>
  .opg t108 true (.indexSl 2 t110 t111) fun t112 =>
  c28_r13_c1 e t108 t109 t112
theorem c28_r13_run {CP : CProg} (e : Env) (h : Heap) (Q : Post) : RunR CP (c28_r13 e) h Q ↔ RunR CP (
  .op (.mv (e 12)) fun t105 =>
  .op (.mv (e 13)) fun t106 =>
  .op (.bin .leq t105 t106) fun t107 =>
  .op (.mv t107) fun t108 =>
  .opg t108 true (.mv (e 4)) fun t109 =>
  .opg t108 true (.mv (e 0)) fun t110 =>
  .opg t108 true (.mv (e 12)) fun t111 =>
  .opg t108 true (.indexSl 2 t110 t111) fun t112 =>
  c28_r13_c1 e t108 t109 t112) h Q := Iff.rfl
def c28_r14 : Env → Reg := fun e =>
  .op (.mv (e 12)) fun t121 =>
  .op (.bin .add t121 (.int .i64 1)) fun t122 =>
  .op (.mv t122) fun t12 =>
  .done (e.upd 12 t12)
theorem c28_r14_run {CP : CProg} (e : Env) (h : Heap) (Q : Post) : RunR CP (c28_r14 e) h Q ↔ RunR CP (
  .op (.mv (e 12)) fun t121 =>
  .op (.bin .add t121 (.int .i64 1)) fun t122 =>
  .op (.mv t122) fun t12 =>
  .done (e.upd 12 t12)) h Q := Iff.rfl
def c28_l2 : CC := (.seq (.seq (.region c28_r13) (.cond (fun e => e 120) .skip (.exit 6))) (.block 7 (.region c28_r14)))
def c28_r15_c1 (e : Env) (t126 : Value) (t127 : Value) (t130 : Value) : Reg :=
  .opg t126 true (.load (some 2) t130) fun t131 =>
  .opg t126 true (.mv (e 0)) fun t132 =>
  .opg t126 true (.mv (e 1)) fun t133 =>
  .opg t126 true (.indexSl 2 t132 t133) fun t134 =>
  .opg t126 true (.load (some 2) t134) fun t135 =>
  .snap fun h13 =>
  .opg t126 true (.callv t127 [t131, t135]) fun t136 =>
  .opg t126 true (.bin .lss t136 (.int .i64 0)) fun t137 =>
  .opg t126 true (.un .not t137) fun t138 =>
  .op (.pick t126 t138 (.bool false)) fun t139 =>
  .done (e.upd 139 t139)
theorem c28_r15_c1_run {CP : CProg} (e : Env) (t126 : Value) (t127 : Value) (t130 : Value) (h : Heap) (Q : Post) : RunR CP (c28_r15_c1 e t126 t127 t130) h Q ↔ RunR CP (
  .opg t126 true (.load (some 2) t130) fun t131 =>
  .opg t126 true (.mv (e 0)) fun t132 =>
  .opg t126 true (.mv (e 1)) fun t133 =>
  .opg t126 true (.indexSl 2 t132 t133) fun t134 =>
  .opg t126 true (.load (some 2) t134) fun t135 =>
  .snap fun h13 =>
  .opg t126 true (.callv t127 [t131, t135]) fun t136 =>
  .opg t126 true (.bin .lss t136 (.int .i64 0)) fun t137 =>
  .opg t126 true (.un .not t137) fun t138 =>
  .op (.pick t126 t138 (.bool false)) fun t139 =>
  .done (e.upd 139 t139)) h Q := Iff.rfl
def c28_r15 : Env → Reg := fun e =>
  .op (.mv (e 12)) fun t123 =>
  .op (.mv (e 13)) fun t124 =>
  .op (.bin .leq t123 t124) fun t125 =>
  .op (.mv t125) fun t126 =>
  .opg t126 true (.mv (e 4)) fun t127 =>
  .opg t126 true (.mv (e 0)) fun t128 =>
  .opg t126 true (.mv (e 13)) fun t129 =>
  .opg t126 true (.indexSl 2 t128 t129) fun t130 =>
  c28_r15_c1 e t126 t127 t130
theorem c28_r15_run {CP : CProg} (e : Env) (h : Heap) (Q : Post) : RunR CP (c28_r15 e) h Q ↔ RunR CP (
  .op (.mv (e 12)) fun t123 =>
  .op (.mv (e 13)) fun t124 =>
  .op (.bin .leq t123 t124) fun t125 =>
  .op (.mv t125) fun t126 =>
  .opg t126 true (.mv (e 4)) fun t127 =>
  .opg t126 true (.mv (e 0)) fun t128 =>
  .opg t126 true (.mv (e 13)) fun t129 =>
  .opg t126 true (.indexSl 2 t128 t129) fun t130 =>
  c28_r15_c1 e t126 t127 t130) h Q := Iff.rfl
def c28_r16 : Env → Reg := fun e =>
  .op (.mv (e 13)) fun t140 =>
  .op (.bin .sub t140 (.int .i64 1)) fun t141 =>
  .op (.mv t141) fun t13 =>
  .done (e.upd 13 t13)
theorem c28_r16_run {CP : CProg} (e : Env) (h : Heap) (Q : Post) : RunR CP (c28_r16 e) h Q ↔ RunR CP (
  .op (.mv (e 13)) fun t140 =>
  .op (.bin .sub t140 (.int .i64 1)) fun t141 =>
  .op (.mv t141) fun t13 =>
  .done (e.upd 13 t13)) h Q := Iff.rfl
def c28_l3 : CC := (.seq (.seq (.region c28_r15) (.cond (fun e => e 139) .skip (.exit 8))) (.block 9 (.region c28_r16)))
def c28_r17 : Env → Reg := fun e =>
  .op (.mv (e 12)) fun t142 =>
  .op (.mv (e 13)) fun t143 =>
  .op (.bin .gtr t142 t143) fun t144 =>
  .done (e.upd 144 t144)
theorem c28_r17_run {CP : CProg} (e : Env) (h : Heap) (Q : Post) : RunR CP (c28_r17 e) h Q ↔ RunR CP (
  .op (.mv (e 12)) fun t142 =>
  .op (.mv (e 13)) fun t143 =>
  .op (.bin .gtr t142 t143) fun t144 =>
  .done (e.upd 144 t144)) h Q := Iff.rfl
def c28_r18_c1 (e : Env) (t145 : Value) (t146 : Value) (t147 : Value) (t148 : Value) (t152 : Value) : Reg :=
  .op (.mv (e 0)) fun t153 =>
  .op (.mv (e 12)) fun t154 =>
  .op (.indexSl 2 t153 t154) fun t155 =>
  .op (.load (some 2) t155) fun t156 =>
  .op (.indexSl 2 t145 t146) fun t157 =>
  .snap fun h13 =>
  .op (.store 2 t157 t152) fun _ =>
  .op (.indexSl 2 t147 t148) fun t158 =>
  .snap fun h15 =>
  .op (.store 2 t158 t156) fun _ =>
  .done e
theorem c28_r18_c1_run {CP : CProg} (e : Env) (t145 : Value) (t146 : Value) (t147 : Value) (t148 : Value) (t152 : Value) (h : Heap) (Q : Post) : RunR CP (c28_r18_c1 e t145 t146 t147 t148 t152) h Q ↔ RunR CP (
  .op (.mv (e 0)) fun t153 =>
  .op (.mv (e 12)) fun t154 =>
  .op (.indexSl 2 t153 t154) fun t155 =>
  .op (.load (some 2) t155) fun t156 =>
  .op (.indexSl 2 t145 t146) fun t157 =>
  .snap fun h13 =>
  .op (.store 2 t157 t152) fun _ =>
  .op (.indexSl 2 t147 t148) fun t158 =>
  .snap fun h15 =>
  .op (.store 2 t158 t156) fun _ =>
  .done e) h Q := Iff.rfl
def c28_r18 : Env → Reg := fun e =>
  .op (.mv (e 0)) fun t145 =>
  .op (.mv (e 12)) fun t146 =>
  .op (.mv (e 0)) fun t147 =>
  .op (.mv (e 13)) fun t148 =>
  .op (.mv (e 0)) fun t149 =>
  .op (.mv (e 13)) fun t150 =>
  .op (.indexSl 2 t149 t150) fun t151 =>
  .op (.load (some 2) t151) fun t152 =>
  c28_r18_c1 e t145 t146 t147 t148 t152
theorem c28_r18_run {CP : CProg} (e : Env) (h : Heap) (Q : Post) : RunR CP (c28_r18 e) h Q ↔ RunR CP (
  .op (.mv (e 0)) fun t145 =>
  .op (.mv (e 12)) fun t146 =>
  .op (.mv (e 0)) fun t147 =>
  .op (.mv (e 13)) fun t148 =>
  .op (.mv (e 0)) fun t149 =>
  .op (.mv (e 13)) fun t150 =>
  .op (.indexSl 2 t149 t150) fun t151 =>
  .op (.load (some 2) t151) fun t152 =>
  c28_r18_c1 e t145 t146 t147 t148 t152) h Q := Iff.rfl
def c28_r19 : Env → Reg := fun e =>
  .op (.mv (e 12)) fun t159 =>
  .op (.bin .add t159 (.int .i64 1)) fun t160 =>
  .op (.mv t160) fun t12 =>
  .done (e.upd 12 t12)
theorem c28_r19_run {CP : CProg} (e : Env) (h : Heap) (Q : Post) : RunR CP (c28_r19 e) h Q ↔ RunR CP (
  .op (.mv (e 12)) fun t159 =>
  .op (.bin .add t159 (.int .i64 1)) fun t160 =>
  .op (.mv t160) fun t12 =>
  .done (e.upd 12 t12)) h Q := Iff.rfl
def c28_r20 : Env → Reg := fun e =>
  .op (.mv (e 13)) fun t161 =>
  .op (.bin .sub t161 (.int .i64 1)) fun t162 =>
  .op (.mv t162) fun t13 =>
  .done (e.upd 13 t13)
theorem c28_r20_run {CP : CProg} (e : Env) (h : Heap) (Q : Post) : RunR CP (c28_r20 e) h Q ↔ RunR CP (
  .op (.mv (e 13)) fun t161 =>
  .op (.bin .sub t161 (.int .i64 1)) fun t162 =>
  .op (.mv t162) fun t13 =>
  .done (e.upd 13 t13)) h Q := Iff.rfl
def c28_l4 : CC := (.block 5 (.seq (.block 6 (.loop c28_l2)) (.seq (.block 8 (.loop c28_l3)) (.seq (.seq (.region c28_r17) (.cond (fun e => e 144) (.exit 4) .skip)) (.seq (.region c28_r18) (.seq (.region c28_r19) (.region c28_r20)))))))
def c28_r21_c1 (e : Env) (t163 : Value) (t164 : Value) (t165 : Value) (t166 : Value) (t170 : Value) : Reg :=
  .op (.mv (e 0)) fun t171 =>
  .op (.mv (e 13)) fun t172 =>
  .op (.indexSl 2 t171 t172) fun t173 =>
  .op (.load (some 2) t173) fun t174 =>
  .op (.indexSl 2 t163 t164) fun t175 =>
  .snap fun h13 =>
  .op (.store 2 t175 t170) fun _ =>
  .op (.indexSl 2 t165 t166) fun t176 =>
  .snap fun h15 =>
  .op (.store 2 t176 t174) fun _ =>
  .done e
theorem c28_r21_c1_run {CP : CProg} (e : Env) (t163 : Value) (t164 : Value) (t165 : Value) (t166 : Value) (t170 : Value) (h : Heap) (Q : Post) : RunR CP (c28_r21_c1 e t163 t164 t165 t166 t170) h Q ↔ RunR CP (
  .op (.mv (e 0)) fun t171 =>
  .op (.mv (e 13)) fun t172 =>
  .op (.indexSl 2 t171 t172) fun t173 =>
  .op (.load (some 2) t173) fun t174 =>
  .op (.indexSl 2 t163 t164) fun t175 =>
  .snap fun h13 =>
  .op (.store 2 t175 t170) fun _ =>
  .op (.indexSl 2 t165 t166) fun t176 =>
  .snap fun h15 =>
  .op (.store 2 t176 t174) fun _ =>
  .done e) h Q := Iff.rfl
def c28_r21 : Env → Reg := fun e =>
  .op (.mv (e 0)) fun t163 =>
  .op (.mv (e 13)) fun t164 =>
  .op (.mv (e 0)) fun t165 =>
  .op (.mv (e 1)) fun t166 =>
  .op (.mv (e 0)) fun t167 =>
  .op (.mv (e 1)) fun t168 =>
  .op (.indexSl 2 t167 t168) fun t169 =>
  .op (.load (some 2) t169) fun t170 =>
  c28_r21_c1 e t163 t164 t165 t166 t170
theorem c28_r21_run {CP : CProg} (e : Env) (h : Heap) (Q : Post) : RunR CP (c28_r21 e) h Q ↔ RunR CP (
  .op (.mv (e 0)) fun t163 =>
  .op (.mv (e 13)) fun t164 =>
  .op (.mv (e 0)) fun t165 =>
  .op (.mv (e 1)) fun t166 =>
  .op (.mv (e 0)) fun t167 =>
  .op (.mv (e 1)) fun t168 =>
  .op (.indexSl 2 t167 t168) fun t169 =>
  .op (.load (some 2) t169) fun t170 =>
  c28_r21_c1 e t163 t164 t165 t166 t170) h Q := Iff.rfl
def c28_r22 : Env → Reg := fun e =>
  .op (.mv (e 13)) fun t177 =>
  .op (.mv t177) fun t10 =>
  .op (.mv (.bool false)) fun t11 =>
  .done ((e.upd 10 t10).upd 11 t11)
theorem c28_r22_run {CP : CProg} (e : Env) (h : Heap) (Q : Post) : RunR CP (c28_r22 e) h Q ↔ RunR CP (
  .op (.mv (e 13)) fun t177 =>
  .op (.mv t177) fun t10 =>
  .op (.mv (.bool false)) fun t11 =>
  .done ((e.upd 10 t10).upd 11 t11)) h Q := Iff.rfl
def c28 : CFn := ⟨(.seq (.region c28_r0) (.seq (.region c28_r1) (.seq (.region c28_r2) (.seq (.block 0 (.loop c28_l0)) (.seq (.block 2 (.loop c28_l1)) (.seq (.seq (.region c28_r7) (.cond (fun e => e 71) (.seq (.region c28_r8) (.seq (.region c28_r9) .ret)) .skip)) (.seq (.region c28_r10) (.seq (.region c28_r11) (.seq (.region c28_r12) (.seq (.block 4 (.loop c28_l4)) (.seq (.region c28_r21) (.seq (.region c28_r22) .ret)))))))))))), [.t 10, .t 11]⟩
def p28 : Pers := ⟨14, [47, 66, 71, 120, 139, 144], 178⟩
-- 29: math/bits.Len32
def c29_r0 : Env → Reg := fun e =>
  .op (.mv (.int .i64 0)) fun t2 =>
  .done (e.upd 2 t2)
theorem c29_r0_run {CP : CProg} (e : Env) (h : Heap) (Q : Post) : RunR CP (c29_r0 e) h Q ↔ RunR CP (
  .op (.mv (.int .i64 0)) fun t2 =>
  .done (e.upd 2 t2)) h Q := Iff.rfl
def c29_r1 : Env → Reg := fun e =>
  .op (.mv (e 0)) fun t3 =>
  .op (.bin .geq t3 (.int .u32 65536)) fun t4 =>
  .done (e.upd 4 t4)
theorem c29_r1_run {CP : CProg} (e : Env) (h : Heap) (Q : Post) : RunR CP (c29_r1 e) h Q ↔ RunR CP (
  .op (.mv (e 0)) fun t3 =>
  .op (.bin .geq t3 (.int .u32 65536)) fun t4 =>
  .done (e.upd 4 t4)) h Q := Iff.rfl
def c29_r2 : Env → Reg := fun e =>
  .op (.mv (e 0)) fun t5 =>
  .op (.bin .shr t5 (.int .u64 16)) fun t6 =>
  .op (.mv t6) fun t0 =>
  .done (e.upd 0 t0)
theorem c29_r2_run {CP : CProg} (e : Env) (h : Heap) (Q : Post) : RunR CP (c29_r2 e) h Q ↔ RunR CP (
  .op (.mv (e 0)) fun t5 =>
  .op (.bin .shr t5 (.int .u64 16)) fun t6 =>
  .op (.mv t6) fun t0 =>
  .done (e.upd 0 t0)) h Q := Iff.rfl
def c29_r3 : Env → Reg := fun e =>
  .op (.mv (.int .i64 16)) fun t2 =>
  .done (e.upd 2 t2)
theorem c29_r3_run {CP : CProg} (e : Env) (h : Heap) (Q : Post) : RunR CP (c29_r3 e) h Q ↔ RunR CP (
  .op (.mv (.int .i64 16)) fun t2 =>
  .done (e.upd 2 t2)) h Q := Iff.rfl
def c29_r4 : Env → Reg := fun e =>
  .op (.mv (e 0)) fun t7 =>
  .op (.bin .geq t7 (.int .u32 256)) fun t8 =>
  .done (e.upd 8 t8)
theorem c29_r4_run {CP : CProg} (e : Env) (h : Heap) (Q : Post) : RunR CP (c29_r4 e) h Q ↔ RunR CP (
  .op (.mv (e 0)) fun t7 =>
  .op (.bin .geq t7 (.int .u32 256)) fun t8 =>
  .done (e.upd 8 t8)) h Q := Iff.rfl
def c29_r5 : Env → Reg := fun e =>
  .op (.mv (e 0)) fun t9 =>
  .op (.bin .shr t9 (.int .u64 8)) fun t10 =>
  .op (.mv t10) fun t0 =>
  .done (e.upd 0 t0)
theorem c29_r5_run {CP : CProg} (e : Env) (h : Heap) (Q : Post) : RunR CP (c29_r5 e) h Q ↔ RunR CP (
  .op (.mv (e 0)) fun t9 =>
  .op (.bin .shr t9 (.int .u64 8)) fun t10 =>
  .op (.mv t10) fun t0 =>
  .done (e.upd 0 t0)) h Q := Iff.rfl
def c29_r6 : Env → Reg := fun e =>
  .op (.mv (e 2)) fun t11 =>
  .op (.bin .add t11 (.int .i64 8)) fun t12 =>
  .op (.mv t12) fun t2 =>
  .done (e.upd 2 t2)
theorem c29_r6_run {CP : CProg} (e : Env) (h : Heap) (Q : Post) : RunR CP (c29_r6 e) h Q ↔ RunR CP (
  .op (.mv (e 2)) fun t11 =>
  .op (.bin .add t11 (.int .i64 8)) fun t12 =>
  .op (.mv t12) fun t2 =>
  .done (e.upd 2 t2)) h Q := Iff.rfl
def c29_r7 : Env → Reg := fun e =>
  .op (.mv (e 2)) fun t13 =>
  .op (.mv (e 0)) fun t14 =>
  .op (.conv .u8 t14) fun t15 =>
  .op (.indexStr (.string big0) t15) fun t16 =>
  .op (.conv .i64 t16) fun t17 =>
  .op (.bin .add t13 t17) fun t18 =>
  .op (.mv t18) fun t2 =>
  .done (e.upd 2 t2)
theorem c29_r7_run {CP : CProg} (e : Env) (h : Heap) (Q : Post) : RunR CP (c29_r7 e) h Q ↔ RunR CP (
  .op (.mv (e 2)) fun t13 =>
  .op (.mv (e 0)) fun t14 =>
  .op (.conv .u8 t14) fun t15 =>
  .op (.indexStr (.string big0) t15) fun t16 =>
  .op (.conv .i64 t16) fun t17 =>
  .op (.bin .add t13 t17) fun t18 =>
  .op (.mv t18) fun t2 =>
  .done (e.upd 2 t2)) h Q := Iff.rfl
def c29 : CFn := ⟨(.seq (.region c29_r0) (.seq (.seq (.region c29_r1) (.cond (fun e => e 4) (.seq (.region c29_r2) (.region c29_r3)) .skip)) (.seq (.seq (.region c29_r4) (.cond (fun e => e 8) (.seq (.region c29_r5) (.region c29_r6)) .skip)) (.seq (.region c29_r7) .ret)))), [.t 2]⟩
def p29 : Pers := ⟨3, [4, 8], 19⟩
-- 30: math/bits.Len64
def c30_r0 : Env → Reg := fun e =>
  .op (.mv (.int .i64 0)) fun t2 =>
  .done (e.upd 2 t2)
theorem c30_r0_run {CP : CProg} (e : Env) (h : Heap) (Q : Post) : RunR CP (c30_r0 e) h Q ↔ RunR CP (
  .op (.mv (.int .i64 0)) fun t2 =>
  .done (e.upd 2 t2)) h Q := Iff.rfl
def c30_r1 : Env → Reg := fun e =>
  .op (.mv (e 0)) fun t3 =>
  .op (.bin .geq t3 (.int .u64 4294967296)) fun t4 =>
  .done (e.upd 4 t4)
theorem c30_r1_run {CP : CProg} (e : Env) (h : Heap) (Q : Post) : RunR CP (c30_r1 e) h Q ↔ RunR CP (
  .op (.mv (e 0)) fun t3 =>
  .op (.bin .geq t3 (.int .u64 4294967296)) fun t4 =>
  .done (e.upd 4 t4)) h Q := Iff.rfl
def c30_r2 : Env → Reg := fun e =>
  .op (.mv (e 0)) fun t5 =>
  .op (.bin .shr t5 (.int .u64 32)) fun t6 =>
  .op (.mv t6) fun t0 =>
  .done (e.upd 0 t0)
theorem c30_r2_run {CP : CProg} (e : Env) (h : Heap) (Q : Post) : RunR CP (c30_r2 e) h Q ↔ RunR CP (
  .op (.mv (e 0)) fun t5 =>
  .op (.bin .shr t5 (.int .u64 32)) fun t6 =>
  .op (.mv t6) fun t0 =>
  .done (e.upd 0 t0)) h Q := Iff.rfl
def c30_r3 : Env → Reg := fun e =>
  .op (.mv (.int .i64 32)) fun t2 =>
  .done (e.upd 2 t2)
theorem c30_r3_run {CP : CProg} (e : Env) (h : Heap) (Q : Post) : RunR CP (c30_r3 e) h Q ↔ RunR CP (
  .op (.mv (.int .i64 32)) fun t2 =>
  .done (e.upd 2 t2)) h Q := Iff.rfl
def c30_r4 : Env → Reg := fun e =>
  .op (.mv (e 0)) fun t7 =>
  .op (.bin .geq t7 (.int .u64 65536)) fun t8 =>
  .done (e.upd 8 t8)
theorem c30_r4_run {CP : CProg} (e : Env) (h : Heap) (Q : Post) : RunR CP (c30_r4 e) h Q ↔ RunR CP (
  .op (.mv (e 0)) fun t7 =>
  .op (.bin .geq t7 (.int .u64 65536)) fun t8 =>
  .done (e.upd 8 t8)) h Q := Iff.rfl
def c30_r5 : Env → Reg := fun e =>
  .op (.mv (e 0)) fun t9 =>
  .op (.bin .shr t9 (.int .u64 16)) fun t10 =>
  .op (.mv t10) fun t0 =>
  .done (e.upd 0 t0)
theorem c30_r5_run {CP : CProg} (e : Env) (h : Heap) (Q : Post) : RunR CP (c30_r5 e) h Q ↔ RunR CP (
  .op (.mv (e 0)) fun t9 =>
  .op (.bin .shr t9 (.int .u64 16)) fun t10 =>
  .op (.mv t10) fun t0 =>
  .done (e.upd 0 t0)) h Q := Iff.rfl
def c30_r6 : Env → Reg := fun e =>
  .op (.mv (e 2)) fun t11 =>
  .op (.bin .add t11 (.int .i64 16)) fun t12 =>
  .op (.mv t12) fun t2 =>
  .done (e.upd 2 t2)
theorem c30_r6_run {CP : CProg} (e : Env) (h : Heap) (Q : Post) : RunR CP (c30_r6 e) h Q ↔ RunR CP (
  .op (.mv (e 2)) fun t11 =>
  .op (.bin .add t11 (.int .i64 16)) fun t12 =>
  .op (.mv t12) fun t2 =>
  .done (e.upd 2 t2)) h Q := Iff.rfl
def c30_r7 : Env → Reg := fun e =>
  .op (.mv (e 0)) fun t13 =>
  .op (.bin .geq t13 (.int .u64 256)) fun t14 =>
  .done (e.upd 14 t14)
theorem c30_r7_run {CP : CProg} (e : Env) (h : Heap) (Q : Post) : RunR CP (c30_r7 e) h Q ↔ RunR CP (
  .op (.mv (e 0)) fun t13 =>
  .op (.bin .geq t13 (.int .u64 256)) fun t14 =>
  .done (e.upd 14 t14)) h Q := Iff.rfl
def c30_r8 : Env → Reg := fun e =>
  .op (.mv (e 0)) fun t15 =>
  .op (.bin .shr t15 (.int .u64 8)) fun t16 =>
  .op (.mv t16) fun t0 =>
  .done (e.upd 0 t0)
theorem c30_r8_run {CP : CProg} (e : Env) (h : Heap) (Q : Post) : RunR CP (c30_r8 e) h Q ↔ RunR CP (
  .op (.mv (e 0)) fun t15 =>
  .op (.bin .shr t15 (.int .u64 8)) fun t16 =>
  .op (.mv t16) fun t0 =>
  .done (e.upd 0 t0)) h Q := Iff.rfl
def c30_r9 : Env → Reg := fun e =>
  .op (.mv (e 2)) fun t17 =>
  .op (.bin .add t17 (.int .i64 8)) fun t18 =>
  .op (.mv t18) fun t2 =>
  .done (e.upd 2 t2)
theorem c30_r9_run {CP : CProg} (e : Env) (h : Heap) (Q : Post) : RunR CP (c30_r9 e) h Q ↔ RunR CP (
  .op (.mv (e 2)) fun t17 =>
  .op (.bin .add t17 (.int .i64 8)) fun t18 =>
  .op (.mv t18) fun t2 =>
  .done (e.upd 2 t2)) h Q := Iff.rfl
def c30_r10 : Env → Reg := fun e =>
  .op (.mv (e 2)) fun t19 =>
  .op (.mv (e 0)) fun t20 =>
  .op (.conv .u8 t20) fun t21 =>
  .op (.indexStr (.string big0) t21) fun t22 =>
  .op (.conv .i64 t22) fun t23 =>
  .op (.bin .add t19 t23) fun t24 =>
  .op (.mv t24) fun t2 =>
  .done (e.upd 2 t2)
theorem c30_r10_run {CP : CProg} (e : Env) (h : Heap) (Q : Post) : RunR CP (c30_r10 e) h Q ↔ RunR CP (
  .op (.mv (e 2)) fun t19 =>
  .op (.mv (e 0)) fun t20 =>
  .op (.conv .u8 t20) fun t21 =>
  .op (.indexStr (.string big0) t21) fun t22 =>
  .op (.conv .i64 t22) fun t23 =>
  .op (.bin .add t19 t23) fun t24 =>
  .op (.mv t24) fun t2 =>
  .done (e.upd 2 t2)) h Q := Iff.rfl
def c30 : CFn := ⟨(.seq (.region c30_r0) (.seq (.seq (.region c30_r1) (.cond (fun e => e 4) (.seq (.region c30_r2) (.region c30_r3)) .skip)) (.seq (.seq (.region c30_r4) (.cond (fun e => e 8) (.seq (.region c30_r5) (.region c30_r6)) .skip)) (.seq (.seq (.region c30_r7) (.cond (fun e => e 14) (.seq (.region c30_r8) (.region c30_r9)) .skip)) (.seq (.region c30_r10) .ret))))), [.t 2]⟩
def p30 : Pers := ⟨3, [4, 8, 14], 25⟩
-- 31: slices.siftDownCmpFunc[weighbridge/audit.Who]
def c31_r0 : Env → Reg := fun e =>
  .op (.mv (e 1)) fun t12 =>
  .op (.mv t12) fun t10 =>
  .done (e.upd 10 t10)
theorem c31_r0_run {CP : CProg} (e : Env) (h : Heap) (Q : Post) : RunR CP (c31_r0 e) h Q ↔ RunR CP (
  .op (.mv (e 1)) fun t12 =>
  .op (.mv t12) fun t10 =>
  .done (e.upd 10 t10)) h Q := Iff.rfl
def c31_r1 : Env → Reg := fun e =>
  .op (.mv (e 10)) fun t13 =>
  .op (.bin .mul (.int .i64 2) t13) fun t14 =>
  .op (.bin .add t14 (.int .i64 1)) fun t15 =>
  .op (.mv t15) fun t11 =>
  .done (e.upd 11 t11)
theorem c31_r1_run {CP : CProg} (e : Env) (h : Heap) (Q : Post) : RunR CP (c31_r1 e) h Q ↔ RunR CP (
  .op (.mv (e 10)) fun t13 =>
  .op (.bin .mul (.int .i64 2) t13) fun t14 =>
  .op (.bin .add t14 (.int .i64 1)) fun t15 =>
  .op (.mv t15) fun t11 =>
  .done (e.upd 11 t11)) h Q := Iff.rfl
def c31_r2 : Env → Reg := fun e =>
  .op (.mv (e 11)) fun t16 =>
  .op (.mv (e 2)) fun t17 =>
  .op (.bin .geq t16 t17) fun t18 =>
  .done (e.upd 18 t18)
theorem c31_r2_run {CP : CProg} (e : Env) (h : Heap) (Q : Post) : RunR CP (c31_r2 e) h Q ↔ RunR CP (
  .op (.mv (e 11)) fun t16 =>
  .op (.mv (e 2)) fun t17 =>
  .op (.bin .geq t16 t17) fun t18 =>
  .done (e.upd 18 t18)) h Q := Iff.rfl
def c31_r3_c2 (e : Env) (t23 : Value) (t24 : Value) (t30 : Value) (t31 : Value) (t34 : Value) : Reg :=
  .opg t23 true (.bin .add t34 (.int .i64 1)) fun t35 =>
  .opg t23 true (.indexSl 2 t31 t35) fun t36 =>
  .opg t23 true (.load (some 2) t36) fun t37 =>
  .snap fun h19 =>
  .opg t23 true (.callv t24 [t30, t37]) fun t38 =>
  .opg t23 true (.bin .lss t38 (.int .i64 0)) fun t39 =>
  .op (.pick t23 t39 (.bool false)) fun t40 =>
  .done (e.upd 40 t40)
theorem c31_r3_c2_run {CP : CProg} (e : Env) (t23 : Value) (t24 : Value) (t30 : Value) (t31 : Value) (t34 : Value) (h : Heap) (Q : Post) : RunR CP (c31_r3_c2 e t23 t24 t30 t31 t34) h Q ↔ RunR CP (
  .opg t23 true (.bin .add t34 (.int .i64 1)) fun t35 =>
  .opg t23 true (.indexSl 2 t31 t35) fun t36 =>
  .opg t23 true (.load (some 2) t36) fun t37 =>
  .snap fun h19 =>
  .opg t23 true (.callv t24 [t30, t37]) fun t38 =>
  .opg t23 true (.bin .lss t38 (.int .i64 0)) fun t39 =>
  .op (.pick t23 t39 (.bool false)) fun t40 =>
  .done (e.upd 40 t40)) h Q := Iff.rfl
def c31_r3_c1 (e : Env) (t23 : Value) (t24 : Value) (t25 : Value) (t26 : Value) : Reg :=
  .opg t23 true (.mv (e 11)) fun t27 =>
  .opg t23 true (.bin .add t26 t27) fun t28 =>
  .opg t23 true (.indexSl 2 t25 t28) fun t29 =>
  .opg t23 true (.load (some 2) t29) fun t30 =>
  .opg t23 true (.mv (e 0)) fun t31 =>
  .opg t23 true (.mv (e 3)) fun t32 =>
  .opg t23 true (.mv (e 11)) fun t33 =>
  .opg t23 true (.bin .add t32 t33) fun t34 =>
  c31_r3_c2 e t23 t24 t30 t31 t34
theorem c31_r3_c1_run {CP : CProg} (e : Env) (t23 : Value) (t24 : Value) (t25 : Value) (t26 : Value) (h : Heap) (Q : Post) : RunR CP (c31_r3_c1 e t23 t24 t25 t26) h Q ↔ RunR CP (
  .opg t23 true (.mv (e 11)) fun t27 =>
  .opg t23 true (.bin .add t26 t27) fun t28 =>
  .opg t23 true (.indexSl 2 t25 t28) fun t29 =>
  .opg t23 true (.load (some 2) t29) fun t30 =>
  .opg t23 true (.mv (e 0)) fun t31 =>
  .opg t23 true (.mv (e 3)) fun t32 =>
  .opg t23 true (.mv (e 11)) fun t33 =>
  .opg t23 true (.bin .add t32 t33) fun t34 =>
  c31_r3_c2 e t23 t24 t30 t31 t34) h Q := Iff.rfl
def c31_r3 : Env → Reg := fun e =>
  .op (.mv (e 11)) fun t19 =>
  .op (.bin .add t19 (.int .i64 1)) fun t20 =>
  .op (.mv (e 2)) fun t21 =>
  .op (.bin .lss t20 t21) fun t22 =>
  .op (.mv t22) fun t23 =>
  .opg t23 true (.mv (e 4)) fun t24 =>
  .opg t23 true (.mv (e 0)) fun t25 =>
  .opg t23 true (.mv (e 3)) fun t26 =>
  c31_r3_c1 e t23 t24 t25 t26
theorem c31_r3_run {CP : CProg} (e : Env) (h : Heap) (Q : Post) : RunR CP (c31_r3 e) h Q ↔ RunR CP (
  .op (.mv (e 11)) fun t19 =>
  .op (.bin .add t19 (.int .i64 1)) fun t20 =>
  .op (.mv (e 2)) fun t21 =>
  .op (.bin .lss t20 t21) fun t22 =>
  .op (.mv t22) fun t23 =>
  .opg t23 true (.mv (e 4)) fun t24 =>
  .opg t23 true (.mv (e 0)) fun t25 =>
  .opg t23 true (.mv (e 3)) fun t26 =>
  c31_r3_c1 e t23 t24 t25 t26) h Q := Iff.rfl
def c31_r4 : Env → Reg := fun e =>
  .op (.mv (e 11)) fun t41 =>
  .op (.bin .add t41 (.int .i64 1)) fun t42 =>
  .op (.mv t42) fun t11 =>
  .done (e.upd 11 t11)
theorem c31_r4_run {CP : CProg} (e : Env) (h : Heap) (Q : Post) : RunR CP (c31_r4 e) h Q ↔ RunR CP (
  .op (.mv (e 11)) fun t41 =>
  .op (.bin .add t41 (.int .i64 1)) fun t42 =>
  .op (.mv t42) fun t11 =>
  .done (e.upd 11 t11)) h Q := Iff.rfl
def c31_r5_c1 (e : Env) (t43 : Value) (t49 : Value) (t50 : Value) : Reg :=
  .op (.mv (e 3)) fun t51 =>
  .op (.mv (e 11)) fun t52 =>
  .op (.bin .add t51 t52) fun t53 =>
  .op (.indexSl 2 t50 t53) fun t54 =>
  .op (.load (some 2) t54) fun t55 =>
  .snap fun h13 =>
  .op (.callv t43 [t49, t55]) fun t56 =>
  .op (.bin .lss t56 (.int .i64 0)) fun t57 =>
  .op (.un .not t57) fun t58 =>
  .done (e.upd 58 t58)
theorem c31_r5_c1_run {CP : CProg} (e : Env) (t43 : Value) (t49 : Value) (t50 : Value) (h : Heap) (Q : Post) : RunR CP (c31_r5_c1 e t43 t49 t50) h Q ↔ RunR CP (
  .op (.mv (e 3)) fun t51 =>
  .op (.mv (e 11)) fun t52 =>
  .op (.bin .add t51 t52) fun t53 =>
  .op (.indexSl 2 t50 t53) fun t54 =>
  .op (.load (some 2) t54) fun t55 =>
  .snap fun h13 =>
  .op (.callv t43 [t49, t55]) fun t56 =>
  .op (.bin .lss t56 (.int .i64 0)) fun t57 =>
  .op (.un .not t57) fun t58 =>
  .done (e.upd 58 t58)) h Q := Iff.rfl
def c31_r5 : Env → Reg := fun e =>
  .op (.mv (e 4)) fun t43 =>
  .op (.mv (e 0)) fun t44 =>
  .op (.mv (e 3)) fun t45 =>
  .op (.mv (e 10)) fun t46 =>
  .op (.bin .add t45 t46) fun t47 =>
  .op (.indexSl 2 t44 t47) fun t48 =>
  .op (.load (some 2) t48) fun t49 =>
  .op (.mv (e 0)) fun t50 =>
  c31_r5_c1 e t43 t49 t50
theorem c31_r5_run {CP : CProg} (e : Env) (h : Heap) (Q : Post) : RunR CP (c31_r5 e) h Q ↔ RunR CP (
  .op (.mv (e 4)) fun t43 =>
  .op (.mv (e 0)) fun t44 =>
  .op (.mv (e 3)) fun t45 =>
  .op (.mv (e 10)) fun t46 =>
  .op (.bin .add t45 t46) fun t47 =>
  .op (.indexSl 2 t44 t47) fun t48 =>
  .op (.load (some 2) t48) fun t49 =>
  .op (.mv (e 0)) fun t50 =>
  c31_r5_c1 e t43 t49 t50) h Q := Iff.rfl
def c31_r6_c2 (e : Env) (t59 : Value) (t62 : Value) (t63 : Value) (t66 : Value) (t72 : Value) (t73 : Value) (t74 : Value) : Reg :=
  .op (.mv (e 10)) fun t75 =>
  .op (.bin .add t74 t75) fun t76 =>
  .op (.indexSl 2 t73 t76) fun t77 =>
  .op (.load (some 2) t77) fun t78 =>
  .op (.indexSl 2 t59 t62) fun t79 =>
  .snap fun h21 =>
  .op (.store 2 t79 t72) fun _ =>
  .op (.indexSl 2 t63 t66) fun t80 =>
  .snap fun h23 =>
  .op (.store 2 t80 t78) fun _ =>
  .done e
theorem c31_r6_c2_run {CP : CProg} (e : Env) (t59 : Value) (t62 : Value) (t63 : Value) (t66 : Value) (t72 : Value) (t73 : Value) (t74 : Value) (h : Heap) (Q : Post) : RunR CP (c31_r6_c2 e t59 t62 t63 t66 t72 t73 t74) h Q ↔ RunR CP (
  .op (.mv (e 10)) fun t75 =>
  .op (.bin .add t74 t75) fun t76 =>
  .op (.indexSl 2 t73 t76) fun t77 =>
  .op (.load (some 2) t77) fun t78 =>
  .op (.indexSl 2 t59 t62) fun t79 =>
  .snap fun h21 =>
  .op (.store 2 t79 t72) fun _ =>
  .op (.indexSl 2 t63 t66) fun t80 =>
  .snap fun h23 =>
  .op (.store 2 t80 t78) fun _ =>
  .done e) h Q := Iff.rfl
def c31_r6_c1 (e : Env) (t59 : Value) (t62 : Value) (t63 : Value) (t66 : Value) : Reg :=
  .op (.mv (e 0)) fun t67 =>
  .op (.mv (e 3)) fun t68 =>
  .op (.mv (e 11)) fun t69 =>
  .op (.bin .add t68 t69) fun t70 =>
  .op (.indexSl 2 t67 t70) fun t71 =>
  .op (.load (some 2) t71) fun t72 =>
  .op (.mv (e 0)) fun t73 =>
  .op (.mv (e 3)) fun t74 =>
  c31_r6_c2 e t59 t62 t63 t66 t72 t73 t74
theorem c31_r6_c1_run {CP : CProg} (e : Env) (t59 : Value) (t62 : Value) (t63 : Value) (t66 : Value) (h : Heap) (Q : Post) : RunR CP (c31_r6_c1 e t59 t62 t63 t66) h Q ↔ RunR CP (
  .op (.mv (e 0)) fun t67 =>
  .op (.mv (e 3)) fun t68 =>
  .op (.mv (e 11)) fun t69 =>
  .op (.bin .add t68 t69) fun t70 =>
  .op (.indexSl 2 t67 t70) fun t71 =>
  .op (.load (some 2) t71) fun t72 =>
  .op (.mv (e 0)) fun t73 =>
  .op (.mv (e 3)) fun t74 =>
  c31_r6_c2 e t59 t62 t63 t66 t72 t73 t74) h Q := Iff.rfl
def c31_r6 : Env → Reg := fun e =>
  .op (.mv (e 0)) fun t59 =>
  .op (.mv (e 3)) fun t60 =>
  .op (.mv (e 10)) fun t61 =>
  .op (.bin .add t60 t61) fun t62 =>
  .op (.mv (e 0)) fun t63 =>
  .op (.mv (e 3)) fun t64 =>
  .op (.mv (e 11)) fun t65 =>
  .op (.bin .add t64 t65) fun t66 =>
  c31_r6_c1 e t59 t62 t63 t66
theorem c31_r6_run {CP : CProg} (e : Env) (h : Heap) (Q : Post) : RunR CP (c31_r6 e) h Q ↔ RunR CP (
  .op (.mv (e 0)) fun t59 =>
  .op (.mv (e 3)) fun t60 =>
  .op (.mv (e 10)) fun t61 =>
  .op (.bin .add t60 t61) fun t62 =>
  .op (.mv (e 0)) fun t63 =>
  .op (.mv (e 3)) fun t64 =>
  .op (.mv (e 11)) fun t65 =>
  .op (.bin .add t64 t65) fun t66 =>
  c31_r6_c1 e t59 t62 t63 t66) h Q := Iff.rfl
def c31_r7 : Env → Reg := fun e =>
  .op (.mv (e 11)) fun t81 =>
  .op (.mv t81) fun t10 =>
  .done (e.upd 10 t10)
theorem c31_r7_run {CP : CProg} (e : Env) (h : Heap) (Q : Post) : RunR CP (c31_r7 e) h Q ↔ RunR CP (
  .op (.mv (e 11)) fun t81 =>
  .op (.mv t81) fun t10 =>
  .done (e.upd 10 t10)) h Q := Iff.rfl
def c31_l0 : CC := (.block 1 (.seq (.region c31_r1) (.seq (.seq (.region c31_r2) (.cond (fun e => e 18) (.exit 0) .skip)) (.seq (.seq (.region c31_r3) (.cond (fun e => e 40) (.region c31_r4) .skip)) (.seq (.seq (.region c31_r5) (.cond (fun e => e 58) .ret .skip)) (.seq (.region c31_r6) (.region c31_r7)))))))
def c31 : CFn := ⟨(.seq (.region c31_r0) (.block 0 (.loop c31_l0))), []⟩
def p31 : Pers := ⟨12, [18, 40, 58], 82⟩
-- 32: slices.nextPowerOfTwo
def c32_r0 : Env → Reg := fun e =>
  .op (.mv (.int .u64 0)) fun t2 =>
  .done (e.upd 2 t2)
theorem c32_r0_run {CP : CProg} (e : Env) (h : Heap) (Q : Post) : RunR CP (c32_r0 e) h Q ↔ RunR CP (
  .op (.mv (.int .u64 0)) fun t2 =>
  .done (e.upd 2 t2)) h Q := Iff.rfl
def c32_r1 : Env → Reg := fun e =>
  .op (.mv (e 0)) fun t3 =>
  .op (.conv .u64 t3) fun t4 =>
  .op (.call 20 [t4]) fun t5 =>
  .op (.bin .shl (.int .u64 1) t5) fun t6 =>
  .op (.mv t6) fun t2 =>
  .done (e.upd 2 t2)
theorem c32_r1_run {CP : CProg} (e : Env) (h : Heap) (Q : Post) : RunR CP (c32_r1 e) h Q ↔ RunR CP (
  .op (.mv (e 0)) fun t3 =>
  .op (.conv .u64 t3) fun t4 =>
  .op (.call 20 [t4]) fun t5 =>
  .op (.bin .shl (.int .u64 1) t5) fun t6 =>
  .op (.mv t6) fun t2 =>
  .done (e.upd 2 t2)) h Q := Iff.rfl
def c32 : CFn := ⟨(.seq (.region c32_r0) (.seq (.region c32_r1) .ret)), [.t 2]⟩
def p32 : Pers := ⟨3, [], 7⟩
-- 33: (*slices.xorshift).Next
def c33_r0 : Env → Reg := fun e =>
  .op (.mv (.int .u64 0)) fun t2 =>
  .done (e.upd 2 t2)
theorem c33_r0_run {CP : CProg} (e : Env) (h : Heap) (Q : Post) : RunR CP (c33_r0 e) h Q ↔ RunR CP (
  .op (.mv (.int .u64 0)) fun t2 =>
  .done (e.upd 2 t2)) h Q := Iff.rfl
def c33_r1_c1 (e : Env) (t3 : Value) (t10 : Value) : Reg :=
  .op (.nilCheck t3) fun t11 =>
  .snap fun h9 =>
  .op (.store 1 t11 t10) fun _ =>
  .done e
theorem c33_r1_c1_run {CP : CProg} (e : Env) (t3 : Value) (t10 : Value) (h : Heap) (Q : Post) : RunR CP (c33_r1_c1 e t3 t10) h Q ↔ RunR CP (
  .op (.nilCheck t3) fun t11 =>
  .snap fun h9 =>
  .op (.store 1 t11 t10) fun _ =>
  .done e) h Q := Iff.rfl
def c33_r1 : Env → Reg := fun e =>
  .op (.mv (e 0)) fun t3 =>
  .op (.nilCheck t3) fun t4 =>
  .op (.load none t4) fun t5 =>
  .op (.mv (e 0)) fun t6 =>
  .op (.nilCheck t6) fun t7 =>
  .op (.load none t7) fun t8 =>
  .op (.bin .shl t8 (.int .u64 13)) fun t9 =>
  .op (.bin .xor t5 t9) fun t10 =>
  c33_r1_c1 e t3 t10
theorem c33_r1_run {CP : CProg} (e : Env) (h : Heap) (Q : Post) : RunR CP (c33_r1 e) h Q ↔ RunR CP (
  .op (.mv (e 0)) fun t3 =>
  .op (.nilCheck t3) fun t4 =>
  .op (.load none t4) fun t5 =>
  .op (.mv (e 0)) fun t6 =>
  .op (.nilCheck t6) fun t7 =>
  .op (.load none t7) fun t8 =>
  .op (.bin .shl t8 (.int .u64 13)) fun t9 =>
  .op (.bin .xor t5 t9) fun t10 =>
  c33_r1_c1 e t3 t10) h Q := Iff.rfl
def c33_r2_c1 (e : Env) (t12 : Value) (t19 : Value) : Reg :=
  .op (.nilCheck t12) fun t20 =>
  .snap fun h9 =>
  .op (.store 1 t20 t19) fun _ =>
  .done e
theorem c33_r2_c1_run {CP : CProg} (e : Env) (t12 : Value) (t19 : Value) (h : Heap) (Q : Post) : RunR CP (c33_r2_c1 e t12 t19) h Q ↔ RunR CP (
  .op (.nilCheck t12) fun t20 =>
  .snap fun h9 =>
  .op (.store 1 t20 t19) fun _ =>
  .done e) h Q := Iff.rfl
def c33_r2 : Env → Reg := fun e =>
  .op (.mv (e 0)) fun t12 =>
  .op (.nilCheck t12) fun t13 =>
  .op (.load none t13) fun t14 =>
  .op (.mv (e 0)) fun t15 =>
  .op (.nilCheck t15) fun t16 =>
  .op (.load none t16) fun t17 =>
  .op (.bin .shr t17 (.int .u64 7)) fun t18 =>
  .op (.bin .xor t14 t18) fun t19 =>
  c33_r2_c1 e t12 t19
theorem c33_r2_run {CP : CProg} (e : Env) (h : Heap) (Q : Post) : RunR CP (c33_r2 e) h Q ↔ RunR CP (
  .op (.mv (e 0)) fun t12 =>
  .op (.nilCheck t12) fun t13 =>
  .op (.load none t13) fun t14 =>
  .op (.mv (e 0)) fun t15 =>
  .op (.nilCheck t15) fun t16 =>
  .op (.load none t16) fun t17 =>
  .op (.bin .shr t17 (.int .u64 7)) fun t18 =>
  .op (.bin .xor t14 t18) fun t19 =>
  c33_r2_c1 e t12 t19) h Q := Iff.rfl
def c33_r3_c1 (e : Env) (t21 : Value) (t28 : Value) : Reg :=
  .op (.nilCheck t21) fun t29 =>
  .snap fun h9 =>
  .op (.store 1 t29 t28) fun _ =>
  .done e
theorem c33_r3_c1_run {CP : CProg} (e : Env) (t21 : Value) (t28 : Value) (h : Heap) (Q : Post) : RunR CP (c33_r3_c1 e t21 t28) h Q ↔ RunR CP (
  .op (.nilCheck t21) fun t29 =>
  .snap fun h9 =>
  .op (.store 1 t29 t28) fun _ =>
  .done e) h Q := Iff.rfl
def c33_r3 : Env → Reg := fun e =>
  .op (.mv (e 0)) fun t21 =>
  .op (.nilCheck t21) fun t22 =>
  .op (.load none t22) fun t23 =>
  .op (.mv (e 0)) fun t24 =>
  .op (.nilCheck t24) fun t25 =>
  .op (.load none t25) fun t26 =>
  .op (.bin .shl t26 (.int .u64 17)) fun t27 =>
  .op (.bin .xor t23 t27) fun t28 =>
  c33_r3_c1 e t21 t28
theorem c33_r3_run {CP : CProg} (e : Env) (h : Heap) (Q : Post) : RunR CP (c33_r3 e) h Q ↔ RunR CP (
  .op (.mv (e 0)) fun t21 =>
  .op (.nilCheck t21) fun t22 =>
  .op (.load none t22) fun t23 =>
  .op (.mv (e 0)) fun t24 =>
  .op (.nilCheck t24) fun t25 =>
  .op (.load none t25) fun t26 =>
  .op (.bin .shl t26 (.int .u64 17)) fun t27 =>
  .op (.bin .xor t23 t27) fun t28 =>
  c33_r3_c1 e t21 t28) h Q := Iff.rfl
def c33_r4 : Env → Reg := fun e =>
  .op (.mv (e 0)) fun t30 =>
  .op (.nilCheck t30) fun t31 =>
  .op (.load none t31) fun t32 =>
  .op (.mv t32) fun t2 =>
  .done (e.upd 2 t2)
theorem c33_r4_run {CP : CProg} (e : Env) (h : Heap) (Q : Post) : RunR CP (c33_r4 e) h Q ↔ RunR CP (
  .op (.mv (e 0)) fun t30 =>
  .op (.nilCheck t30) fun t31 =>
  .op (.load none t31) fun t32 =>
  .op (.mv t32) fun t2 =>
  .done (e.upd 2 t2)) h Q := Iff.rfl
def c33 : CFn := ⟨(.seq (.region c33_r0) (.seq (.region c33_r1) (.seq (.region c33_r2) (.seq (.region c33_r3) (.seq (.region c33_r4) .ret))))), [.t 2]⟩
def p33 : Pers := ⟨3, [], 33⟩
-- 34: slices.medianAdjacentCmpFunc[weighbridge/audit.Who]
def c34_r0 : Env → Reg := fun e =>
  .op (.mv (.int .i64 0)) fun t8 =>
  .done (e.upd 8 t8)
theorem c34_r0_run {CP : CProg} (e : Env) (h : Heap) (Q : Post) : RunR CP (c34_r0 e) h Q ↔ RunR CP (
  .op (.mv (.int .i64 0)) fun t8 =>
  .done (e.upd 8 t8)) h Q := Iff.rfl
def c34_r1 : Env → Reg := fun e =>
  .op (.mv (e 0)) fun t9 =>
  .op (.mv (e 1)) fun t10 =>
  .op (.bin .sub t10 (.int .i64 1)) fun t11 =>
  .op (.mv (e 1)) fun t12 =>
  .op (.mv (e 1)) fun t13 =>
  .op (.bin .add t13 (.int .i64 1)) fun t14 =>
  .op (.mv (e 2)) fun t15 =>
  .op (.mv (e 3)) fun t16 =>
  .op (.call 35 [t9, t11, t12, t14, t15, t16]) fun t17 =>
  .op (.mv t17) fun t8 =>
  .done (e.upd 8 t8)
theorem c34_r1_run {CP : CProg} (e : Env) (h : Heap) (Q : Post) : RunR CP (c34_r1 e) h Q ↔ RunR CP (
  .op (.mv (e 0)) fun t9 =>
  .op (.mv (e 1)) fun t10 =>
  .op (.bin .sub t10 (.int .i64 1)) fun t11 =>
  .op (.mv (e 1)) fun t12 =>
  .op (.mv (e 1)) fun t13 =>
  .op (.bin .add t13 (.int .i64 1)) fun t14 =>
  .op (.mv (e 2)) fun t15 =>
  .op (.mv (e 3)) fun t16 =>
  .op (.call 35 [t9, t11, t12, t14, t15, t16]) fun t17 =>
  .op (.mv t17) fun t8 =>
  .done (e.upd 8 t8)) h Q := Iff.rfl
def c34 : CFn := ⟨(.seq (.region c34_r0) (.seq (.region c34_r1) .ret)), [.t 8]⟩
def p34 : Pers := ⟨9, [], 18⟩
-- 35: slices.medianCmpFunc[weighbridge/audit.Who]
def c35_r0 : Env → Reg := fun e =>
  .op (.mv (.int .i64 0)) fun t12 =>
  .done (e.upd 12 t12)
theorem c35_r0_run {CP : CProg} (e : Env) (h : Heap) (Q : Post) : RunR CP (c35_r0 e) h Q ↔ RunR CP (
  .op (.mv (.int .i64 0)) fun t12 =>
  .done (e.upd 12 t12)) h Q := Iff.rfl
def c35_r1_c1 (e : Env) (t13 : Value) (t20 : Value) : Reg :=
  .op (.extract t13 1) fun t21 =>
  .op (.mv t20) fun t1 =>
  .op (.mv t21) fun t2 =>
  .done ((e.upd 1 t1).upd 2 t2)
theorem c35_r1_c1_run {CP : CProg} (e : Env) (t13 : Value) (t20 : Value) (h : Heap) (Q : Post) : RunR CP (c35_r1_c1 e t13 t20) h Q ↔ RunR CP (
  .op (.extract t13 1) fun t21 =>
  .op (.mv t20) fun t1 =>
  .op (.mv t21) fun t2 =>
  .done ((e.upd 1 t1).upd 2 t2)) h Q := Iff.rfl
def c35_r1 : Env → Reg := fun e =>
  .op (.mv (e 0)) fun t14 =>
  .op (.mv (e 1)) fun t15 =>
  .op (.mv (e 2)) fun t16 =>
  .op (.mv (e 4)) fun t17 =>
  .op (.mv (e 5)) fun t18 =>
  .op (.call 36 [t14, t15, t16, t17, t18]) fun t19 =>
  .op (.mv t19) fun t13 =>
  .op (.extract t13 0) fun t20 =>
  c35_r1_c1 e t13 t20
theorem c35_r1_run {CP : CProg} (e : Env) (h : Heap) (Q : Post) : RunR CP (c35_r1 e) h Q ↔ RunR CP (
  .op (.mv (e 0)) fun t14 =>
  .op (.mv (e 1)) fun t15 =>
  .op (.mv (e 2)) fun t16 =>
  .op (.mv (e 4)) fun t17 =>
  .op (.mv (e 5)) fun t18 =>
  .op (.call 36 [t14, t15, t16, t17, t18]) fun t19 =>
  .op (.mv t19) fun t13 =>
  .op (.extract t13 0) fun t20 =>
  c35_r1_c1 e t13 t20) h Q := Iff.rfl
def c35_r2_c1 (e : Env) (t22 : Value) (t29 : Value) : Reg :=
  .op (.extract t22 1) fun t30 =>
  .op (.mv t29) fun t2 =>
  .op (.mv t30) fun t3 =>
  .done ((e.upd 2 t2).upd 3 t3)
theorem c35_r2_c1_run {CP : CProg} (e : Env) (t22 : Value) (t29 : Value) (h : Heap) (Q : Post) : RunR CP (c35_r2_c1 e t22 t29) h Q ↔ RunR CP (
  .op (.extract t22 1) fun t30 =>
  .op (.mv t29) fun t2 =>
  .op (.mv t30) fun t3 =>
  .done ((e.upd 2 t2).upd 3 t3)) h Q := Iff.rfl
def c35_r2 : Env → Reg := fun e =>
  .op (.mv (e 0)) fun t23 =>
  .op (.mv (e 2)) fun t24 =>
  .op (.mv (e 3)) fun t25 =>
  .op (.mv (e 4)) fun t26 =>
  .op (.mv (e 5)) fun t27 =>
  .op (.call 36 [t23, t24, t25, t26, t27]) fun t28 =>
  .op (.mv t28) fun t22 =>
  .op (.extract t22 0) fun t29 =>
  c35_r2_c1 e t22 t29
theorem c35_r2_run {CP : CProg} (e : Env) (h : Heap) (Q : Post) : RunR CP (c35_r2 e) h Q ↔ RunR CP (
  .op (.mv (e 0)) fun t23 =>
  .op (.mv (e 2)) fun t24 =>
  .op (.mv (e 3)) fun t25 =>
  .op (.mv (e 4)) fun t26 =>
  .op (.mv (e 5)) fun t27 =>
  .op (.call 36 [t23, t24, t25, t26, t27]) fun t28 =>
  .op (.mv t28) fun t22 =>
  .op (.extract t22 0) fun t29 =>
  c35_r2_c1 e t22 t29) h Q := Iff.rfl
def c35_r3_c1 (e : Env) (t31 : Value) (t38 : Value) : Reg :=
  .op (.extract t31 1) fun t39 =>
  .op (.mv t38) fun t1 =>
  .op (.mv t39) fun t2 =>
  .done ((e.upd 1 t1).upd 2 t2)
theorem c35_r3_c1_run {CP : CProg} (e : Env) (t31 : Value) (t38 : Value) (h : Heap) (Q : Post) : RunR CP (c35_r3_c1 e t31 t38) h Q ↔ RunR CP (
  .op (.extract t31 1) fun t39 =>
  .op (.mv t38) fun t1 =>
  .op (.mv t39) fun t2 =>
  .done ((e.upd 1 t1).upd 2 t2)) h Q := Iff.rfl
def c35_r3 : Env → Reg := fun e =>
  .op (.mv (e 0)) fun t32 =>
  .op (.mv (e 1)) fun t33 =>
  .op (.mv (e 2)) fun t34 =>
  .op (.mv (e 4)) fun t35 =>
  .op (.mv (e 5)) fun t36 =>
  .op (.call 36 [t32, t33, t34, t35, t36]) fun t37 =>
  .op (.mv t37) fun t31 =>
  .op (.extract t31 0) fun t38 =>
  c35_r3_c1 e t31 t38
theorem c35_r3_run {CP : CProg} (e : Env) (h : Heap) (Q : Post) : RunR CP (c35_r3 e) h Q ↔ RunR CP (
  .op (.mv (e 0)) fun t32 =>
  .op (.mv (e 1)) fun t33 =>
  .op (.mv (e 2)) fun t34 =>
  .op (.mv (e 4)) fun t35 =>
  .op (.mv (e 5)) fun t36 =>
  .op (.call 36 [t32, t33, t34, t35, t36]) fun t37 =>
  .op (.mv t37) fun t31 =>
  .op (.extract t31 0) fun t38 =>
  c35_r3_c1 e t31 t38) h Q := Iff.rfl
def c35_r4 : Env → Reg := fun e =>
  .op (.mv (e 2)) fun t40 =>
  .op (.mv t40) fun t12 =>
  .done (e.upd 12 t12)
theorem c35_r4_run {CP : CProg} (e : Env) (h : Heap) (Q : Post) : RunR CP (c35_r4 e) h Q ↔ RunR CP (
  .op (.mv (e 2)) fun t40 =>
  .op (.mv t40) fun t12 =>
  .done (e.upd 12 t12)) h Q := Iff.rfl
def c35 : CFn := ⟨(.seq (.region c35_r0) (.seq (.region c35_r1) (.seq (.region c35_r2) (.seq (.region c35_r3) (.seq (.region c35_r4) .ret))))), [.t 12]⟩
def p35 : Pers := ⟨13, [], 41⟩
-- 36: slices.order2CmpFunc[weighbridge/audit.Who]
def c36_r0 : Env → Reg := fun e =>
  .op (.mv (.int .i64 0)) fun t10 =>
  .op (.mv (.int .i64 0)) fun t11 =>
  .done ((e.upd 10 t10).upd 11 t11)
theorem c36_r0_run {CP : CProg} (e : Env) (h : Heap) (Q : Post) : RunR CP (c36_r0 e) h Q ↔ RunR CP (
  .op (.mv (.int .i64 0)) fun t10 =>
  .op (.mv (.int .i64 0)) fun t11 =>
  .done ((e.upd 10 t10).upd 11 t11)) h Q := Iff.rfl
def c36_r1_c1 (e : Env) (t12 : Value) (t16 : Value) (t19 : Value) : Reg :=
  .op (.load (some 2) t19) fun t20 =>
  .snap fun h9 =>
  .op (.callv t12 [t16, t20]) fun t21 =>
  .op (.bin .lss t21 (.int .i64 0)) fun t22 =>
  .done (e.upd 22 t22)
theorem c36_r1_c1_run {CP : CProg} (e : Env) (t12 : Value) (t16 : Value) (t19 : Value) (h : Heap) (Q : Post) : RunR CP (c36_r1_c1 e t12 t16 t19) h Q ↔ RunR CP (
  .op (.load (some 2) t19) fun t20 =>
  .snap fun h9 =>
  .op (.callv t12 [t16, t20]) fun t21 =>
  .op (.bin .lss t21 (.int .i64 0)) fun t22 =>
  .done (e.upd 22 t22)) h Q := Iff.rfl
def c36_r1 : Env → Reg := fun e =>
  .op (.mv (e 4)) fun t12 =>
  .op (.mv (e 0)) fun t13 =>
  .op (.mv (e 2)) fun t14 =>
  .op (.indexSl 2 t13 t14) fun t15 =>
  .op (.load (some 2) t15) fun t16 =>
  .op (.mv (e 0)) fun t17 =>
  .op (.mv (e 1)) fun t18 =>
  .op (.indexSl 2 t17 t18) fun t19 =>
  c36_r1_c1 e t12 t16 t19
theorem c36_r1_run {CP : CProg} (e : Env) (h : Heap) (Q : Post) : RunR CP (c36_r1 e) h Q ↔ RunR CP (
  .op (.mv (e 4)) fun t12 =>
  .op (.mv (e 0)) fun t13 =>
  .op (.mv (e 2)) fun t14 =>
  .op (.indexSl 2 t13 t14) fun t15 =>
  .op (.load (some 2) t15) fun t16 =>
  .op (.mv (e 0)) fun t17 =>
  .op (.mv (e 1)) fun t18 =>
  .op (.indexSl 2 t17 t18) fun t19 =>
  c36_r1_c1 e t12 t16 t19) h Q := Iff.rfl
def c36_r2 : Env → Reg := fun e =>
  .op (.mv (e 3)) fun t23 =>
  .op (.nilCheck t23) fun t24 =>
  .op (.load none t24) fun t25 =>
  .op (.bin .add t25 (.int .i64 1)) fun t26 =>
  .op (.nilCheck t23) fun t27 =>
  .op (.store 1 t27 t26) fun _ =>
  .done e
theorem c36_r2_run {CP : CProg} (e : Env) (h : Heap) (Q : Post) : RunR CP (c36_r2 e) h Q ↔ RunR CP (
  .op (.mv (e 3)) fun t23 =>
  .op (.nilCheck t23) fun t24 =>
  .op (.load none t24) fun t25 =>
  .op (.bin .add t25 (.int .i64 1)) fun t26 =>
  .op (.nilCheck t23) fun t27 =>
  .op (.store 1 t27 t26) fun _ =>
  .done e) h Q := Iff.rfl
def c36_r3 : Env → Reg := fun e =>
  .op (.mv (e 2)) fun t28 =>
  .op (.mv (e 1)) fun t29 =>
  .op (.mv t28) fun t10 =>
  .op (.mv t29) fun t11 =>
  .done ((e.upd 10 t10).upd 11 t11)
theorem c36_r3_run {CP : CProg} (e : Env) (h : Heap) (Q : Post) : RunR CP (c36_r3 e) h Q ↔ RunR CP (
  .op (.mv (e 2)) fun t28 =>
  .op (.mv (e 1)) fun t29 =>
  .op (.mv t28) fun t10 =>
  .op (.mv t29) fun t11 =>
  .done ((e.upd 10 t10).upd 11 t11)) h Q := Iff.rfl
def c36_r4 : Env → Reg := fun e =>
  .op (.mv (e 1)) fun t30 =>
  .op (.mv (e 2)) fun t31 =>
  .op (.mv t30) fun t10 =>
  .op (.mv t31) fun t11 =>
  .done ((e.upd 10 t10).upd 11 t11)
theorem c36_r4_run {CP : CProg} (e : Env) (h : Heap) (Q : Post) : RunR CP (c36_r4 e) h Q ↔ RunR CP (
  .op (.mv (e 1)) fun t30 =>
  .op (.mv (e 2)) fun t31 =>
  .op (.mv t30) fun t10 =>
  .op (.mv t31) fun t11 =>
  .done ((e.upd 10 t10).upd 11 t11)) h Q := Iff.rfl
def c36 : CFn := ⟨(.seq (.region c36_r0) (.seq (.seq (.region c36_r1) (.cond (fun e => e 22) (.seq (.region c36_r2) (.seq (.region c36_r3) .ret)) .skip)) (.seq (.region c36_r4) .ret))), [.t 10, .t 11]⟩
def p36 : Pers := ⟨12, [22], 32⟩
def cp : CProg
  | 3 => some c3
  | 4 => some c4
  | 5 => some c5
  | 6 => some c6
  | 7 => some c7
  | 8 => some c8
  | 9 => some c9
  | 10 => some c10
  | 11 => some c11
  | 12 => some c12
  | 13 => some c13
  | 14 => some c14
  | 15 => some c15
  | 16 => some c16
  | 17 => some c17
  | 18 => some c18
  | 19 => some c19
  | 20 => some c20
  | 21 => some c21
  | 22 => some c22
  | 23 => some c23
  | 24 => some c24
  | 25 => some c25
  | 26 => some c26
  | 27 => some c27
  | 28 => some c28
  | 29 => some c29
  | 30 => some c30
  | 31 => some c31
  | 32 => some c32
  | 33 => some c33
  | 34 => some c34
  | 35 => some c35
  | 36 => some c36
  | _ => none
theorem cp3 : cp 3 = some c3 := rfl
theorem cp4 : cp 4 = some c4 := rfl
theorem cp5 : cp 5 = some c5 := rfl
theorem cp6 : cp 6 = some c6 := rfl
theorem cp7 : cp 7 = some c7 := rfl
theorem cp8 : cp 8 = some c8 := rfl
theorem cp9 : cp 9 = some c9 := rfl
theorem cp10 : cp 10 = some c10 := rfl
theorem cp11 : cp 11 = some c11 := rfl
theorem cp12 : cp 12 = some c12 := rfl
theorem cp13 : cp 13 = some c13 := rfl
theorem cp14 : cp 14 = some c14 := rfl
theorem cp15 : cp 15 = some c15 := rfl
theorem cp16 : cp 16 = some c16 := rfl
theorem cp17 : cp 17 = some c17 := rfl
theorem cp18 : cp 18 = some c18 := rfl
theorem cp19 : cp 19 = some c19 := rfl
theorem cp20 : cp 20 = some c20 := rfl
theorem cp21 : cp 21 = some c21 := rfl
theorem cp22 : cp 22 = some c22 := rfl
theorem cp23 : cp 23 = some c23 := rfl
theorem cp24 : cp 24 = some c24 := rfl
theorem cp25 : cp 25 = some c25 := rfl
theorem cp26 : cp 26 = some c26 := rfl
theorem cp27 : cp 27 = some c27 := rfl
theorem cp28 : cp 28 = some c28 := rfl
theorem cp29 : cp 29 = some c29 := rfl
theorem cp30 : cp 30 = some c30 := rfl
theorem cp31 : cp 31 = some c31 := rfl
theorem cp32 : cp 32 = some c32 := rfl
theorem cp33 : cp 33 = some c33 := rfl
theorem cp34 : cp 34 = some c34 := rfl
theorem cp35 : cp 35 = some c35 := rfl
theorem cp36 : cp 36 = some c36 := rfl
end Go.Proofs.Ytekojjilbchkgaa.Can
