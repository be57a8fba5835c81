/- The canonical code of functions of the program, written by a program of this session (wip/can/res.py). No condition. -/
import Derived.Test.YtgmhgpcfkkfolaaCanWp
namespace Go.Proofs.Ytgmhgpcfkkfolaa.Can
open Go
set_option linter.unusedVariables false
-- 3: weighbridge/weighbridgelaw17.ConfigUnits
def c3_r0 : Env → Reg := fun e =>
  .op (.mv (.bool false)) fun t6 =>
  .done (e.upd 6 t6)
theorem c3_r0_run {CP : CProg} (e : Env) (h : Heap) (Q : Post) : RunR CP (c3_r0 e) h Q ↔ RunR CP (
  .op (.mv (.bool false)) fun t6 =>
  .done (e.upd 6 t6)) h Q := Iff.rfl
def c3_r1 : Env → Reg := fun e =>
  .op (.call 9 []) fun t9 =>
  .op (.un .not t9) fun t10 =>
  .done (e.upd 10 t10)
theorem c3_r1_run {CP : CProg} (e : Env) (h : Heap) (Q : Post) : RunR CP (c3_r1 e) h Q ↔ RunR CP (
  .op (.call 9 []) fun t9 =>
  .op (.un .not t9) fun t10 =>
  .done (e.upd 10 t10)) h Q := Iff.rfl
def c3_r2 : Env → Reg := fun e =>
  .op (.mv (.bool false)) fun t6 =>
  .done (e.upd 6 t6)
theorem c3_r2_run {CP : CProg} (e : Env) (h : Heap) (Q : Post) : RunR CP (c3_r2 e) h Q ↔ RunR CP (
  .op (.mv (.bool false)) fun t6 =>
  .done (e.upd 6 t6)) h Q := Iff.rfl
def c3_r3 : Env → Reg := fun e =>
  .op (.mv (e 0)) fun t11 =>
  .op (.bin .and t11 (.int .i64 2147483647)) fun t12 =>
  .op (.bin .add t12 (.int .i64 1)) fun t13 =>
  .op (.mv (e 1)) fun t14 =>
  .op (.bin .and t14 (.int .i64 1099511627775)) fun t15 =>
  .op (.bin .add t15 (.int .i64 1)) fun t16 =>
  .op (.build [(.int .i64 0), (.int .i64 0), (.int .i64 0), (.int .i64 0), (.int .i64 0), (.int .i64 0), (.int .i64 0), (.int .i64 0), (.bool false)] [(0, 1, t13), (1, 1, t16), (3, 1, (.int .i64 1)), (4, 1, (.int .i64 1)), (5, 1, (.int .i64 1)), (6, 1, (.int .i64 1)), (7, 1, (.int .i64 1))]) fun t17 =>
  .op (.alloc 24 [(.int .i64 0), (.int .i64 0), (.int .i64 0), (.int .i64 0), (.int .i64 0), (.int .i64 0), (.int .i64 0), (.int .i64 0), (.bool false)]) fun t7 =>
  .op (.store 9 t7 t17) fun _ =>
  .done (e.upd 7 t7)
theorem c3_r3_run {CP : CProg} (e : Env) (h : Heap) (Q : Post) : RunR CP (c3_r3 e) h Q ↔ RunR CP (
  .op (.mv (e 0)) fun t11 =>
  .op (.bin .and t11 (.int .i64 2147483647)) fun t12 =>
  .op (.bin .add t12 (.int .i64 1)) fun t13 =>
  .op (.mv (e 1)) fun t14 =>
  .op (.bin .and t14 (.int .i64 1099511627775)) fun t15 =>
  .op (.bin .add t15 (.int .i64 1)) fun t16 =>
  .op (.build [(.int .i64 0), (.int .i64 0), (.int .i64 0), (.int .i64 0), (.int .i64 0), (.int .i64 0), (.int .i64 0), (.int .i64 0), (.bool false)] [(0, 1, t13), (1, 1, t16), (3, 1, (.int .i64 1)), (4, 1, (.int .i64 1)), (5, 1, (.int .i64 1)), (6, 1, (.int .i64 1)), (7, 1, (.int .i64 1))]) fun t17 =>
  .op (.alloc 24 [(.int .i64 0), (.int .i64 0), (.int .i64 0), (.int .i64 0), (.int .i64 0), (.int .i64 0), (.int .i64 0), (.int .i64 0), (.bool false)]) fun t7 =>
  .op (.store 9 t7 t17) fun _ =>
  .done (e.upd 7 t7)) h Q := Iff.rfl
def c3_r4 : Env → Reg := fun e =>
  .op (.mv (e 2)) fun t18 =>
  .op (.bin .and t18 (.int .i64 2147483647)) fun t19 =>
  .op (.fieldAddr 0 (e 7)) fun t20 =>
  .op (.load none t20) fun t21 =>
  .op (.bin .rem t19 t21) fun t22 =>
  .op (.bin .add t22 (.int .i64 1)) fun t23 =>
  .op (.fieldAddr 2 (e 7)) fun t24 =>
  .op (.store 1 t24 t23) fun _ =>
  .done e
theorem c3_r4_run {CP : CProg} (e : Env) (h : Heap) (Q : Post) : RunR CP (c3_r4 e) h Q ↔ RunR CP (
  .op (.mv (e 2)) fun t18 =>
  .op (.bin .and t18 (.int .i64 2147483647)) fun t19 =>
  .op (.fieldAddr 0 (e 7)) fun t20 =>
  .op (.load none t20) fun t21 =>
  .op (.bin .rem t19 t21) fun t22 =>
  .op (.bin .add t22 (.int .i64 1)) fun t23 =>
  .op (.fieldAddr 2 (e 7)) fun t24 =>
  .op (.store 1 t24 t23) fun _ =>
  .done e) h Q := Iff.rfl
def c3_r5 : Env → Reg := fun e =>
  .op (.load (some 9) (e 7)) fun t25 =>
  .op (.call 10 [t25]) fun t26 =>
  .op (.mv t26) fun t8 =>
  .done (e.upd 8 t8)
theorem c3_r5_run {CP : CProg} (e : Env) (h : Heap) (Q : Post) : RunR CP (c3_r5 e) h Q ↔ RunR CP (
  .op (.load (some 9) (e 7)) fun t25 =>
  .op (.call 10 [t25]) fun t26 =>
  .op (.mv t26) fun t8 =>
  .done (e.upd 8 t8)) h Q := Iff.rfl
def c3_r6 : Env → Reg := fun e =>
  .op (.load (some 9) (e 7)) fun t27 =>
  .snap fun h1 =>
  .op (.call 11 [t27]) fun t28 =>
  .op (.mv (e 8)) fun t29 =>
  .op (.fieldAddr 2 (e 7)) fun t30 =>
  .op (.load none t30) fun t31 =>
  .chk none (some h1) (.load none t30) t31 <|
  .op (.bin .quo (.int .i64 1152921504606846976) t31) fun t32 =>
  .op (.bin .leq t29 t32) fun t33 =>
  .op (.eqK .bool true t28 t33) fun t34 =>
  .done (e.upd 34 t34)
theorem c3_r6_run {CP : CProg} (e : Env) (h : Heap) (Q : Post) : RunR CP (c3_r6 e) h Q ↔ RunR CP (
  .op (.load (some 9) (e 7)) fun t27 =>
  .snap fun h1 =>
  .op (.call 11 [t27]) fun t28 =>
  .op (.mv (e 8)) fun t29 =>
  .op (.fieldAddr 2 (e 7)) fun t30 =>
  .op (.load none t30) fun t31 =>
  .chk none (some h1) (.load none t30) t31 <|
  .op (.bin .quo (.int .i64 1152921504606846976) t31) fun t32 =>
  .op (.bin .leq t29 t32) fun t33 =>
  .op (.eqK .bool true t28 t33) fun t34 =>
  .done (e.upd 34 t34)) h Q := Iff.rfl
def c3_r7 : Env → Reg := fun e =>
  .op (.mv (.bool false)) fun t6 =>
  .done (e.upd 6 t6)
theorem c3_r7_run {CP : CProg} (e : Env) (h : Heap) (Q : Post) : RunR CP (c3_r7 e) h Q ↔ RunR CP (
  .op (.mv (.bool false)) fun t6 =>
  .done (e.upd 6 t6)) h Q := Iff.rfl
def c3_r8 : Env → Reg := fun e =>
  .op (.fieldAddr 2 (e 7)) fun t35 =>
  .op (.store 1 t35 (.int .i64 1)) fun _ =>
  .done e
theorem c3_r8_run {CP : CProg} (e : Env) (h : Heap) (Q : Post) : RunR CP (c3_r8 e) h Q ↔ RunR CP (
  .op (.fieldAddr 2 (e 7)) fun t35 =>
  .op (.store 1 t35 (.int .i64 1)) fun _ =>
  .done e) h Q := Iff.rfl
def c3_r9 : Env → Reg := fun e =>
  .op (.load (some 9) (e 7)) fun t36 =>
  .op (.call 11 [t36]) fun t37 =>
  .op (.mv t37) fun t6 =>
  .done (e.upd 6 t6)
theorem c3_r9_run {CP : CProg} (e : Env) (h : Heap) (Q : Post) : RunR CP (c3_r9 e) h Q ↔ RunR CP (
  .op (.load (some 9) (e 7)) fun t36 =>
  .op (.call 11 [t36]) fun t37 =>
  .op (.mv t37) fun t6 =>
  .done (e.upd 6 t6)) h Q := Iff.rfl
def c3 : CFn := ⟨(.seq (.region c3_r0) (.seq (.seq (.region c3_r1) (.cond (fun e => e 10) (.seq (.region c3_r2) .ret) .skip)) (.seq (.region c3_r3) (.seq (.region c3_r4) (.seq (.region c3_r5) (.seq (.seq (.region c3_r6) (.cond (fun e => e 34) (.seq (.region c3_r7) .ret) .skip)) (.seq (.region c3_r8) (.seq (.region c3_r9) .ret)))))))), [.t 6]⟩
def p3 : Pers := ⟨9, [10, 34], 38⟩
-- 4: weighbridge/weighbridgelaw17.ConfigRules
def c4_r0 : Env → Reg := fun e =>
  .op (.box 24 (e 0)) fun t1 =>
  .op (.mv (.bool false)) fun t2 =>
  .done ((e.upd 1 t1).upd 2 t2)
theorem c4_r0_run {CP : CProg} (e : Env) (h : Heap) (Q : Post) : RunR CP (c4_r0 e) h Q ↔ RunR CP (
  .op (.box 24 (e 0)) fun t1 =>
  .op (.mv (.bool false)) fun t2 =>
  .done ((e.upd 1 t1).upd 2 t2)) h Q := Iff.rfl
def c4_r1 : Env → Reg := fun e =>
  .op (.call 9 []) fun t3 =>
  .op (.un .not t3) fun t4 =>
  .done (e.upd 4 t4)
theorem c4_r1_run {CP : CProg} (e : Env) (h : Heap) (Q : Post) : RunR CP (c4_r1 e) h Q ↔ RunR CP (
  .op (.call 9 []) fun t3 =>
  .op (.un .not t3) fun t4 =>
  .done (e.upd 4 t4)) h Q := Iff.rfl
def c4_r2 : Env → Reg := fun e =>
  .op (.mv (.bool false)) fun t2 =>
  .done (e.upd 2 t2)
theorem c4_r2_run {CP : CProg} (e : Env) (h : Heap) (Q : Post) : RunR CP (c4_r2 e) h Q ↔ RunR CP (
  .op (.mv (.bool false)) fun t2 =>
  .done (e.upd 2 t2)) h Q := Iff.rfl
def c4_r3 : Env → Reg := fun e =>
  .op (.load (some 9) (e 1)) fun t5 =>
  .snap fun h1 =>
  .op (.call 11 [t5]) fun t6 =>
  .op (.load (some 9) (e 1)) fun t7 =>
  .chk none (some h1) (.load (some 9) (e 1)) t7 <|
  .snap fun h3 =>
  .op (.call 12 [t7]) fun t8 =>
  .op (.eqK .bool true t6 t8) fun t9 =>
  .done (e.upd 9 t9)
theorem c4_r3_run {CP : CProg} (e : Env) (h : Heap) (Q : Post) : RunR CP (c4_r3 e) h Q ↔ RunR CP (
  .op (.load (some 9) (e 1)) fun t5 =>
  .snap fun h1 =>
  .op (.call 11 [t5]) fun t6 =>
  .op (.load (some 9) (e 1)) fun t7 =>
  .chk none (some h1) (.load (some 9) (e 1)) t7 <|
  .snap fun h3 =>
  .op (.call 12 [t7]) fun t8 =>
  .op (.eqK .bool true t6 t8) fun t9 =>
  .done (e.upd 9 t9)) h Q := Iff.rfl
def c4_r4 : Env → Reg := fun e =>
  .op (.mv (.bool false)) fun t2 =>
  .done (e.upd 2 t2)
theorem c4_r4_run {CP : CProg} (e : Env) (h : Heap) (Q : Post) : RunR CP (c4_r4 e) h Q ↔ RunR CP (
  .op (.mv (.bool false)) fun t2 =>
  .done (e.upd 2 t2)) h Q := Iff.rfl
def c4_r5_c1 (e : Env) (t13 : Value) (h5 : Heap) (t15 : Value) : Reg :=
  .opg t13 false (.load (some 9) (e 1)) fun t16 =>
  .chk (some (t13, false)) (some h5) (.load (some 9) (e 1)) t16 <|
  .snap fun h7 =>
  .opg t13 false (.call 14 [t16]) fun t17 =>
  .opg t13 false (.bin .eql t15 t17) fun t18 =>
  .op (.pick t13 (.bool true) t18) fun t19 =>
  .op (.mv t19) fun t2 =>
  .done (e.upd 2 t2)
theorem c4_r5_c1_run {CP : CProg} (e : Env) (t13 : Value) (h5 : Heap) (t15 : Value) (h : Heap) (Q : Post) : RunR CP (c4_r5_c1 e t13 h5 t15) h Q ↔ RunR CP (
  .opg t13 false (.load (some 9) (e 1)) fun t16 =>
  .chk (some (t13, false)) (some h5) (.load (some 9) (e 1)) t16 <|
  .snap fun h7 =>
  .opg t13 false (.call 14 [t16]) fun t17 =>
  .opg t13 false (.bin .eql t15 t17) fun t18 =>
  .op (.pick t13 (.bool true) t18) fun t19 =>
  .op (.mv t19) fun t2 =>
  .done (e.upd 2 t2)) h Q := Iff.rfl
def c4_r5 : Env → Reg := fun e =>
  .op (.load (some 9) (e 1)) fun t10 =>
  .snap fun h1 =>
  .op (.call 12 [t10]) fun t11 =>
  .op (.un .not t11) fun t12 =>
  .op (.mv t12) fun t13 =>
  .opg t13 false (.load (some 9) (e 1)) fun t14 =>
  .snap fun h5 =>
  .opg t13 false (.call 13 [t14]) fun t15 =>
  c4_r5_c1 e t13 h5 t15
theorem c4_r5_run {CP : CProg} (e : Env) (h : Heap) (Q : Post) : RunR CP (c4_r5 e) h Q ↔ RunR CP (
  .op (.load (some 9) (e 1)) fun t10 =>
  .snap fun h1 =>
  .op (.call 12 [t10]) fun t11 =>
  .op (.un .not t11) fun t12 =>
  .op (.mv t12) fun t13 =>
  .opg t13 false (.load (some 9) (e 1)) fun t14 =>
  .snap fun h5 =>
  .opg t13 false (.call 13 [t14]) fun t15 =>
  c4_r5_c1 e t13 h5 t15) h Q := Iff.rfl
def c4 : CFn := ⟨(.seq (.region c4_r0) (.seq (.seq (.region c4_r1) (.cond (fun e => e 4) (.seq (.region c4_r2) .ret) .skip)) (.seq (.seq (.region c4_r3) (.cond (fun e => e 9) (.seq (.region c4_r4) .ret) .skip)) (.seq (.region c4_r5) .ret)))), [.t 2]⟩
def p4 : Pers := ⟨3, [4, 9], 20⟩
-- 5: weighbridge/weighbridgelaw17.ConfigAnswers
def c5_r0 : Env → Reg := fun e =>
  .op (.box 30 (e 0)) fun t2 =>
  .op (.box 33 (e 1)) fun t3 =>
  .op (.mv (.bool false)) fun t4 =>
  .done (((e.upd 2 t2).upd 3 t3).upd 4 t4)
theorem c5_r0_run {CP : CProg} (e : Env) (h : Heap) (Q : Post) : RunR CP (c5_r0 e) h Q ↔ RunR CP (
  .op (.box 30 (e 0)) fun t2 =>
  .op (.box 33 (e 1)) fun t3 =>
  .op (.mv (.bool false)) fun t4 =>
  .done (((e.upd 2 t2).upd 3 t3).upd 4 t4)) h Q := Iff.rfl
def c5_r1 : Env → Reg := fun e =>
  .op (.call 9 []) fun t5 =>
  .op (.un .not t5) fun t6 =>
  .done (e.upd 6 t6)
theorem c5_r1_run {CP : CProg} (e : Env) (h : Heap) (Q : Post) : RunR CP (c5_r1 e) h Q ↔ RunR CP (
  .op (.call 9 []) fun t5 =>
  .op (.un .not t5) fun t6 =>
  .done (e.upd 6 t6)) h Q := Iff.rfl
def c5_r2 : Env → Reg := fun e =>
  .op (.mv (.bool false)) fun t4 =>
  .done (e.upd 4 t4)
theorem c5_r2_run {CP : CProg} (e : Env) (h : Heap) (Q : Post) : RunR CP (c5_r2 e) h Q ↔ RunR CP (
  .op (.mv (.bool false)) fun t4 =>
  .done (e.upd 4 t4)) h Q := Iff.rfl
def c5_r3_c2 (e : Env) (t22 : Value) : Reg :=
  .opg t22 false (.load (some 5) (e 3)) fun t23 =>
  .opg t22 false (.fieldAddr 3 (e 2)) fun t24 =>
  .opg t22 false (.load none t24) fun t25 =>
  .opg t22 false (.lenSl t25) fun t26 =>
  .opg t22 false (.call 16 [t23, t26]) fun t27 =>
  .opg t22 false (.un .not t27) fun t28 =>
  .op (.pick t22 (.bool true) t28) fun t29 =>
  .done (e.upd 29 t29)
theorem c5_r3_c2_run {CP : CProg} (e : Env) (t22 : Value) (h : Heap) (Q : Post) : RunR CP (c5_r3_c2 e t22) h Q ↔ RunR CP (
  .opg t22 false (.load (some 5) (e 3)) fun t23 =>
  .opg t22 false (.fieldAddr 3 (e 2)) fun t24 =>
  .opg t22 false (.load none t24) fun t25 =>
  .opg t22 false (.lenSl t25) fun t26 =>
  .opg t22 false (.call 16 [t23, t26]) fun t27 =>
  .opg t22 false (.un .not t27) fun t28 =>
  .op (.pick t22 (.bool true) t28) fun t29 =>
  .done (e.upd 29 t29)) h Q := Iff.rfl
def c5_r3_c1 (e : Env) (t11 : Value) (t14 : Value) : Reg :=
  .op (.pick t11 (.bool true) t14) fun t15 =>
  .op (.mv t15) fun t16 =>
  .opg t16 false (.fieldAddr 3 (e 3)) fun t17 =>
  .opg t16 false (.load none t17) fun t18 =>
  .opg t16 false (.lenStr t18) fun t19 =>
  .opg t16 false (.bin .gtr t19 (.int .i64 300)) fun t20 =>
  .op (.pick t16 (.bool true) t20) fun t21 =>
  .op (.mv t21) fun t22 =>
  c5_r3_c2 e t22
theorem c5_r3_c1_run {CP : CProg} (e : Env) (t11 : Value) (t14 : Value) (h : Heap) (Q : Post) : RunR CP (c5_r3_c1 e t11 t14) h Q ↔ RunR CP (
  .op (.pick t11 (.bool true) t14) fun t15 =>
  .op (.mv t15) fun t16 =>
  .opg t16 false (.fieldAddr 3 (e 3)) fun t17 =>
  .opg t16 false (.load none t17) fun t18 =>
  .opg t16 false (.lenStr t18) fun t19 =>
  .opg t16 false (.bin .gtr t19 (.int .i64 300)) fun t20 =>
  .op (.pick t16 (.bool true) t20) fun t21 =>
  .op (.mv t21) fun t22 =>
  c5_r3_c2 e t22) h Q := Iff.rfl
def c5_r3 : Env → Reg := fun e =>
  .op (.fieldAddr 3 (e 2)) fun t7 =>
  .op (.load none t7) fun t8 =>
  .op (.lenSl t8) fun t9 =>
  .op (.bin .gtr t9 (.int .i64 100)) fun t10 =>
  .op (.mv t10) fun t11 =>
  .opg t11 false (.load (some 4) (e 2)) fun t12 =>
  .opg t11 false (.call 15 [t12]) fun t13 =>
  .opg t11 false (.un .not t13) fun t14 =>
  c5_r3_c1 e t11 t14
theorem c5_r3_run {CP : CProg} (e : Env) (h : Heap) (Q : Post) : RunR CP (c5_r3 e) h Q ↔ RunR CP (
  .op (.fieldAddr 3 (e 2)) fun t7 =>
  .op (.load none t7) fun t8 =>
  .op (.lenSl t8) fun t9 =>
  .op (.bin .gtr t9 (.int .i64 100)) fun t10 =>
  .op (.mv t10) fun t11 =>
  .opg t11 false (.load (some 4) (e 2)) fun t12 =>
  .opg t11 false (.call 15 [t12]) fun t13 =>
  .opg t11 false (.un .not t13) fun t14 =>
  c5_r3_c1 e t11 t14) h Q := Iff.rfl
def c5_r4 : Env → Reg := fun e =>
  .op (.mv (.bool true)) fun t4 =>
  .done (e.upd 4 t4)
theorem c5_r4_run {CP : CProg} (e : Env) (h : Heap) (Q : Post) : RunR CP (c5_r4 e) h Q ↔ RunR CP (
  .op (.mv (.bool true)) fun t4 =>
  .done (e.upd 4 t4)) h Q := Iff.rfl
def c5_r5_c3 (e : Env) (t47 : Value) (t48 : Value) (h19 : Heap) : Reg :=
  .opg t47 true (.call 18 [t48]) fun t49 =>
  .opg t47 true (.fieldAddr 2 (e 2)) fun t50 =>
  .opg t47 true (.load none t50) fun t51 =>
  .chk (some (t47, true)) (some h19) (.load none t50) t51 <|
  .opg t47 true (.bin .leq t49 t51) fun t52 =>
  .op (.pick t47 t52 (.bool false)) fun t53 =>
  .op (.mv t53) fun t4 =>
  .done (e.upd 4 t4)
theorem c5_r5_c3_run {CP : CProg} (e : Env) (t47 : Value) (t48 : Value) (h19 : Heap) (h : Heap) (Q : Post) : RunR CP (c5_r5_c3 e t47 t48 h19) h Q ↔ RunR CP (
  .opg t47 true (.call 18 [t48]) fun t49 =>
  .opg t47 true (.fieldAddr 2 (e 2)) fun t50 =>
  .opg t47 true (.load none t50) fun t51 =>
  .chk (some (t47, true)) (some h19) (.load none t50) t51 <|
  .opg t47 true (.bin .leq t49 t51) fun t52 =>
  .op (.pick t47 t52 (.bool false)) fun t53 =>
  .op (.mv t53) fun t4 =>
  .done (e.upd 4 t4)) h Q := Iff.rfl
def c5_r5_c2 (e : Env) (t42 : Value) : Reg :=
  .opg t42 true (.load (some 4) (e 2)) fun t43 =>
  .snap fun h14 =>
  .opg t42 true (.call 18 [t43]) fun t44 =>
  .opg t42 true (.bin .leq (.int .i64 6) t44) fun t45 =>
  .op (.pick t42 t45 (.bool false)) fun t46 =>
  .op (.mv t46) fun t47 =>
  .opg t47 true (.load (some 4) (e 2)) fun t48 =>
  .snap fun h19 =>
  c5_r5_c3 e t47 t48 h19
theorem c5_r5_c2_run {CP : CProg} (e : Env) (t42 : Value) (h : Heap) (Q : Post) : RunR CP (c5_r5_c2 e t42) h Q ↔ RunR CP (
  .opg t42 true (.load (some 4) (e 2)) fun t43 =>
  .snap fun h14 =>
  .opg t42 true (.call 18 [t43]) fun t44 =>
  .opg t42 true (.bin .leq (.int .i64 6) t44) fun t45 =>
  .op (.pick t42 t45 (.bool false)) fun t46 =>
  .op (.mv t46) fun t47 =>
  .opg t47 true (.load (some 4) (e 2)) fun t48 =>
  .snap fun h19 =>
  c5_r5_c3 e t47 t48 h19) h Q := Iff.rfl
def c5_r5_c1 (e : Env) (t30 : Value) (t37 : Value) : Reg :=
  .snap fun h8 =>
  .op (.call 17 [t30, t37]) fun t38 =>
  .op (.load (some 4) (e 2)) fun t39 =>
  .chk none (some h8) (.load (some 4) (e 2)) t39 <|
  .snap fun h10 =>
  .op (.call 18 [t39]) fun t40 =>
  .op (.bin .leq t38 t40) fun t41 =>
  .op (.mv t41) fun t42 =>
  c5_r5_c2 e t42
theorem c5_r5_c1_run {CP : CProg} (e : Env) (t30 : Value) (t37 : Value) (h : Heap) (Q : Post) : RunR CP (c5_r5_c1 e t30 t37) h Q ↔ RunR CP (
  .snap fun h8 =>
  .op (.call 17 [t30, t37]) fun t38 =>
  .op (.load (some 4) (e 2)) fun t39 =>
  .chk none (some h8) (.load (some 4) (e 2)) t39 <|
  .snap fun h10 =>
  .op (.call 18 [t39]) fun t40 =>
  .op (.bin .leq t38 t40) fun t41 =>
  .op (.mv t41) fun t42 =>
  c5_r5_c2 e t42) h Q := Iff.rfl
def c5_r5 : Env → Reg := fun e =>
  .op (.load (some 5) (e 3)) fun t30 =>
  .op (.fieldAddr 3 (e 2)) fun t31 =>
  .op (.load none t31) fun t32 =>
  .op (.fieldAddr 1 (e 3)) fun t33 =>
  .op (.load none t33) fun t34 =>
  .op (.indexSl 9 t32 t34) fun t35 =>
  .op (.fieldAddr 7 t35) fun t36 =>
  .op (.load none t36) fun t37 =>
  c5_r5_c1 e t30 t37
theorem c5_r5_run {CP : CProg} (e : Env) (h : Heap) (Q : Post) : RunR CP (c5_r5 e) h Q ↔ RunR CP (
  .op (.load (some 5) (e 3)) fun t30 =>
  .op (.fieldAddr 3 (e 2)) fun t31 =>
  .op (.load none t31) fun t32 =>
  .op (.fieldAddr 1 (e 3)) fun t33 =>
  .op (.load none t33) fun t34 =>
  .op (.indexSl 9 t32 t34) fun t35 =>
  .op (.fieldAddr 7 t35) fun t36 =>
  .op (.load none t36) fun t37 =>
  c5_r5_c1 e t30 t37) h Q := Iff.rfl
def c5 : CFn := ⟨(.seq (.region c5_r0) (.seq (.seq (.region c5_r1) (.cond (fun e => e 6) (.seq (.region c5_r2) .ret) .skip)) (.seq (.seq (.region c5_r3) (.cond (fun e => e 29) (.seq (.region c5_r4) .ret) .skip)) (.seq (.region c5_r5) .ret)))), [.t 4]⟩
def p5 : Pers := ⟨5, [6, 29], 54⟩
-- 6: weighbridge/weighbridgelaw17.ConfigRight
def c6_r0 : Env → Reg := fun e =>
  .op (.box 30 (e 0)) fun t1 =>
  .op (.mv (.bool false)) fun t2 =>
  .done ((e.upd 1 t1).upd 2 t2)
theorem c6_r0_run {CP : CProg} (e : Env) (h : Heap) (Q : Post) : RunR CP (c6_r0 e) h Q ↔ RunR CP (
  .op (.box 30 (e 0)) fun t1 =>
  .op (.mv (.bool false)) fun t2 =>
  .done ((e.upd 1 t1).upd 2 t2)) h Q := Iff.rfl
def c6_r1 : Env → Reg := fun e =>
  .op (.call 9 []) fun t8 =>
  .op (.un .not t8) fun t9 =>
  .done (e.upd 9 t9)
theorem c6_r1_run {CP : CProg} (e : Env) (h : Heap) (Q : Post) : RunR CP (c6_r1 e) h Q ↔ RunR CP (
  .op (.call 9 []) fun t8 =>
  .op (.un .not t8) fun t9 =>
  .done (e.upd 9 t9)) h Q := Iff.rfl
def c6_r2 : Env → Reg := fun e =>
  .op (.mv (.bool false)) fun t2 =>
  .done (e.upd 2 t2)
theorem c6_r2_run {CP : CProg} (e : Env) (h : Heap) (Q : Post) : RunR CP (c6_r2 e) h Q ↔ RunR CP (
  .op (.mv (.bool false)) fun t2 =>
  .done (e.upd 2 t2)) h Q := Iff.rfl
def c6_r3 : Env → Reg := fun e =>
  .op (.fieldAddr 3 (e 1)) fun t10 =>
  .op (.load none t10) fun t11 =>
  .op (.lenSl t11) fun t12 =>
  .op (.bin .gtr t12 (.int .i64 100)) fun t13 =>
  .done (e.upd 13 t13)
theorem c6_r3_run {CP : CProg} (e : Env) (h : Heap) (Q : Post) : RunR CP (c6_r3 e) h Q ↔ RunR CP (
  .op (.fieldAddr 3 (e 1)) fun t10 =>
  .op (.load none t10) fun t11 =>
  .op (.lenSl t11) fun t12 =>
  .op (.bin .gtr t12 (.int .i64 100)) fun t13 =>
  .done (e.upd 13 t13)) h Q := Iff.rfl
def c6_r4 : Env → Reg := fun e =>
  .op (.mv (.bool true)) fun t2 =>
  .done (e.upd 2 t2)
theorem c6_r4_run {CP : CProg} (e : Env) (h : Heap) (Q : Post) : RunR CP (c6_r4 e) h Q ↔ RunR CP (
  .op (.mv (.bool true)) fun t2 =>
  .done (e.upd 2 t2)) h Q := Iff.rfl
def c6_r5 : Env → Reg := fun e =>
  .op (.load (some 4) (e 1)) fun t14 =>
  .snap fun h1 =>
  .op (.call 19 [t14]) fun t15 =>
  .op (.load (some 4) (e 1)) fun t16 =>
  .chk none (some h1) (.load (some 4) (e 1)) t16 <|
  .snap fun h3 =>
  .op (.call 15 [t16]) fun t17 =>
  .op (.eqK .bool true t15 t17) fun t18 =>
  .done (e.upd 18 t18)
theorem c6_r5_run {CP : CProg} (e : Env) (h : Heap) (Q : Post) : RunR CP (c6_r5 e) h Q ↔ RunR CP (
  .op (.load (some 4) (e 1)) fun t14 =>
  .snap fun h1 =>
  .op (.call 19 [t14]) fun t15 =>
  .op (.load (some 4) (e 1)) fun t16 =>
  .chk none (some h1) (.load (some 4) (e 1)) t16 <|
  .snap fun h3 =>
  .op (.call 15 [t16]) fun t17 =>
  .op (.eqK .bool true t15 t17) fun t18 =>
  .done (e.upd 18 t18)) h Q := Iff.rfl
def c6_r6 : Env → Reg := fun e =>
  .op (.mv (.bool false)) fun t2 =>
  .done (e.upd 2 t2)
theorem c6_r6_run {CP : CProg} (e : Env) (h : Heap) (Q : Post) : RunR CP (c6_r6 e) h Q ↔ RunR CP (
  .op (.mv (.bool false)) fun t2 =>
  .done (e.upd 2 t2)) h Q := Iff.rfl
def c6_r7 : Env → Reg := fun e =>
  .op (.load (some 4) (e 1)) fun t19 =>
  .op (.call 15 [t19]) fun t20 =>
  .op (.un .not t20) fun t21 =>
  .done (e.upd 21 t21)
theorem c6_r7_run {CP : CProg} (e : Env) (h : Heap) (Q : Post) : RunR CP (c6_r7 e) h Q ↔ RunR CP (
  .op (.load (some 4) (e 1)) fun t19 =>
  .op (.call 15 [t19]) fun t20 =>
  .op (.un .not t20) fun t21 =>
  .done (e.upd 21 t21)) h Q := Iff.rfl
def c6_r8 : Env → Reg := fun e =>
  .op (.mv (.bool true)) fun t2 =>
  .done (e.upd 2 t2)
theorem c6_r8_run {CP : CProg} (e : Env) (h : Heap) (Q : Post) : RunR CP (c6_r8 e) h Q ↔ RunR CP (
  .op (.mv (.bool true)) fun t2 =>
  .done (e.upd 2 t2)) h Q := Iff.rfl
def c6_r9 : Env → Reg := fun e =>
  .op (.mv (.int .i64 0)) fun t3 =>
  .done (e.upd 3 t3)
theorem c6_r9_run {CP : CProg} (e : Env) (h : Heap) (Q : Post) : RunR CP (c6_r9 e) h Q ↔ RunR CP (
  .op (.mv (.int .i64 0)) fun t3 =>
  .done (e.upd 3 t3)) h Q := Iff.rfl
def c6_r10 : Env → Reg := fun e =>
  .op (.fieldAddr 1 (e 1)) fun t22 =>
  .op (.load none t22) fun t23 =>
  .op (.fieldAddr 2 (e 1)) fun t24 =>
  .op (.load none t24) fun t25 =>
  .op (.bin .mul t23 t25) fun t26 =>
  .op (.mv t26) fun t4 =>
  .done (e.upd 4 t4)
theorem c6_r10_run {CP : CProg} (e : Env) (h : Heap) (Q : Post) : RunR CP (c6_r10 e) h Q ↔ RunR CP (
  .op (.fieldAddr 1 (e 1)) fun t22 =>
  .op (.load none t22) fun t23 =>
  .op (.fieldAddr 2 (e 1)) fun t24 =>
  .op (.load none t24) fun t25 =>
  .op (.bin .mul t23 t25) fun t26 =>
  .op (.mv t26) fun t4 =>
  .done (e.upd 4 t4)) h Q := Iff.rfl
def c6_r11 : Env → Reg := fun e =>
  .op (.fieldAddr 3 (e 1)) fun t27 =>
  .op (.load none t27) fun t28 =>
  .op (.lenSl t28) fun t29 =>
  .op (.mv (.int .i64 0)) fun t30 =>
  .done (((e.upd 28 t28).upd 29 t29).upd 30 t30)
theorem c6_r11_run {CP : CProg} (e : Env) (h : Heap) (Q : Post) : RunR CP (c6_r11 e) h Q ↔ RunR CP (
  .op (.fieldAddr 3 (e 1)) fun t27 =>
  .op (.load none t27) fun t28 =>
  .op (.lenSl t28) fun t29 =>
  .op (.mv (.int .i64 0)) fun t30 =>
  .done (((e.upd 28 t28).upd 29 t29).upd 30 t30)) h Q := Iff.rfl
def c6_r12 : Env → Reg := fun e =>
  .op (.bin .lss (e 30) (e 29)) fun t31 =>
  .done (e.upd 31 t31)
theorem c6_r12_run {CP : CProg} (e : Env) (h : Heap) (Q : Post) : RunR CP (c6_r12 e) h Q ↔ RunR CP (
  .op (.bin .lss (e 30) (e 29)) fun t31 =>
  .done (e.upd 31 t31)) h Q := Iff.rfl
def c6_r13 : Env → Reg := fun e =>
  .op (.indexSl 9 (e 28) (e 30)) fun t32 =>
  .op (.load (some 9) t32) fun t33 =>
  .op (.alloc 24 [(.int .i64 0), (.int .i64 0), (.int .i64 0), (.int .i64 0), (.int .i64 0), (.int .i64 0), (.int .i64 0), (.int .i64 0), (.bool false)]) fun t6 =>
  .op (.store 9 t6 t33) fun _ =>
  .done (e.upd 6 t6)
theorem c6_r13_run {CP : CProg} (e : Env) (h : Heap) (Q : Post) : RunR CP (c6_r13 e) h Q ↔ RunR CP (
  .op (.indexSl 9 (e 28) (e 30)) fun t32 =>
  .op (.load (some 9) t32) fun t33 =>
  .op (.alloc 24 [(.int .i64 0), (.int .i64 0), (.int .i64 0), (.int .i64 0), (.int .i64 0), (.int .i64 0), (.int .i64 0), (.int .i64 0), (.bool false)]) fun t6 =>
  .op (.store 9 t6 t33) fun _ =>
  .done (e.upd 6 t6)) h Q := Iff.rfl
def c6_r14 : Env → Reg := fun e =>
  .op (.mv (e 3)) fun t34 =>
  .op (.fieldAddr 7 (e 6)) fun t35 =>
  .op (.load none t35) fun t36 =>
  .op (.bin .mul (.int .i64 81) t36) fun t37 =>
  .op (.bin .add (.int .i64 7) t37) fun t38 =>
  .op (.minmax true [t34, (.int .i64 46), t38]) fun t39 =>
  .op (.mv t39) fun t3 =>
  .done (e.upd 3 t3)
theorem c6_r14_run {CP : CProg} (e : Env) (h : Heap) (Q : Post) : RunR CP (c6_r14 e) h Q ↔ RunR CP (
  .op (.mv (e 3)) fun t34 =>
  .op (.fieldAddr 7 (e 6)) fun t35 =>
  .op (.load none t35) fun t36 =>
  .op (.bin .mul (.int .i64 81) t36) fun t37 =>
  .op (.bin .add (.int .i64 7) t37) fun t38 =>
  .op (.minmax true [t34, (.int .i64 46), t38]) fun t39 =>
  .op (.mv t39) fun t3 =>
  .done (e.upd 3 t3)) h Q := Iff.rfl
def c6_r15 : Env → Reg := fun e =>
  .op (.mv (e 4)) fun t40 =>
  .op (.load (some 9) (e 6)) fun t41 =>
  .op (.call 14 [t41]) fun t42 =>
  .op (.bin .add t40 t42) fun t43 =>
  .op (.mv t43) fun t4 =>
  .done (e.upd 4 t4)
theorem c6_r15_run {CP : CProg} (e : Env) (h : Heap) (Q : Post) : RunR CP (c6_r15 e) h Q ↔ RunR CP (
  .op (.mv (e 4)) fun t40 =>
  .op (.load (some 9) (e 6)) fun t41 =>
  .op (.call 14 [t41]) fun t42 =>
  .op (.bin .add t40 t42) fun t43 =>
  .op (.mv t43) fun t4 =>
  .done (e.upd 4 t4)) h Q := Iff.rfl
def c6_r16 : Env → Reg := fun e =>
  .op (.bin .add (e 30) (.int .i64 1)) fun t44 =>
  .op (.mv t44) fun t30 =>
  .done (e.upd 30 t30)
theorem c6_r16_run {CP : CProg} (e : Env) (h : Heap) (Q : Post) : RunR CP (c6_r16 e) h Q ↔ RunR CP (
  .op (.bin .add (e 30) (.int .i64 1)) fun t44 =>
  .op (.mv t44) fun t30 =>
  .done (e.upd 30 t30)) h Q := Iff.rfl
def c6_l0 : CC := (.seq (.region c6_r12) (.seq (.cond (fun e => e 31) .skip (.exit 0)) (.seq (.block 1 (.seq (.region c6_r13) (.seq (.region c6_r14) (.region c6_r15)))) (.region c6_r16))))
def c6_r17 : Env → Reg := fun e =>
  .op (.load (some 4) (e 1)) fun t45 =>
  .op (.call 18 [t45]) fun t46 =>
  .op (.mv (e 3)) fun t47 =>
  .op (.bin .neq t46 t47) fun t48 =>
  .op (.mv t48) fun t49 =>
  .opg t49 false (.load (some 4) (e 1)) fun t50 =>
  .opg t49 false (.call 20 [t50]) fun t51 =>
  .opg t49 false (.mv (e 4)) fun t52 =>
  .opg t49 false (.bin .neq t51 t52) fun t53 =>
  .op (.pick t49 (.bool true) t53) fun t54 =>
  .done (e.upd 54 t54)
theorem c6_r17_run {CP : CProg} (e : Env) (h : Heap) (Q : Post) : RunR CP (c6_r17 e) h Q ↔ RunR CP (
  .op (.load (some 4) (e 1)) fun t45 =>
  .op (.call 18 [t45]) fun t46 =>
  .op (.mv (e 3)) fun t47 =>
  .op (.bin .neq t46 t47) fun t48 =>
  .op (.mv t48) fun t49 =>
  .opg t49 false (.load (some 4) (e 1)) fun t50 =>
  .opg t49 false (.call 20 [t50]) fun t51 =>
  .opg t49 false (.mv (e 4)) fun t52 =>
  .opg t49 false (.bin .neq t51 t52) fun t53 =>
  .op (.pick t49 (.bool true) t53) fun t54 =>
  .done (e.upd 54 t54)) h Q := Iff.rfl
def c6_r18 : Env → Reg := fun e =>
  .op (.mv (.bool false)) fun t2 =>
  .done (e.upd 2 t2)
theorem c6_r18_run {CP : CProg} (e : Env) (h : Heap) (Q : Post) : RunR CP (c6_r18 e) h Q ↔ RunR CP (
  .op (.mv (.bool false)) fun t2 =>
  .done (e.upd 2 t2)) h Q := Iff.rfl
def c6_r19 : Env → Reg := fun e =>
  .op (.mv (e 4)) fun t55 =>
  .op (.fieldAddr 0 (e 1)) fun t56 =>
  .op (.store 1 t56 t55) fun _ =>
  .done e
theorem c6_r19_run {CP : CProg} (e : Env) (h : Heap) (Q : Post) : RunR CP (c6_r19 e) h Q ↔ RunR CP (
  .op (.mv (e 4)) fun t55 =>
  .op (.fieldAddr 0 (e 1)) fun t56 =>
  .op (.store 1 t56 t55) fun _ =>
  .done e) h Q := Iff.rfl
def c6_r20 : Env → Reg := fun e =>
  .op (.load (some 4) (e 1)) fun t57 =>
  .op (.alloc 30 [(.int .i64 0), (.int .i64 0), (.int .i64 0), (.slice none 0 0)]) fun t7 =>
  .op (.store 4 t7 t57) fun _ =>
  .done (e.upd 7 t7)
theorem c6_r20_run {CP : CProg} (e : Env) (h : Heap) (Q : Post) : RunR CP (c6_r20 e) h Q ↔ RunR CP (
  .op (.load (some 4) (e 1)) fun t57 =>
  .op (.alloc 30 [(.int .i64 0), (.int .i64 0), (.int .i64 0), (.slice none 0 0)]) fun t7 =>
  .op (.store 4 t7 t57) fun _ =>
  .done (e.upd 7 t7)) h Q := Iff.rfl
def c6_r21 : Env → Reg := fun e =>
  .op (.fieldAddr 0 (e 7)) fun t58 =>
  .op (.load none t58) fun t59 =>
  .op (.bin .sub t59 (.int .i64 1)) fun t60 =>
  .op (.fieldAddr 0 (e 7)) fun t61 =>
  .op (.store 1 t61 t60) fun _ =>
  .done e
theorem c6_r21_run {CP : CProg} (e : Env) (h : Heap) (Q : Post) : RunR CP (c6_r21 e) h Q ↔ RunR CP (
  .op (.fieldAddr 0 (e 7)) fun t58 =>
  .op (.load none t58) fun t59 =>
  .op (.bin .sub t59 (.int .i64 1)) fun t60 =>
  .op (.fieldAddr 0 (e 7)) fun t61 =>
  .op (.store 1 t61 t60) fun _ =>
  .done e) h Q := Iff.rfl
def c6_r22 : Env → Reg := fun e =>
  .op (.load (some 4) (e 1)) fun t62 =>
  .op (.call 19 [t62]) fun t63 =>
  .op (.mv t63) fun t64 =>
  .opg t64 true (.load (some 4) (e 7)) fun t65 =>
  .opg t64 true (.call 19 [t65]) fun t66 =>
  .opg t64 true (.un .not t66) fun t67 =>
  .op (.pick t64 t67 (.bool false)) fun t68 =>
  .op (.mv t68) fun t2 =>
  .done (e.upd 2 t2)
theorem c6_r22_run {CP : CProg} (e : Env) (h : Heap) (Q : Post) : RunR CP (c6_r22 e) h Q ↔ RunR CP (
  .op (.load (some 4) (e 1)) fun t62 =>
  .op (.call 19 [t62]) fun t63 =>
  .op (.mv t63) fun t64 =>
  .opg t64 true (.load (some 4) (e 7)) fun t65 =>
  .opg t64 true (.call 19 [t65]) fun t66 =>
  .opg t64 true (.un .not t66) fun t67 =>
  .op (.pick t64 t67 (.bool false)) fun t68 =>
  .op (.mv t68) fun t2 =>
  .done (e.upd 2 t2)) h Q := Iff.rfl
def c6 : CFn := ⟨(.seq (.region c6_r0) (.seq (.seq (.region c6_r1) (.cond (fun e => e 9) (.seq (.region c6_r2) .ret) .skip)) (.seq (.seq (.region c6_r3) (.cond (fun e => e 13) (.seq (.region c6_r4) .ret) .skip)) (.seq (.seq (.region c6_r5) (.cond (fun e => e 18) (.seq (.region c6_r6) .ret) .skip)) (.seq (.seq (.region c6_r7) (.cond (fun e => e 21) (.seq (.region c6_r8) .ret) .skip)) (.seq (.region c6_r9) (.seq (.region c6_r10) (.seq (.seq (.region c6_r11) (.block 0 (.loop c6_l0))) (.seq (.seq (.region c6_r17) (.cond (fun e => e 54) (.seq (.region c6_r18) .ret) .skip)) (.seq (.region c6_r19) (.seq (.region c6_r20) (.seq (.region c6_r21) (.seq (.region c6_r22) .ret))))))))))))), [.t 2]⟩
def p6 : Pers := ⟨8, [9, 13, 18, 21, 28, 29, 30, 31, 54], 69⟩
-- 7: weighbridge/weighbridgelaw17.ConfigOrder
def c7_r0 : Env → Reg := fun e =>
  .op (.box 30 (e 0)) fun t1 =>
  .op (.mv (.bool false)) fun t2 =>
  .done ((e.upd 1 t1).upd 2 t2)
theorem c7_r0_run {CP : CProg} (e : Env) (h : Heap) (Q : Post) : RunR CP (c7_r0 e) h Q ↔ RunR CP (
  .op (.box 30 (e 0)) fun t1 =>
  .op (.mv (.bool false)) fun t2 =>
  .done ((e.upd 1 t1).upd 2 t2)) h Q := Iff.rfl
def c7_r1 : Env → Reg := fun e =>
  .op (.call 9 []) fun t5 =>
  .op (.un .not t5) fun t6 =>
  .done (e.upd 6 t6)
theorem c7_r1_run {CP : CProg} (e : Env) (h : Heap) (Q : Post) : RunR CP (c7_r1 e) h Q ↔ RunR CP (
  .op (.call 9 []) fun t5 =>
  .op (.un .not t5) fun t6 =>
  .done (e.upd 6 t6)) h Q := Iff.rfl
def c7_r2 : Env → Reg := fun e =>
  .op (.mv (.bool false)) fun t2 =>
  .done (e.upd 2 t2)
theorem c7_r2_run {CP : CProg} (e : Env) (h : Heap) (Q : Post) : RunR CP (c7_r2 e) h Q ↔ RunR CP (
  .op (.mv (.bool false)) fun t2 =>
  .done (e.upd 2 t2)) h Q := Iff.rfl
def c7_r3 : Env → Reg := fun e =>
  .op (.fieldAddr 3 (e 1)) fun t7 =>
  .op (.load none t7) fun t8 =>
  .op (.lenSl t8) fun t9 =>
  .op (.bin .gtr t9 (.int .i64 100)) fun t10 =>
  .done (e.upd 10 t10)
theorem c7_r3_run {CP : CProg} (e : Env) (h : Heap) (Q : Post) : RunR CP (c7_r3 e) h Q ↔ RunR CP (
  .op (.fieldAddr 3 (e 1)) fun t7 =>
  .op (.load none t7) fun t8 =>
  .op (.lenSl t8) fun t9 =>
  .op (.bin .gtr t9 (.int .i64 100)) fun t10 =>
  .done (e.upd 10 t10)) h Q := Iff.rfl
def c7_r4 : Env → Reg := fun e =>
  .op (.mv (.bool true)) fun t2 =>
  .done (e.upd 2 t2)
theorem c7_r4_run {CP : CProg} (e : Env) (h : Heap) (Q : Post) : RunR CP (c7_r4 e) h Q ↔ RunR CP (
  .op (.mv (.bool true)) fun t2 =>
  .done (e.upd 2 t2)) h Q := Iff.rfl
def c7_r5 : Env → Reg := fun e =>
  .op (.load (some 4) (e 1)) fun t11 =>
  .op (.alloc 30 [(.int .i64 0), (.int .i64 0), (.int .i64 0), (.slice none 0 0)]) fun t3 =>
  .op (.store 4 t3 t11) fun _ =>
  .done (e.upd 3 t3)
theorem c7_r5_run {CP : CProg} (e : Env) (h : Heap) (Q : Post) : RunR CP (c7_r5 e) h Q ↔ RunR CP (
  .op (.load (some 4) (e 1)) fun t11 =>
  .op (.alloc 30 [(.int .i64 0), (.int .i64 0), (.int .i64 0), (.slice none 0 0)]) fun t3 =>
  .op (.store 4 t3 t11) fun _ =>
  .done (e.upd 3 t3)) h Q := Iff.rfl
def c7_r6 : Env → Reg := fun e =>
  .op (.fieldAddr 3 (e 3)) fun t12 =>
  .op (.store 1 t12 (.slice none 0 0)) fun _ =>
  .done e
theorem c7_r6_run {CP : CProg} (e : Env) (h : Heap) (Q : Post) : RunR CP (c7_r6 e) h Q ↔ RunR CP (
  .op (.fieldAddr 3 (e 3)) fun t12 =>
  .op (.store 1 t12 (.slice none 0 0)) fun _ =>
  .done e) h Q := Iff.rfl
def c7_r7 : Env → Reg := fun e =>
  .op (.fieldAddr 3 (e 1)) fun t13 =>
  .op (.load none t13) fun t14 =>
  .op (.lenSl t14) fun t15 =>
  .op (.mv (.int .i64 0)) fun t16 =>
  .done ((e.upd 15 t15).upd 16 t16)
theorem c7_r7_run {CP : CProg} (e : Env) (h : Heap) (Q : Post) : RunR CP (c7_r7 e) h Q ↔ RunR CP (
  .op (.fieldAddr 3 (e 1)) fun t13 =>
  .op (.load none t13) fun t14 =>
  .op (.lenSl t14) fun t15 =>
  .op (.mv (.int .i64 0)) fun t16 =>
  .done ((e.upd 15 t15).upd 16 t16)) h Q := Iff.rfl
def c7_r8 : Env → Reg := fun e =>
  .op (.bin .lss (e 16) (e 15)) fun t17 =>
  .done (e.upd 17 t17)
theorem c7_r8_run {CP : CProg} (e : Env) (h : Heap) (Q : Post) : RunR CP (c7_r8 e) h Q ↔ RunR CP (
  .op (.bin .lss (e 16) (e 15)) fun t17 =>
  .done (e.upd 17 t17)) h Q := Iff.rfl
def c7_r9 : Env → Reg := fun e =>
  .op (.mv (e 16)) fun t18 =>
  .op (.mv t18) fun t4 =>
  .done (e.upd 4 t4)
theorem c7_r9_run {CP : CProg} (e : Env) (h : Heap) (Q : Post) : RunR CP (c7_r9 e) h Q ↔ RunR CP (
  .op (.mv (e 16)) fun t18 =>
  .op (.mv t18) fun t4 =>
  .done (e.upd 4 t4)) h Q := Iff.rfl
def c7_r10_c1 (e : Env) (t20 : Value) (t22 : Value) (t26 : Value) : Reg :=
  .op (.mv (e 4)) fun t27 =>
  .op (.bin .sub t26 t27) fun t28 =>
  .op (.indexSl 9 t22 t28) fun t29 =>
  .op (.load (some 9) t29) fun t30 =>
  .op (.buildSlice 24 1 [(.int .i64 0), (.int .i64 0), (.int .i64 0), (.int .i64 0), (.int .i64 0), (.int .i64 0), (.int .i64 0), (.int .i64 0), (.bool false)] [(0, 9, t30)]) fun t31 =>
  .snap fun h13 =>
  .op (.append 24 9 72 t20 t31) fun t32 =>
  .op (.fieldAddr 3 (e 3)) fun t33 =>
  .snap fun h15 =>
  .op (.store 1 t33 t32) fun _ =>
  .done e
theorem c7_r10_c1_run {CP : CProg} (e : Env) (t20 : Value) (t22 : Value) (t26 : Value) (h : Heap) (Q : Post) : RunR CP (c7_r10_c1 e t20 t22 t26) h Q ↔ RunR CP (
  .op (.mv (e 4)) fun t27 =>
  .op (.bin .sub t26 t27) fun t28 =>
  .op (.indexSl 9 t22 t28) fun t29 =>
  .op (.load (some 9) t29) fun t30 =>
  .op (.buildSlice 24 1 [(.int .i64 0), (.int .i64 0), (.int .i64 0), (.int .i64 0), (.int .i64 0), (.int .i64 0), (.int .i64 0), (.int .i64 0), (.bool false)] [(0, 9, t30)]) fun t31 =>
  .snap fun h13 =>
  .op (.append 24 9 72 t20 t31) fun t32 =>
  .op (.fieldAddr 3 (e 3)) fun t33 =>
  .snap fun h15 =>
  .op (.store 1 t33 t32) fun _ =>
  .done e) h Q := Iff.rfl
def c7_r10 : Env → Reg := fun e =>
  .op (.fieldAddr 3 (e 3)) fun t19 =>
  .op (.load none t19) fun t20 =>
  .op (.fieldAddr 3 (e 1)) fun t21 =>
  .op (.load none t21) fun t22 =>
  .op (.fieldAddr 3 (e 1)) fun t23 =>
  .op (.load none t23) fun t24 =>
  .op (.lenSl t24) fun t25 =>
  .op (.bin .sub t25 (.int .i64 1)) fun t26 =>
  c7_r10_c1 e t20 t22 t26
theorem c7_r10_run {CP : CProg} (e : Env) (h : Heap) (Q : Post) : RunR CP (c7_r10 e) h Q ↔ RunR CP (
  .op (.fieldAddr 3 (e 3)) fun t19 =>
  .op (.load none t19) fun t20 =>
  .op (.fieldAddr 3 (e 1)) fun t21 =>
  .op (.load none t21) fun t22 =>
  .op (.fieldAddr 3 (e 1)) fun t23 =>
  .op (.load none t23) fun t24 =>
  .op (.lenSl t24) fun t25 =>
  .op (.bin .sub t25 (.int .i64 1)) fun t26 =>
  c7_r10_c1 e t20 t22 t26) h Q := Iff.rfl
def c7_r11 : Env → Reg := fun e =>
  .op (.bin .add (e 16) (.int .i64 1)) fun t34 =>
  .op (.mv t34) fun t16 =>
  .done (e.upd 16 t16)
theorem c7_r11_run {CP : CProg} (e : Env) (h : Heap) (Q : Post) : RunR CP (c7_r11 e) h Q ↔ RunR CP (
  .op (.bin .add (e 16) (.int .i64 1)) fun t34 =>
  .op (.mv t34) fun t16 =>
  .done (e.upd 16 t16)) h Q := Iff.rfl
def c7_l0 : CC := (.seq (.region c7_r8) (.seq (.cond (fun e => e 17) .skip (.exit 0)) (.seq (.block 1 (.seq (.region c7_r9) (.region c7_r10))) (.region c7_r11))))
def c7_r12 : Env → Reg := fun e =>
  .op (.load (some 4) (e 1)) fun t35 =>
  .snap fun h1 =>
  .op (.call 19 [t35]) fun t36 =>
  .op (.load (some 4) (e 3)) fun t37 =>
  .chk none (some h1) (.load (some 4) (e 3)) t37 <|
  .snap fun h3 =>
  .op (.call 19 [t37]) fun t38 =>
  .op (.eqK .bool true t36 t38) fun t39 =>
  .done (e.upd 39 t39)
theorem c7_r12_run {CP : CProg} (e : Env) (h : Heap) (Q : Post) : RunR CP (c7_r12 e) h Q ↔ RunR CP (
  .op (.load (some 4) (e 1)) fun t35 =>
  .snap fun h1 =>
  .op (.call 19 [t35]) fun t36 =>
  .op (.load (some 4) (e 3)) fun t37 =>
  .chk none (some h1) (.load (some 4) (e 3)) t37 <|
  .snap fun h3 =>
  .op (.call 19 [t37]) fun t38 =>
  .op (.eqK .bool true t36 t38) fun t39 =>
  .done (e.upd 39 t39)) h Q := Iff.rfl
def c7_r13 : Env → Reg := fun e =>
  .op (.mv (.bool false)) fun t2 =>
  .done (e.upd 2 t2)
theorem c7_r13_run {CP : CProg} (e : Env) (h : Heap) (Q : Post) : RunR CP (c7_r13 e) h Q ↔ RunR CP (
  .op (.mv (.bool false)) fun t2 =>
  .done (e.upd 2 t2)) h Q := Iff.rfl
def c7_r14_c2 (e : Env) (t43 : Value) (t49 : Value) (t50 : Value) (h11 : Heap) : Reg :=
  .opg t49 true (.call 18 [t50]) fun t51 =>
  .opg t49 true (.load (some 4) (e 3)) fun t52 =>
  .chk (some (t49, true)) (some h11) (.load (some 4) (e 3)) t52 <|
  .snap fun h13 =>
  .opg t49 true (.call 18 [t52]) fun t53 =>
  .opg t49 true (.bin .eql t51 t53) fun t54 =>
  .opg t43 false (.pick t49 t54 (.bool false)) fun t55 =>
  .op (.pick t43 (.bool true) t55) fun t56 =>
  .op (.mv t56) fun t2 =>
  .done (e.upd 2 t2)
theorem c7_r14_c2_run {CP : CProg} (e : Env) (t43 : Value) (t49 : Value) (t50 : Value) (h11 : Heap) (h : Heap) (Q : Post) : RunR CP (c7_r14_c2 e t43 t49 t50 h11) h Q ↔ RunR CP (
  .opg t49 true (.call 18 [t50]) fun t51 =>
  .opg t49 true (.load (some 4) (e 3)) fun t52 =>
  .chk (some (t49, true)) (some h11) (.load (some 4) (e 3)) t52 <|
  .snap fun h13 =>
  .opg t49 true (.call 18 [t52]) fun t53 =>
  .opg t49 true (.bin .eql t51 t53) fun t54 =>
  .opg t43 false (.pick t49 t54 (.bool false)) fun t55 =>
  .op (.pick t43 (.bool true) t55) fun t56 =>
  .op (.mv t56) fun t2 =>
  .done (e.upd 2 t2)) h Q := Iff.rfl
def c7_r14_c1 (e : Env) (t43 : Value) (h5 : Heap) (t45 : Value) : Reg :=
  .opg t43 false (.load (some 4) (e 3)) fun t46 =>
  .chk (some (t43, false)) (some h5) (.load (some 4) (e 3)) t46 <|
  .snap fun h7 =>
  .opg t43 false (.call 20 [t46]) fun t47 =>
  .opg t43 false (.bin .eql t45 t47) fun t48 =>
  .opg t43 false (.mv t48) fun t49 =>
  .opg t49 true (.load (some 4) (e 1)) fun t50 =>
  .snap fun h11 =>
  c7_r14_c2 e t43 t49 t50 h11
theorem c7_r14_c1_run {CP : CProg} (e : Env) (t43 : Value) (h5 : Heap) (t45 : Value) (h : Heap) (Q : Post) : RunR CP (c7_r14_c1 e t43 h5 t45) h Q ↔ RunR CP (
  .opg t43 false (.load (some 4) (e 3)) fun t46 =>
  .chk (some (t43, false)) (some h5) (.load (some 4) (e 3)) t46 <|
  .snap fun h7 =>
  .opg t43 false (.call 20 [t46]) fun t47 =>
  .opg t43 false (.bin .eql t45 t47) fun t48 =>
  .opg t43 false (.mv t48) fun t49 =>
  .opg t49 true (.load (some 4) (e 1)) fun t50 =>
  .snap fun h11 =>
  c7_r14_c2 e t43 t49 t50 h11) h Q := Iff.rfl
def c7_r14 : Env → Reg := fun e =>
  .op (.load (some 4) (e 1)) fun t40 =>
  .snap fun h1 =>
  .op (.call 15 [t40]) fun t41 =>
  .op (.un .not t41) fun t42 =>
  .op (.mv t42) fun t43 =>
  .opg t43 false (.load (some 4) (e 1)) fun t44 =>
  .snap fun h5 =>
  .opg t43 false (.call 20 [t44]) fun t45 =>
  c7_r14_c1 e t43 h5 t45
theorem c7_r14_run {CP : CProg} (e : Env) (h : Heap) (Q : Post) : RunR CP (c7_r14 e) h Q ↔ RunR CP (
  .op (.load (some 4) (e 1)) fun t40 =>
  .snap fun h1 =>
  .op (.call 15 [t40]) fun t41 =>
  .op (.un .not t41) fun t42 =>
  .op (.mv t42) fun t43 =>
  .opg t43 false (.load (some 4) (e 1)) fun t44 =>
  .snap fun h5 =>
  .opg t43 false (.call 20 [t44]) fun t45 =>
  c7_r14_c1 e t43 h5 t45) h Q := Iff.rfl
def c7 : CFn := ⟨(.seq (.region c7_r0) (.seq (.seq (.region c7_r1) (.cond (fun e => e 6) (.seq (.region c7_r2) .ret) .skip)) (.seq (.seq (.region c7_r3) (.cond (fun e => e 10) (.seq (.region c7_r4) .ret) .skip)) (.seq (.region c7_r5) (.seq (.region c7_r6) (.seq (.seq (.region c7_r7) (.block 0 (.loop c7_l0))) (.seq (.seq (.region c7_r12) (.cond (fun e => e 39) (.seq (.region c7_r13) .ret) .skip)) (.seq (.region c7_r14) .ret)))))))), [.t 2]⟩
def p7 : Pers := ⟨5, [6, 10, 15, 16, 17, 39], 57⟩
-- 8: weighbridge/weighbridgelaw17.ConfigBack
def c8_r0 : Env → Reg := fun e =>
  .op (.box 30 (e 0)) fun t3 =>
  .op (.mv (.bool false)) fun t6 =>
  .done ((e.upd 3 t3).upd 6 t6)
theorem c8_r0_run {CP : CProg} (e : Env) (h : Heap) (Q : Post) : RunR CP (c8_r0 e) h Q ↔ RunR CP (
  .op (.box 30 (e 0)) fun t3 =>
  .op (.mv (.bool false)) fun t6 =>
  .done ((e.upd 3 t3).upd 6 t6)) h Q := Iff.rfl
def c8_r1 : Env → Reg := fun e =>
  .op (.call 9 []) fun t16 =>
  .op (.un .not t16) fun t17 =>
  .done (e.upd 17 t17)
theorem c8_r1_run {CP : CProg} (e : Env) (h : Heap) (Q : Post) : RunR CP (c8_r1 e) h Q ↔ RunR CP (
  .op (.call 9 []) fun t16 =>
  .op (.un .not t16) fun t17 =>
  .done (e.upd 17 t17)) h Q := Iff.rfl
def c8_r2 : Env → Reg := fun e =>
  .op (.mv (.bool false)) fun t6 =>
  .done (e.upd 6 t6)
theorem c8_r2_run {CP : CProg} (e : Env) (h : Heap) (Q : Post) : RunR CP (c8_r2 e) h Q ↔ RunR CP (
  .op (.mv (.bool false)) fun t6 =>
  .done (e.upd 6 t6)) h Q := Iff.rfl
def c8_r3 : Env → Reg := fun e =>
  .op (.fieldAddr 3 (e 3)) fun t18 =>
  .op (.load none t18) fun t19 =>
  .op (.lenSl t19) fun t20 =>
  .op (.bin .gtr t20 (.int .i64 100)) fun t21 =>
  .op (.mv t21) fun t22 =>
  .opg t22 false (.load (some 4) (e 3)) fun t23 =>
  .opg t22 false (.call 15 [t23]) fun t24 =>
  .opg t22 false (.un .not t24) fun t25 =>
  .op (.pick t22 (.bool true) t25) fun t26 =>
  .done (e.upd 26 t26)
theorem c8_r3_run {CP : CProg} (e : Env) (h : Heap) (Q : Post) : RunR CP (c8_r3 e) h Q ↔ RunR CP (
  .op (.fieldAddr 3 (e 3)) fun t18 =>
  .op (.load none t18) fun t19 =>
  .op (.lenSl t19) fun t20 =>
  .op (.bin .gtr t20 (.int .i64 100)) fun t21 =>
  .op (.mv t21) fun t22 =>
  .opg t22 false (.load (some 4) (e 3)) fun t23 =>
  .opg t22 false (.call 15 [t23]) fun t24 =>
  .opg t22 false (.un .not t24) fun t25 =>
  .op (.pick t22 (.bool true) t25) fun t26 =>
  .done (e.upd 26 t26)) h Q := Iff.rfl
def c8_r4 : Env → Reg := fun e =>
  .op (.mv (.bool true)) fun t6 =>
  .done (e.upd 6 t6)
theorem c8_r4_run {CP : CProg} (e : Env) (h : Heap) (Q : Post) : RunR CP (c8_r4 e) h Q ↔ RunR CP (
  .op (.mv (.bool true)) fun t6 =>
  .done (e.upd 6 t6)) h Q := Iff.rfl
def c8_r5 : Env → Reg := fun e =>
  .op (.load (some 4) (e 3)) fun t27 =>
  .op (.call 21 [t27]) fun t28 =>
  .op (.mv t28) fun t7 =>
  .done (e.upd 7 t7)
theorem c8_r5_run {CP : CProg} (e : Env) (h : Heap) (Q : Post) : RunR CP (c8_r5 e) h Q ↔ RunR CP (
  .op (.load (some 4) (e 3)) fun t27 =>
  .op (.call 21 [t27]) fun t28 =>
  .op (.mv t28) fun t7 =>
  .done (e.upd 7 t7)) h Q := Iff.rfl
def c8_r6 : Env → Reg := fun e =>
  .op (.mv (e 7)) fun t30 =>
  .op (.call 22 [t30]) fun t31 =>
  .op (.mv t31) fun t29 =>
  .op (.extract t29 0) fun t32 =>
  .op (.extract t29 1) fun t33 =>
  .op (.alloc 30 [(.int .i64 0), (.int .i64 0), (.int .i64 0), (.slice none 0 0)]) fun t8 =>
  .op (.store 4 t8 t32) fun _ =>
  .op (.mv t33) fun t9 =>
  .done ((e.upd 8 t8).upd 9 t9)
theorem c8_r6_run {CP : CProg} (e : Env) (h : Heap) (Q : Post) : RunR CP (c8_r6 e) h Q ↔ RunR CP (
  .op (.mv (e 7)) fun t30 =>
  .op (.call 22 [t30]) fun t31 =>
  .op (.mv t31) fun t29 =>
  .op (.extract t29 0) fun t32 =>
  .op (.extract t29 1) fun t33 =>
  .op (.alloc 30 [(.int .i64 0), (.int .i64 0), (.int .i64 0), (.slice none 0 0)]) fun t8 =>
  .op (.store 4 t8 t32) fun _ =>
  .op (.mv t33) fun t9 =>
  .done ((e.upd 8 t8).upd 9 t9)) h Q := Iff.rfl
def c8_r7_c6 (e : Env) (t77 : Value) (t79 : Value) : Reg :=
  .opg t77 false (.fieldAddr 2 (e 3)) fun t80 =>
  .opg t77 false (.load none t80) fun t81 =>
  .opg t77 false (.bin .neq t79 t81) fun t82 =>
  .op (.pick t77 (.bool true) t82) fun t83 =>
  .done (e.upd 83 t83)
theorem c8_r7_c6_run {CP : CProg} (e : Env) (t77 : Value) (t79 : Value) (h : Heap) (Q : Post) : RunR CP (c8_r7_c6 e t77 t79) h Q ↔ RunR CP (
  .opg t77 false (.fieldAddr 2 (e 3)) fun t80 =>
  .opg t77 false (.load none t80) fun t81 =>
  .opg t77 false (.bin .neq t79 t81) fun t82 =>
  .op (.pick t77 (.bool true) t82) fun t83 =>
  .done (e.upd 83 t83)) h Q := Iff.rfl
def c8_r7_c5 (e : Env) (t70 : Value) (t71 : Value) : Reg :=
  .opg t70 false (.load none t71) fun t72 =>
  .opg t70 false (.fieldAddr 1 (e 3)) fun t73 =>
  .opg t70 false (.load none t73) fun t74 =>
  .opg t70 false (.bin .neq t72 t74) fun t75 =>
  .op (.pick t70 (.bool true) t75) fun t76 =>
  .op (.mv t76) fun t77 =>
  .opg t77 false (.fieldAddr 2 (e 8)) fun t78 =>
  .opg t77 false (.load none t78) fun t79 =>
  c8_r7_c6 e t77 t79
theorem c8_r7_c5_run {CP : CProg} (e : Env) (t70 : Value) (t71 : Value) (h : Heap) (Q : Post) : RunR CP (c8_r7_c5 e t70 t71) h Q ↔ RunR CP (
  .opg t70 false (.load none t71) fun t72 =>
  .opg t70 false (.fieldAddr 1 (e 3)) fun t73 =>
  .opg t70 false (.load none t73) fun t74 =>
  .opg t70 false (.bin .neq t72 t74) fun t75 =>
  .op (.pick t70 (.bool true) t75) fun t76 =>
  .op (.mv t76) fun t77 =>
  .opg t77 false (.fieldAddr 2 (e 8)) fun t78 =>
  .opg t77 false (.load none t78) fun t79 =>
  c8_r7_c6 e t77 t79) h Q := Iff.rfl
def c8_r7_c4 (e : Env) (t63 : Value) : Reg :=
  .opg t63 false (.fieldAddr 0 (e 8)) fun t64 =>
  .opg t63 false (.load none t64) fun t65 =>
  .opg t63 false (.fieldAddr 0 (e 3)) fun t66 =>
  .opg t63 false (.load none t66) fun t67 =>
  .opg t63 false (.bin .neq t65 t67) fun t68 =>
  .op (.pick t63 (.bool true) t68) fun t69 =>
  .op (.mv t69) fun t70 =>
  .opg t70 false (.fieldAddr 1 (e 8)) fun t71 =>
  c8_r7_c5 e t70 t71
theorem c8_r7_c4_run {CP : CProg} (e : Env) (t63 : Value) (h : Heap) (Q : Post) : RunR CP (c8_r7_c4 e t63) h Q ↔ RunR CP (
  .opg t63 false (.fieldAddr 0 (e 8)) fun t64 =>
  .opg t63 false (.load none t64) fun t65 =>
  .opg t63 false (.fieldAddr 0 (e 3)) fun t66 =>
  .opg t63 false (.load none t66) fun t67 =>
  .opg t63 false (.bin .neq t65 t67) fun t68 =>
  .op (.pick t63 (.bool true) t68) fun t69 =>
  .op (.mv t69) fun t70 =>
  .opg t70 false (.fieldAddr 1 (e 8)) fun t71 =>
  c8_r7_c5 e t70 t71) h Q := Iff.rfl
def c8_r7_c3 (e : Env) (t54 : Value) (t55 : Value) : Reg :=
  .opg t54 false (.load none t55) fun t56 =>
  .opg t54 false (.lenSl t56) fun t57 =>
  .opg t54 false (.fieldAddr 3 (e 3)) fun t58 =>
  .opg t54 false (.load none t58) fun t59 =>
  .opg t54 false (.lenSl t59) fun t60 =>
  .opg t54 false (.bin .neq t57 t60) fun t61 =>
  .op (.pick t54 (.bool true) t61) fun t62 =>
  .op (.mv t62) fun t63 =>
  c8_r7_c4 e t63
theorem c8_r7_c3_run {CP : CProg} (e : Env) (t54 : Value) (t55 : Value) (h : Heap) (Q : Post) : RunR CP (c8_r7_c3 e t54 t55) h Q ↔ RunR CP (
  .opg t54 false (.load none t55) fun t56 =>
  .opg t54 false (.lenSl t56) fun t57 =>
  .opg t54 false (.fieldAddr 3 (e 3)) fun t58 =>
  .opg t54 false (.load none t58) fun t59 =>
  .opg t54 false (.lenSl t59) fun t60 =>
  .opg t54 false (.bin .neq t57 t60) fun t61 =>
  .op (.pick t54 (.bool true) t61) fun t62 =>
  .op (.mv t62) fun t63 =>
  c8_r7_c4 e t63) h Q := Iff.rfl
def c8_r7_c2 (e : Env) (t46 : Value) (h14 : Heap) (t48 : Value) : Reg :=
  .opg t46 false (.toStr t48) fun t49 =>
  .opg t46 false (.mv (e 7)) fun t50 =>
  .opg t46 false (.toStr t50) fun t51 =>
  .chk (some (t46, false)) (some h14) (.toStr t50) t51 <|
  .opg t46 false (.bin .neq t49 t51) fun t52 =>
  .op (.pick t46 (.bool true) t52) fun t53 =>
  .op (.mv t53) fun t54 =>
  .opg t54 false (.fieldAddr 3 (e 8)) fun t55 =>
  c8_r7_c3 e t54 t55
theorem c8_r7_c2_run {CP : CProg} (e : Env) (t46 : Value) (h14 : Heap) (t48 : Value) (h : Heap) (Q : Post) : RunR CP (c8_r7_c2 e t46 h14 t48) h Q ↔ RunR CP (
  .opg t46 false (.toStr t48) fun t49 =>
  .opg t46 false (.mv (e 7)) fun t50 =>
  .opg t46 false (.toStr t50) fun t51 =>
  .chk (some (t46, false)) (some h14) (.toStr t50) t51 <|
  .opg t46 false (.bin .neq t49 t51) fun t52 =>
  .op (.pick t46 (.bool true) t52) fun t53 =>
  .op (.mv t53) fun t54 =>
  .opg t54 false (.fieldAddr 3 (e 8)) fun t55 =>
  c8_r7_c3 e t54 t55) h Q := Iff.rfl
def c8_r7_c1 (e : Env) (t36 : Value) (t38 : Value) (t41 : Value) : Reg :=
  .opg t36 false (.bin .mul (.int .i64 72) t41) fun t42 =>
  .opg t36 false (.bin .add (.int .i64 32) t42) fun t43 =>
  .opg t36 false (.bin .neq t38 t43) fun t44 =>
  .op (.pick t36 (.bool true) t44) fun t45 =>
  .op (.mv t45) fun t46 =>
  .opg t46 false (.load (some 4) (e 8)) fun t47 =>
  .snap fun h14 =>
  .opg t46 false (.call 21 [t47]) fun t48 =>
  c8_r7_c2 e t46 h14 t48
theorem c8_r7_c1_run {CP : CProg} (e : Env) (t36 : Value) (t38 : Value) (t41 : Value) (h : Heap) (Q : Post) : RunR CP (c8_r7_c1 e t36 t38 t41) h Q ↔ RunR CP (
  .opg t36 false (.bin .mul (.int .i64 72) t41) fun t42 =>
  .opg t36 false (.bin .add (.int .i64 32) t42) fun t43 =>
  .opg t36 false (.bin .neq t38 t43) fun t44 =>
  .op (.pick t36 (.bool true) t44) fun t45 =>
  .op (.mv t45) fun t46 =>
  .opg t46 false (.load (some 4) (e 8)) fun t47 =>
  .snap fun h14 =>
  .opg t46 false (.call 21 [t47]) fun t48 =>
  c8_r7_c2 e t46 h14 t48) h Q := Iff.rfl
def c8_r7 : Env → Reg := fun e =>
  .op (.mv (e 9)) fun t34 =>
  .op (.bin .neq t34 (.int .i64 0)) fun t35 =>
  .op (.mv t35) fun t36 =>
  .opg t36 false (.mv (e 7)) fun t37 =>
  .opg t36 false (.lenSl t37) fun t38 =>
  .opg t36 false (.fieldAddr 3 (e 3)) fun t39 =>
  .opg t36 false (.load none t39) fun t40 =>
  .opg t36 false (.lenSl t40) fun t41 =>
  c8_r7_c1 e t36 t38 t41
theorem c8_r7_run {CP : CProg} (e : Env) (h : Heap) (Q : Post) : RunR CP (c8_r7 e) h Q ↔ RunR CP (
  .op (.mv (e 9)) fun t34 =>
  .op (.bin .neq t34 (.int .i64 0)) fun t35 =>
  .op (.mv t35) fun t36 =>
  .opg t36 false (.mv (e 7)) fun t37 =>
  .opg t36 false (.lenSl t37) fun t38 =>
  .opg t36 false (.fieldAddr 3 (e 3)) fun t39 =>
  .opg t36 false (.load none t39) fun t40 =>
  .opg t36 false (.lenSl t40) fun t41 =>
  c8_r7_c1 e t36 t38 t41) h Q := Iff.rfl
def c8_r8 : Env → Reg := fun e =>
  .op (.mv (.bool false)) fun t6 =>
  .done (e.upd 6 t6)
theorem c8_r8_run {CP : CProg} (e : Env) (h : Heap) (Q : Post) : RunR CP (c8_r8 e) h Q ↔ RunR CP (
  .op (.mv (.bool false)) fun t6 =>
  .done (e.upd 6 t6)) h Q := Iff.rfl
def c8_r9 : Env → Reg := fun e =>
  .op (.fieldAddr 3 (e 3)) fun t84 =>
  .op (.load none t84) fun t85 =>
  .op (.lenSl t85) fun t86 =>
  .op (.mv (.int .i64 0)) fun t87 =>
  .done ((e.upd 86 t86).upd 87 t87)
theorem c8_r9_run {CP : CProg} (e : Env) (h : Heap) (Q : Post) : RunR CP (c8_r9 e) h Q ↔ RunR CP (
  .op (.fieldAddr 3 (e 3)) fun t84 =>
  .op (.load none t84) fun t85 =>
  .op (.lenSl t85) fun t86 =>
  .op (.mv (.int .i64 0)) fun t87 =>
  .done ((e.upd 86 t86).upd 87 t87)) h Q := Iff.rfl
def c8_r10 : Env → Reg := fun e =>
  .op (.bin .lss (e 87) (e 86)) fun t88 =>
  .done (e.upd 88 t88)
theorem c8_r10_run {CP : CProg} (e : Env) (h : Heap) (Q : Post) : RunR CP (c8_r10 e) h Q ↔ RunR CP (
  .op (.bin .lss (e 87) (e 86)) fun t88 =>
  .done (e.upd 88 t88)) h Q := Iff.rfl
def c8_r11 : Env → Reg := fun e =>
  .op (.mv (e 87)) fun t89 =>
  .op (.mv t89) fun t10 =>
  .done (e.upd 10 t10)
theorem c8_r11_run {CP : CProg} (e : Env) (h : Heap) (Q : Post) : RunR CP (c8_r11 e) h Q ↔ RunR CP (
  .op (.mv (e 87)) fun t89 =>
  .op (.mv t89) fun t10 =>
  .done (e.upd 10 t10)) h Q := Iff.rfl
def c8_r12_c1 (e : Env) (t94 : Value) (t96 : Value) (t97 : Value) : Reg :=
  .op (.indexSl 9 t96 t97) fun t98 =>
  .op (.load (some 9) t98) fun t99 =>
  .op (.eqAgg true [.int, .int, .int, .int, .int, .int, .int, .int, .bool] t94 t99) fun t100 =>
  .done (e.upd 100 t100)
theorem c8_r12_c1_run {CP : CProg} (e : Env) (t94 : Value) (t96 : Value) (t97 : Value) (h : Heap) (Q : Post) : RunR CP (c8_r12_c1 e t94 t96 t97) h Q ↔ RunR CP (
  .op (.indexSl 9 t96 t97) fun t98 =>
  .op (.load (some 9) t98) fun t99 =>
  .op (.eqAgg true [.int, .int, .int, .int, .int, .int, .int, .int, .bool] t94 t99) fun t100 =>
  .done (e.upd 100 t100)) h Q := Iff.rfl
def c8_r12 : Env → Reg := fun e =>
  .op (.fieldAddr 3 (e 3)) fun t90 =>
  .op (.load none t90) fun t91 =>
  .op (.mv (e 10)) fun t92 =>
  .op (.indexSl 9 t91 t92) fun t93 =>
  .op (.load (some 9) t93) fun t94 =>
  .op (.fieldAddr 3 (e 8)) fun t95 =>
  .op (.load none t95) fun t96 =>
  .op (.mv (e 10)) fun t97 =>
  c8_r12_c1 e t94 t96 t97
theorem c8_r12_run {CP : CProg} (e : Env) (h : Heap) (Q : Post) : RunR CP (c8_r12 e) h Q ↔ RunR CP (
  .op (.fieldAddr 3 (e 3)) fun t90 =>
  .op (.load none t90) fun t91 =>
  .op (.mv (e 10)) fun t92 =>
  .op (.indexSl 9 t91 t92) fun t93 =>
  .op (.load (some 9) t93) fun t94 =>
  .op (.fieldAddr 3 (e 8)) fun t95 =>
  .op (.load none t95) fun t96 =>
  .op (.mv (e 10)) fun t97 =>
  c8_r12_c1 e t94 t96 t97) h Q := Iff.rfl
def c8_r13 : Env → Reg := fun e =>
  .op (.mv (.bool false)) fun t6 =>
  .done (e.upd 6 t6)
theorem c8_r13_run {CP : CProg} (e : Env) (h : Heap) (Q : Post) : RunR CP (c8_r13 e) h Q ↔ RunR CP (
  .op (.mv (.bool false)) fun t6 =>
  .done (e.upd 6 t6)) h Q := Iff.rfl
def c8_r14 : Env → Reg := fun e =>
  .op (.bin .add (e 87) (.int .i64 1)) fun t101 =>
  .op (.mv t101) fun t87 =>
  .done (e.upd 87 t87)
theorem c8_r14_run {CP : CProg} (e : Env) (h : Heap) (Q : Post) : RunR CP (c8_r14 e) h Q ↔ RunR CP (
  .op (.bin .add (e 87) (.int .i64 1)) fun t101 =>
  .op (.mv t101) fun t87 =>
  .done (e.upd 87 t87)) h Q := Iff.rfl
def c8_l0 : CC := (.seq (.region c8_r10) (.seq (.cond (fun e => e 88) .skip (.exit 0)) (.seq (.block 1 (.seq (.region c8_r11) (.seq (.region c8_r12) (.cond (fun e => e 100) (.seq (.region c8_r13) .ret) .skip)))) (.region c8_r14))))
def c8_r15_c1 (e : Env) (t102 : Value) (t109 : Value) : Reg :=
  .op (.extract t102 1) fun t110 =>
  .op (.alloc 30 [(.int .i64 0), (.int .i64 0), (.int .i64 0), (.slice none 0 0)]) fun t11 =>
  .op (.store 4 t11 t109) fun _ =>
  .op (.mv t110) fun t12 =>
  .done ((e.upd 11 t11).upd 12 t12)
theorem c8_r15_c1_run {CP : CProg} (e : Env) (t102 : Value) (t109 : Value) (h : Heap) (Q : Post) : RunR CP (c8_r15_c1 e t102 t109) h Q ↔ RunR CP (
  .op (.extract t102 1) fun t110 =>
  .op (.alloc 30 [(.int .i64 0), (.int .i64 0), (.int .i64 0), (.slice none 0 0)]) fun t11 =>
  .op (.store 4 t11 t109) fun _ =>
  .op (.mv t110) fun t12 =>
  .done ((e.upd 11 t11).upd 12 t12)) h Q := Iff.rfl
def c8_r15 : Env → Reg := fun e =>
  .op (.mv (e 7)) fun t103 =>
  .op (.mv (e 7)) fun t104 =>
  .op (.lenSl t104) fun t105 =>
  .op (.bin .sub t105 (.int .i64 1)) fun t106 =>
  .op (.slice 5 1 t103 none (some t106)) fun t107 =>
  .op (.call 22 [t107]) fun t108 =>
  .op (.mv t108) fun t102 =>
  .op (.extract t102 0) fun t109 =>
  c8_r15_c1 e t102 t109
theorem c8_r15_run {CP : CProg} (e : Env) (h : Heap) (Q : Post) : RunR CP (c8_r15 e) h Q ↔ RunR CP (
  .op (.mv (e 7)) fun t103 =>
  .op (.mv (e 7)) fun t104 =>
  .op (.lenSl t104) fun t105 =>
  .op (.bin .sub t105 (.int .i64 1)) fun t106 =>
  .op (.slice 5 1 t103 none (some t106)) fun t107 =>
  .op (.call 22 [t107]) fun t108 =>
  .op (.mv t108) fun t102 =>
  .op (.extract t102 0) fun t109 =>
  c8_r15_c1 e t102 t109) h Q := Iff.rfl
def c8_r16_c1 (e : Env) (t117 : Value) (t118 : Value) : Reg :=
  .op (.alloc 30 [(.int .i64 0), (.int .i64 0), (.int .i64 0), (.slice none 0 0)]) fun t13 =>
  .op (.store 4 t13 t117) fun _ =>
  .op (.mv t118) fun t14 =>
  .done ((e.upd 13 t13).upd 14 t14)
theorem c8_r16_c1_run {CP : CProg} (e : Env) (t117 : Value) (t118 : Value) (h : Heap) (Q : Post) : RunR CP (c8_r16_c1 e t117 t118) h Q ↔ RunR CP (
  .op (.alloc 30 [(.int .i64 0), (.int .i64 0), (.int .i64 0), (.slice none 0 0)]) fun t13 =>
  .op (.store 4 t13 t117) fun _ =>
  .op (.mv t118) fun t14 =>
  .done ((e.upd 13 t13).upd 14 t14)) h Q := Iff.rfl
def c8_r16 : Env → Reg := fun e =>
  .op (.mv (e 7)) fun t112 =>
  .op (.append 5 1 1 (.slice none 0 0) t112) fun t113 =>
  .op (.buildSlice 5 1 [(.int .u8 0)] [(0, 1, (.int .u8 0))]) fun t114 =>
  .op (.append 5 1 1 t113 t114) fun t115 =>
  .op (.call 22 [t115]) fun t116 =>
  .op (.mv t116) fun t111 =>
  .op (.extract t111 0) fun t117 =>
  .op (.extract t111 1) fun t118 =>
  c8_r16_c1 e t117 t118
theorem c8_r16_run {CP : CProg} (e : Env) (h : Heap) (Q : Post) : RunR CP (c8_r16 e) h Q ↔ RunR CP (
  .op (.mv (e 7)) fun t112 =>
  .op (.append 5 1 1 (.slice none 0 0) t112) fun t113 =>
  .op (.buildSlice 5 1 [(.int .u8 0)] [(0, 1, (.int .u8 0))]) fun t114 =>
  .op (.append 5 1 1 t113 t114) fun t115 =>
  .op (.call 22 [t115]) fun t116 =>
  .op (.mv t116) fun t111 =>
  .op (.extract t111 0) fun t117 =>
  .op (.extract t111 1) fun t118 =>
  c8_r16_c1 e t117 t118) h Q := Iff.rfl
def c8_r17_c1 (e : Env) (t119 : Value) (t126 : Value) : Reg :=
  .op (.mv (e 7)) fun t127 =>
  .op (.lenSl t127) fun t128 =>
  .op (.bin .rem t126 t128) fun t129 =>
  .op (.mv (e 2)) fun t130 =>
  .op (.indexSl 1 t119 t129) fun t131 =>
  .op (.store 1 t131 t130) fun _ =>
  .done e
theorem c8_r17_c1_run {CP : CProg} (e : Env) (t119 : Value) (t126 : Value) (h : Heap) (Q : Post) : RunR CP (c8_r17_c1 e t119 t126) h Q ↔ RunR CP (
  .op (.mv (e 7)) fun t127 =>
  .op (.lenSl t127) fun t128 =>
  .op (.bin .rem t126 t128) fun t129 =>
  .op (.mv (e 2)) fun t130 =>
  .op (.indexSl 1 t119 t129) fun t131 =>
  .op (.store 1 t131 t130) fun _ =>
  .done e) h Q := Iff.rfl
def c8_r17 : Env → Reg := fun e =>
  .op (.mv (e 7)) fun t119 =>
  .op (.mv (e 1)) fun t120 =>
  .op (.mv (e 7)) fun t121 =>
  .op (.lenSl t121) fun t122 =>
  .op (.bin .rem t120 t122) fun t123 =>
  .op (.mv (e 7)) fun t124 =>
  .op (.lenSl t124) fun t125 =>
  .op (.bin .add t123 t125) fun t126 =>
  c8_r17_c1 e t119 t126
theorem c8_r17_run {CP : CProg} (e : Env) (h : Heap) (Q : Post) : RunR CP (c8_r17 e) h Q ↔ RunR CP (
  .op (.mv (e 7)) fun t119 =>
  .op (.mv (e 1)) fun t120 =>
  .op (.mv (e 7)) fun t121 =>
  .op (.lenSl t121) fun t122 =>
  .op (.bin .rem t120 t122) fun t123 =>
  .op (.mv (e 7)) fun t124 =>
  .op (.lenSl t124) fun t125 =>
  .op (.bin .add t123 t125) fun t126 =>
  c8_r17_c1 e t119 t126) h Q := Iff.rfl
def c8_r18 : Env → Reg := fun e =>
  .op (.mv (e 7)) fun t133 =>
  .op (.call 22 [t133]) fun t134 =>
  .op (.mv t134) fun t132 =>
  .op (.extract t132 0) fun t135 =>
  .op (.extract t132 1) fun t136 =>
  .op (.store 4 (e 8) t135) fun _ =>
  .op (.mv t136) fun t15 =>
  .done (e.upd 15 t15)
theorem c8_r18_run {CP : CProg} (e : Env) (h : Heap) (Q : Post) : RunR CP (c8_r18 e) h Q ↔ RunR CP (
  .op (.mv (e 7)) fun t133 =>
  .op (.call 22 [t133]) fun t134 =>
  .op (.mv t134) fun t132 =>
  .op (.extract t132 0) fun t135 =>
  .op (.extract t132 1) fun t136 =>
  .op (.store 4 (e 8) t135) fun _ =>
  .op (.mv t136) fun t15 =>
  .done (e.upd 15 t15)) h Q := Iff.rfl
def c8_r19_c4 (e : Env) (t143 : Value) (t152 : Value) (t159 : Value) (t165 : Value) : Reg :=
  .opg t152 false (.pick t159 t165 (.bool false)) fun t166 =>
  .opg t143 true (.pick t152 (.bool true) t166) fun t167 =>
  .op (.pick t143 t167 (.bool false)) fun t168 =>
  .op (.mv t168) fun t6 =>
  .done (e.upd 6 t6)
theorem c8_r19_c4_run {CP : CProg} (e : Env) (t143 : Value) (t152 : Value) (t159 : Value) (t165 : Value) (h : Heap) (Q : Post) : RunR CP (c8_r19_c4 e t143 t152 t159 t165) h Q ↔ RunR CP (
  .opg t152 false (.pick t159 t165 (.bool false)) fun t166 =>
  .opg t143 true (.pick t152 (.bool true) t166) fun t167 =>
  .op (.pick t143 t167 (.bool false)) fun t168 =>
  .op (.mv t168) fun t6 =>
  .done (e.upd 6 t6)) h Q := Iff.rfl
def c8_r19_c3 (e : Env) (t143 : Value) (t152 : Value) (t159 : Value) : Reg :=
  .opg t159 true (.load (some 4) (e 8)) fun t160 =>
  .snap fun h24 =>
  .opg t159 true (.call 21 [t160]) fun t161 =>
  .opg t159 true (.toStr t161) fun t162 =>
  .opg t159 true (.mv (e 7)) fun t163 =>
  .opg t159 true (.toStr t163) fun t164 =>
  .chk (some (t159, true)) (some h24) (.toStr t163) t164 <|
  .opg t159 true (.bin .eql t162 t164) fun t165 =>
  c8_r19_c4 e t143 t152 t159 t165
theorem c8_r19_c3_run {CP : CProg} (e : Env) (t143 : Value) (t152 : Value) (t159 : Value) (h : Heap) (Q : Post) : RunR CP (c8_r19_c3 e t143 t152 t159) h Q ↔ RunR CP (
  .opg t159 true (.load (some 4) (e 8)) fun t160 =>
  .snap fun h24 =>
  .opg t159 true (.call 21 [t160]) fun t161 =>
  .opg t159 true (.toStr t161) fun t162 =>
  .opg t159 true (.mv (e 7)) fun t163 =>
  .opg t159 true (.toStr t163) fun t164 =>
  .chk (some (t159, true)) (some h24) (.toStr t163) t164 <|
  .opg t159 true (.bin .eql t162 t164) fun t165 =>
  c8_r19_c4 e t143 t152 t159 t165) h Q := Iff.rfl
def c8_r19_c2 (e : Env) (t143 : Value) (t152 : Value) : Reg :=
  .opg t152 false (.mv (e 15)) fun t153 =>
  .opg t152 false (.bin .eql t153 (.int .i64 0)) fun t154 =>
  .opg t152 false (.mv t154) fun t155 =>
  .opg t155 true (.load (some 4) (e 8)) fun t156 =>
  .snap fun h20 =>
  .opg t155 true (.call 15 [t156]) fun t157 =>
  .opg t152 false (.pick t155 t157 (.bool false)) fun t158 =>
  .opg t152 false (.mv t158) fun t159 =>
  c8_r19_c3 e t143 t152 t159
theorem c8_r19_c2_run {CP : CProg} (e : Env) (t143 : Value) (t152 : Value) (h : Heap) (Q : Post) : RunR CP (c8_r19_c2 e t143 t152) h Q ↔ RunR CP (
  .opg t152 false (.mv (e 15)) fun t153 =>
  .opg t152 false (.bin .eql t153 (.int .i64 0)) fun t154 =>
  .opg t152 false (.mv t154) fun t155 =>
  .opg t155 true (.load (some 4) (e 8)) fun t156 =>
  .snap fun h20 =>
  .opg t155 true (.call 15 [t156]) fun t157 =>
  .opg t152 false (.pick t155 t157 (.bool false)) fun t158 =>
  .opg t152 false (.mv t158) fun t159 =>
  c8_r19_c3 e t143 t152 t159) h Q := Iff.rfl
def c8_r19_c1 (e : Env) (t143 : Value) (t144 : Value) : Reg :=
  .opg t143 true (.bin .eql t144 (.int .i64 3)) fun t145 =>
  .opg t143 true (.mv t145) fun t146 =>
  .opg t146 true (.fieldAddr 3 (e 8)) fun t147 =>
  .opg t146 true (.load none t147) fun t148 =>
  .opg t146 true (.lenSl t148) fun t149 =>
  .opg t146 true (.bin .eql t149 (.int .i64 0)) fun t150 =>
  .opg t143 true (.pick t146 t150 (.bool false)) fun t151 =>
  .opg t143 true (.mv t151) fun t152 =>
  c8_r19_c2 e t143 t152
theorem c8_r19_c1_run {CP : CProg} (e : Env) (t143 : Value) (t144 : Value) (h : Heap) (Q : Post) : RunR CP (c8_r19_c1 e t143 t144) h Q ↔ RunR CP (
  .opg t143 true (.bin .eql t144 (.int .i64 3)) fun t145 =>
  .opg t143 true (.mv t145) fun t146 =>
  .opg t146 true (.fieldAddr 3 (e 8)) fun t147 =>
  .opg t146 true (.load none t147) fun t148 =>
  .opg t146 true (.lenSl t148) fun t149 =>
  .opg t146 true (.bin .eql t149 (.int .i64 0)) fun t150 =>
  .opg t143 true (.pick t146 t150 (.bool false)) fun t151 =>
  .opg t143 true (.mv t151) fun t152 =>
  c8_r19_c2 e t143 t152) h Q := Iff.rfl
def c8_r19 : Env → Reg := fun e =>
  .op (.mv (e 12)) fun t137 =>
  .op (.bin .eql t137 (.int .i64 3)) fun t138 =>
  .op (.mv t138) fun t139 =>
  .opg t139 true (.mv (e 14)) fun t140 =>
  .opg t139 true (.bin .eql t140 (.int .i64 3)) fun t141 =>
  .op (.pick t139 t141 (.bool false)) fun t142 =>
  .op (.mv t142) fun t143 =>
  .opg t143 true (.mv (e 15)) fun t144 =>
  c8_r19_c1 e t143 t144
theorem c8_r19_run {CP : CProg} (e : Env) (h : Heap) (Q : Post) : RunR CP (c8_r19 e) h Q ↔ RunR CP (
  .op (.mv (e 12)) fun t137 =>
  .op (.bin .eql t137 (.int .i64 3)) fun t138 =>
  .op (.mv t138) fun t139 =>
  .opg t139 true (.mv (e 14)) fun t140 =>
  .opg t139 true (.bin .eql t140 (.int .i64 3)) fun t141 =>
  .op (.pick t139 t141 (.bool false)) fun t142 =>
  .op (.mv t142) fun t143 =>
  .opg t143 true (.mv (e 15)) fun t144 =>
  c8_r19_c1 e t143 t144) h Q := Iff.rfl
def c8 : CFn := ⟨(.seq (.region c8_r0) (.seq (.seq (.region c8_r1) (.cond (fun e => e 17) (.seq (.region c8_r2) .ret) .skip)) (.seq (.seq (.region c8_r3) (.cond (fun e => e 26) (.seq (.region c8_r4) .ret) .skip)) (.seq (.region c8_r5) (.seq (.region c8_r6) (.seq (.seq (.region c8_r7) (.cond (fun e => e 83) (.seq (.region c8_r8) .ret) .skip)) (.seq (.seq (.region c8_r9) (.block 0 (.loop c8_l0))) (.seq (.region c8_r15) (.seq (.region c8_r16) (.seq (.region c8_r17) (.seq (.region c8_r18) (.seq (.region c8_r19) .ret)))))))))))), [.t 6]⟩
def p8 : Pers := ⟨16, [17, 26, 83, 86, 87, 88, 100], 169⟩
-- 9: weighbridge/weighbridgelaw17.fit
def c9_r0 : Env → Reg := fun e =>
  .op (.mv (.bool false)) fun t0 =>
  .done (e.upd 0 t0)
theorem c9_r0_run {CP : CProg} (e : Env) (h : Heap) (Q : Post) : RunR CP (c9_r0 e) h Q ↔ RunR CP (
  .op (.mv (.bool false)) fun t0 =>
  .done (e.upd 0 t0)) h Q := Iff.rfl
def c9_r1 : Env → Reg := fun e =>
  .op (.build [(.int .i64 0), (.int .i64 0), (.int .i64 0), (.int .i64 0), (.int .i64 0), (.int .i64 0), (.int .i64 0), (.int .i64 0), (.bool false)] [(0, 1, (.int .i64 10)), (1, 1, (.int .i64 10)), (2, 1, (.int .i64 11)), (3, 1, (.int .i64 1)), (4, 1, (.int .i64 1)), (5, 1, (.int .i64 1)), (6, 1, (.int .i64 1)), (7, 1, (.int .i64 1))]) fun t3 =>
  .op (.alloc 24 [(.int .i64 0), (.int .i64 0), (.int .i64 0), (.int .i64 0), (.int .i64 0), (.int .i64 0), (.int .i64 0), (.int .i64 0), (.bool false)]) fun t1 =>
  .op (.store 9 t1 t3) fun _ =>
  .done (e.upd 1 t1)
theorem c9_r1_run {CP : CProg} (e : Env) (h : Heap) (Q : Post) : RunR CP (c9_r1 e) h Q ↔ RunR CP (
  .op (.build [(.int .i64 0), (.int .i64 0), (.int .i64 0), (.int .i64 0), (.int .i64 0), (.int .i64 0), (.int .i64 0), (.int .i64 0), (.bool false)] [(0, 1, (.int .i64 10)), (1, 1, (.int .i64 10)), (2, 1, (.int .i64 11)), (3, 1, (.int .i64 1)), (4, 1, (.int .i64 1)), (5, 1, (.int .i64 1)), (6, 1, (.int .i64 1)), (7, 1, (.int .i64 1))]) fun t3 =>
  .op (.alloc 24 [(.int .i64 0), (.int .i64 0), (.int .i64 0), (.int .i64 0), (.int .i64 0), (.int .i64 0), (.int .i64 0), (.int .i64 0), (.bool false)]) fun t1 =>
  .op (.store 9 t1 t3) fun _ =>
  .done (e.upd 1 t1)) h Q := Iff.rfl
def c9_r2 : Env → Reg := fun e =>
  .op (.load (some 9) (e 1)) fun t4 =>
  .op (.call 11 [t4]) fun t5 =>
  .op (.mv t5) fun t2 =>
  .done (e.upd 2 t2)
theorem c9_r2_run {CP : CProg} (e : Env) (h : Heap) (Q : Post) : RunR CP (c9_r2 e) h Q ↔ RunR CP (
  .op (.load (some 9) (e 1)) fun t4 =>
  .op (.call 11 [t4]) fun t5 =>
  .op (.mv t5) fun t2 =>
  .done (e.upd 2 t2)) h Q := Iff.rfl
def c9_r3 : Env → Reg := fun e =>
  .op (.fieldAddr 2 (e 1)) fun t6 =>
  .op (.store 1 t6 (.int .i64 10)) fun _ =>
  .done e
theorem c9_r3_run {CP : CProg} (e : Env) (h : Heap) (Q : Post) : RunR CP (c9_r3 e) h Q ↔ RunR CP (
  .op (.fieldAddr 2 (e 1)) fun t6 =>
  .op (.store 1 t6 (.int .i64 10)) fun _ =>
  .done e) h Q := Iff.rfl
def c9_r4 : Env → Reg := fun e =>
  .op (.mv (e 2)) fun t7 =>
  .op (.un .not t7) fun t8 =>
  .op (.mv t8) fun t9 =>
  .opg t9 true (.load (some 9) (e 1)) fun t10 =>
  .opg t9 true (.call 11 [t10]) fun t11 =>
  .op (.pick t9 t11 (.bool false)) fun t12 =>
  .op (.mv t12) fun t0 =>
  .done (e.upd 0 t0)
theorem c9_r4_run {CP : CProg} (e : Env) (h : Heap) (Q : Post) : RunR CP (c9_r4 e) h Q ↔ RunR CP (
  .op (.mv (e 2)) fun t7 =>
  .op (.un .not t7) fun t8 =>
  .op (.mv t8) fun t9 =>
  .opg t9 true (.load (some 9) (e 1)) fun t10 =>
  .opg t9 true (.call 11 [t10]) fun t11 =>
  .op (.pick t9 t11 (.bool false)) fun t12 =>
  .op (.mv t12) fun t0 =>
  .done (e.upd 0 t0)) h Q := Iff.rfl
def c9 : CFn := ⟨(.seq (.region c9_r0) (.seq (.region c9_r1) (.seq (.region c9_r2) (.seq (.region c9_r3) (.seq (.region c9_r4) .ret))))), [.t 0]⟩
def p9 : Pers := ⟨3, [], 13⟩
-- 10: weighbridge/weighbridgeref09.Unit
def c10_r0 : Env → Reg := fun e =>
  .op (.box 24 (e 0)) fun t1 =>
  .op (.mv (.int .i64 0)) fun t2 =>
  .done ((e.upd 1 t1).upd 2 t2)
theorem c10_r0_run {CP : CProg} (e : Env) (h : Heap) (Q : Post) : RunR CP (c10_r0 e) h Q ↔ RunR CP (
  .op (.box 24 (e 0)) fun t1 =>
  .op (.mv (.int .i64 0)) fun t2 =>
  .done ((e.upd 1 t1).upd 2 t2)) h Q := Iff.rfl
def c10_r1 : Env → Reg := fun e =>
  .op (.fieldAddr 0 (e 1)) fun t5 =>
  .op (.load none t5) fun t6 =>
  .op (.bin .add t6 (.int .i64 1)) fun t7 =>
  .op (.fieldAddr 2 (e 1)) fun t8 =>
  .op (.load none t8) fun t9 =>
  .op (.bin .sub t7 t9) fun t10 =>
  .op (.mv t10) fun t3 =>
  .done (e.upd 3 t3)
theorem c10_r1_run {CP : CProg} (e : Env) (h : Heap) (Q : Post) : RunR CP (c10_r1 e) h Q ↔ RunR CP (
  .op (.fieldAddr 0 (e 1)) fun t5 =>
  .op (.load none t5) fun t6 =>
  .op (.bin .add t6 (.int .i64 1)) fun t7 =>
  .op (.fieldAddr 2 (e 1)) fun t8 =>
  .op (.load none t8) fun t9 =>
  .op (.bin .sub t7 t9) fun t10 =>
  .op (.mv t10) fun t3 =>
  .done (e.upd 3 t3)) h Q := Iff.rfl
def c10_r2 : Env → Reg := fun e =>
  .op (.fieldAddr 1 (e 1)) fun t11 =>
  .op (.load none t11) fun t12 =>
  .op (.mv (e 3)) fun t13 =>
  .op (.bin .quo t12 t13) fun t14 =>
  .op (.mv t14) fun t4 =>
  .done (e.upd 4 t4)
theorem c10_r2_run {CP : CProg} (e : Env) (h : Heap) (Q : Post) : RunR CP (c10_r2 e) h Q ↔ RunR CP (
  .op (.fieldAddr 1 (e 1)) fun t11 =>
  .op (.load none t11) fun t12 =>
  .op (.mv (e 3)) fun t13 =>
  .op (.bin .quo t12 t13) fun t14 =>
  .op (.mv t14) fun t4 =>
  .done (e.upd 4 t4)) h Q := Iff.rfl
def c10_r3 : Env → Reg := fun e =>
  .op (.mv (e 4)) fun t15 =>
  .op (.mv (e 3)) fun t16 =>
  .op (.bin .mul t15 t16) fun t17 =>
  .op (.fieldAddr 1 (e 1)) fun t18 =>
  .op (.load none t18) fun t19 =>
  .op (.bin .lss t17 t19) fun t20 =>
  .done (e.upd 20 t20)
theorem c10_r3_run {CP : CProg} (e : Env) (h : Heap) (Q : Post) : RunR CP (c10_r3 e) h Q ↔ RunR CP (
  .op (.mv (e 4)) fun t15 =>
  .op (.mv (e 3)) fun t16 =>
  .op (.bin .mul t15 t16) fun t17 =>
  .op (.fieldAddr 1 (e 1)) fun t18 =>
  .op (.load none t18) fun t19 =>
  .op (.bin .lss t17 t19) fun t20 =>
  .done (e.upd 20 t20)) h Q := Iff.rfl
def c10_r4 : Env → Reg := fun e =>
  .op (.mv (e 4)) fun t21 =>
  .op (.bin .add t21 (.int .i64 1)) fun t22 =>
  .op (.mv t22) fun t4 =>
  .done (e.upd 4 t4)
theorem c10_r4_run {CP : CProg} (e : Env) (h : Heap) (Q : Post) : RunR CP (c10_r4 e) h Q ↔ RunR CP (
  .op (.mv (e 4)) fun t21 =>
  .op (.bin .add t21 (.int .i64 1)) fun t22 =>
  .op (.mv t22) fun t4 =>
  .done (e.upd 4 t4)) h Q := Iff.rfl
def c10_r5 : Env → Reg := fun e =>
  .op (.mv (e 4)) fun t23 =>
  .op (.mv t23) fun t2 =>
  .done (e.upd 2 t2)
theorem c10_r5_run {CP : CProg} (e : Env) (h : Heap) (Q : Post) : RunR CP (c10_r5 e) h Q ↔ RunR CP (
  .op (.mv (e 4)) fun t23 =>
  .op (.mv t23) fun t2 =>
  .done (e.upd 2 t2)) h Q := Iff.rfl
def c10 : CFn := ⟨(.seq (.region c10_r0) (.seq (.region c10_r1) (.seq (.region c10_r2) (.seq (.seq (.region c10_r3) (.cond (fun e => e 20) (.region c10_r4) .skip)) (.seq (.region c10_r5) .ret))))), [.t 2]⟩
def p10 : Pers := ⟨5, [20], 24⟩
-- 11: weighbridge/config.RuleRight
def c11_r0 : Env → Reg := fun e =>
  .op (.box 24 (e 0)) fun t1 =>
  .op (.mv (.bool false)) fun t2 =>
  .done ((e.upd 1 t1).upd 2 t2)
theorem c11_r0_run {CP : CProg} (e : Env) (h : Heap) (Q : Post) : RunR CP (c11_r0 e) h Q ↔ RunR CP (
  .op (.box 24 (e 0)) fun t1 =>
  .op (.mv (.bool false)) fun t2 =>
  .done ((e.upd 1 t1).upd 2 t2)) h Q := Iff.rfl
def c11_r1 : Env → Reg := fun e =>
  .op (.load (some 9) (e 1)) fun t5 =>
  .op (.build [(.int .i64 0), (.int .i64 0), (.int .i64 0), (.int .i64 0), (.int .i64 0), (.int .i64 0), (.int .i64 0), (.int .i64 0), (.bool false)] []) fun t6 =>
  .op (.eqAgg false [.int, .int, .int, .int, .int, .int, .int, .int, .bool] t5 t6) fun t7 =>
  .done (e.upd 7 t7)
theorem c11_r1_run {CP : CProg} (e : Env) (h : Heap) (Q : Post) : RunR CP (c11_r1 e) h Q ↔ RunR CP (
  .op (.load (some 9) (e 1)) fun t5 =>
  .op (.build [(.int .i64 0), (.int .i64 0), (.int .i64 0), (.int .i64 0), (.int .i64 0), (.int .i64 0), (.int .i64 0), (.int .i64 0), (.bool false)] []) fun t6 =>
  .op (.eqAgg false [.int, .int, .int, .int, .int, .int, .int, .int, .bool] t5 t6) fun t7 =>
  .done (e.upd 7 t7)) h Q := Iff.rfl
def c11_r2 : Env → Reg := fun e =>
  .op (.mv (.bool false)) fun t2 =>
  .done (e.upd 2 t2)
theorem c11_r2_run {CP : CProg} (e : Env) (h : Heap) (Q : Post) : RunR CP (c11_r2 e) h Q ↔ RunR CP (
  .op (.mv (.bool false)) fun t2 =>
  .done (e.upd 2 t2)) h Q := Iff.rfl
def c11_r3_c3 (e : Env) (t31 : Value) : Reg :=
  .op (.mv t31) fun t32 =>
  .opg t32 false (.fieldAddr 1 (e 1)) fun t33 =>
  .opg t32 false (.load none t33) fun t34 =>
  .opg t32 false (.fieldAddr 3 (e 1)) fun t35 =>
  .opg t32 false (.load none t35) fun t36 =>
  .opg t32 false (.bin .rem t34 t36) fun t37 =>
  .opg t32 false (.bin .neq t37 (.int .i64 0)) fun t38 =>
  .op (.pick t32 (.bool true) t38) fun t39 =>
  .done (e.upd 39 t39)
theorem c11_r3_c3_run {CP : CProg} (e : Env) (t31 : Value) (h : Heap) (Q : Post) : RunR CP (c11_r3_c3 e t31) h Q ↔ RunR CP (
  .op (.mv t31) fun t32 =>
  .opg t32 false (.fieldAddr 1 (e 1)) fun t33 =>
  .opg t32 false (.load none t33) fun t34 =>
  .opg t32 false (.fieldAddr 3 (e 1)) fun t35 =>
  .opg t32 false (.load none t35) fun t36 =>
  .opg t32 false (.bin .rem t34 t36) fun t37 =>
  .opg t32 false (.bin .neq t37 (.int .i64 0)) fun t38 =>
  .op (.pick t32 (.bool true) t38) fun t39 =>
  .done (e.upd 39 t39)) h Q := Iff.rfl
def c11_r3_c2 (e : Env) (t18 : Value) (t23 : Value) : Reg :=
  .opg t18 false (.un .not t23) fun t24 =>
  .op (.pick t18 (.bool true) t24) fun t25 =>
  .op (.mv t25) fun t26 =>
  .opg t26 false (.fieldAddr 3 (e 1)) fun t27 =>
  .opg t26 false (.load none t27) fun t28 =>
  .opg t26 false (.call 23 [t28, (.int .i64 64)]) fun t29 =>
  .opg t26 false (.un .not t29) fun t30 =>
  .op (.pick t26 (.bool true) t30) fun t31 =>
  c11_r3_c3 e t31
theorem c11_r3_c2_run {CP : CProg} (e : Env) (t18 : Value) (t23 : Value) (h : Heap) (Q : Post) : RunR CP (c11_r3_c2 e t18 t23) h Q ↔ RunR CP (
  .opg t18 false (.un .not t23) fun t24 =>
  .op (.pick t18 (.bool true) t24) fun t25 =>
  .op (.mv t25) fun t26 =>
  .opg t26 false (.fieldAddr 3 (e 1)) fun t27 =>
  .opg t26 false (.load none t27) fun t28 =>
  .opg t26 false (.call 23 [t28, (.int .i64 64)]) fun t29 =>
  .opg t26 false (.un .not t29) fun t30 =>
  .op (.pick t26 (.bool true) t30) fun t31 =>
  c11_r3_c3 e t31) h Q := Iff.rfl
def c11_r3_c1 (e : Env) (t12 : Value) (t15 : Value) : Reg :=
  .opg t12 false (.un .not t15) fun t16 =>
  .op (.pick t12 (.bool true) t16) fun t17 =>
  .op (.mv t17) fun t18 =>
  .opg t18 false (.fieldAddr 2 (e 1)) fun t19 =>
  .opg t18 false (.load none t19) fun t20 =>
  .opg t18 false (.fieldAddr 0 (e 1)) fun t21 =>
  .opg t18 false (.load none t21) fun t22 =>
  .opg t18 false (.call 23 [t20, t22]) fun t23 =>
  c11_r3_c2 e t18 t23
theorem c11_r3_c1_run {CP : CProg} (e : Env) (t12 : Value) (t15 : Value) (h : Heap) (Q : Post) : RunR CP (c11_r3_c1 e t12 t15) h Q ↔ RunR CP (
  .opg t12 false (.un .not t15) fun t16 =>
  .op (.pick t12 (.bool true) t16) fun t17 =>
  .op (.mv t17) fun t18 =>
  .opg t18 false (.fieldAddr 2 (e 1)) fun t19 =>
  .opg t18 false (.load none t19) fun t20 =>
  .opg t18 false (.fieldAddr 0 (e 1)) fun t21 =>
  .opg t18 false (.load none t21) fun t22 =>
  .opg t18 false (.call 23 [t20, t22]) fun t23 =>
  c11_r3_c2 e t18 t23) h Q := Iff.rfl
def c11_r3 : Env → Reg := fun e =>
  .op (.fieldAddr 0 (e 1)) fun t8 =>
  .op (.load none t8) fun t9 =>
  .op (.call 23 [t9, (.int .i64 2147483648)]) fun t10 =>
  .op (.un .not t10) fun t11 =>
  .op (.mv t11) fun t12 =>
  .opg t12 false (.fieldAddr 1 (e 1)) fun t13 =>
  .opg t12 false (.load none t13) fun t14 =>
  .opg t12 false (.call 23 [t14, (.int .i64 1099511627776)]) fun t15 =>
  c11_r3_c1 e t12 t15
theorem c11_r3_run {CP : CProg} (e : Env) (h : Heap) (Q : Post) : RunR CP (c11_r3 e) h Q ↔ RunR CP (
  .op (.fieldAddr 0 (e 1)) fun t8 =>
  .op (.load none t8) fun t9 =>
  .op (.call 23 [t9, (.int .i64 2147483648)]) fun t10 =>
  .op (.un .not t10) fun t11 =>
  .op (.mv t11) fun t12 =>
  .opg t12 false (.fieldAddr 1 (e 1)) fun t13 =>
  .opg t12 false (.load none t13) fun t14 =>
  .opg t12 false (.call 23 [t14, (.int .i64 1099511627776)]) fun t15 =>
  c11_r3_c1 e t12 t15) h Q := Iff.rfl
def c11_r4 : Env → Reg := fun e =>
  .op (.mv (.bool false)) fun t2 =>
  .done (e.upd 2 t2)
theorem c11_r4_run {CP : CProg} (e : Env) (h : Heap) (Q : Post) : RunR CP (c11_r4 e) h Q ↔ RunR CP (
  .op (.mv (.bool false)) fun t2 =>
  .done (e.upd 2 t2)) h Q := Iff.rfl
def c11_r5_c3 (e : Env) (t62 : Value) (t63 : Value) : Reg :=
  .opg t62 false (.load none t63) fun t64 =>
  .opg t62 false (.mv t64) fun t65 =>
  .opg t65 true (.fieldAddr 3 (e 1)) fun t66 =>
  .opg t65 true (.load none t66) fun t67 =>
  .opg t65 true (.bin .lss t67 (.int .i64 2)) fun t68 =>
  .opg t62 false (.pick t65 t68 (.bool false)) fun t69 =>
  .op (.pick t62 (.bool true) t69) fun t70 =>
  .done (e.upd 70 t70)
theorem c11_r5_c3_run {CP : CProg} (e : Env) (t62 : Value) (t63 : Value) (h : Heap) (Q : Post) : RunR CP (c11_r5_c3 e t62 t63) h Q ↔ RunR CP (
  .opg t62 false (.load none t63) fun t64 =>
  .opg t62 false (.mv t64) fun t65 =>
  .opg t65 true (.fieldAddr 3 (e 1)) fun t66 =>
  .opg t65 true (.load none t66) fun t67 =>
  .opg t65 true (.bin .lss t67 (.int .i64 2)) fun t68 =>
  .opg t62 false (.pick t65 t68 (.bool false)) fun t69 =>
  .op (.pick t62 (.bool true) t69) fun t70 =>
  .done (e.upd 70 t70)) h Q := Iff.rfl
def c11_r5_c2 (e : Env) (t55 : Value) : Reg :=
  .op (.mv t55) fun t56 =>
  .opg t56 false (.fieldAddr 7 (e 1)) fun t57 =>
  .opg t56 false (.load none t57) fun t58 =>
  .opg t56 false (.call 23 [t58, (.int .i64 64)]) fun t59 =>
  .opg t56 false (.un .not t59) fun t60 =>
  .op (.pick t56 (.bool true) t60) fun t61 =>
  .op (.mv t61) fun t62 =>
  .opg t62 false (.fieldAddr 8 (e 1)) fun t63 =>
  c11_r5_c3 e t62 t63
theorem c11_r5_c2_run {CP : CProg} (e : Env) (t55 : Value) (h : Heap) (Q : Post) : RunR CP (c11_r5_c2 e t55) h Q ↔ RunR CP (
  .op (.mv t55) fun t56 =>
  .opg t56 false (.fieldAddr 7 (e 1)) fun t57 =>
  .opg t56 false (.load none t57) fun t58 =>
  .opg t56 false (.call 23 [t58, (.int .i64 64)]) fun t59 =>
  .opg t56 false (.un .not t59) fun t60 =>
  .op (.pick t56 (.bool true) t60) fun t61 =>
  .op (.mv t61) fun t62 =>
  .opg t62 false (.fieldAddr 8 (e 1)) fun t63 =>
  c11_r5_c3 e t62 t63) h Q := Iff.rfl
def c11_r5_c1 (e : Env) (t44 : Value) (t47 : Value) : Reg :=
  .opg t44 false (.un .not t47) fun t48 =>
  .op (.pick t44 (.bool true) t48) fun t49 =>
  .op (.mv t49) fun t50 =>
  .opg t50 false (.fieldAddr 6 (e 1)) fun t51 =>
  .opg t50 false (.load none t51) fun t52 =>
  .opg t50 false (.call 23 [t52, (.int .i64 4096)]) fun t53 =>
  .opg t50 false (.un .not t53) fun t54 =>
  .op (.pick t50 (.bool true) t54) fun t55 =>
  c11_r5_c2 e t55
theorem c11_r5_c1_run {CP : CProg} (e : Env) (t44 : Value) (t47 : Value) (h : Heap) (Q : Post) : RunR CP (c11_r5_c1 e t44 t47) h Q ↔ RunR CP (
  .opg t44 false (.un .not t47) fun t48 =>
  .op (.pick t44 (.bool true) t48) fun t49 =>
  .op (.mv t49) fun t50 =>
  .opg t50 false (.fieldAddr 6 (e 1)) fun t51 =>
  .opg t50 false (.load none t51) fun t52 =>
  .opg t50 false (.call 23 [t52, (.int .i64 4096)]) fun t53 =>
  .opg t50 false (.un .not t53) fun t54 =>
  .op (.pick t50 (.bool true) t54) fun t55 =>
  c11_r5_c2 e t55) h Q := Iff.rfl
def c11_r5 : Env → Reg := fun e =>
  .op (.fieldAddr 4 (e 1)) fun t40 =>
  .op (.load none t40) fun t41 =>
  .op (.call 23 [t41, (.int .i64 1024)]) fun t42 =>
  .op (.un .not t42) fun t43 =>
  .op (.mv t43) fun t44 =>
  .opg t44 false (.fieldAddr 5 (e 1)) fun t45 =>
  .opg t44 false (.load none t45) fun t46 =>
  .opg t44 false (.call 23 [t46, (.int .i64 8)]) fun t47 =>
  c11_r5_c1 e t44 t47
theorem c11_r5_run {CP : CProg} (e : Env) (h : Heap) (Q : Post) : RunR CP (c11_r5 e) h Q ↔ RunR CP (
  .op (.fieldAddr 4 (e 1)) fun t40 =>
  .op (.load none t40) fun t41 =>
  .op (.call 23 [t41, (.int .i64 1024)]) fun t42 =>
  .op (.un .not t42) fun t43 =>
  .op (.mv t43) fun t44 =>
  .opg t44 false (.fieldAddr 5 (e 1)) fun t45 =>
  .opg t44 false (.load none t45) fun t46 =>
  .opg t44 false (.call 23 [t46, (.int .i64 8)]) fun t47 =>
  c11_r5_c1 e t44 t47) h Q := Iff.rfl
def c11_r6 : Env → Reg := fun e =>
  .op (.mv (.bool false)) fun t2 =>
  .done (e.upd 2 t2)
theorem c11_r6_run {CP : CProg} (e : Env) (h : Heap) (Q : Post) : RunR CP (c11_r6 e) h Q ↔ RunR CP (
  .op (.mv (.bool false)) fun t2 =>
  .done (e.upd 2 t2)) h Q := Iff.rfl
def c11_r7_c2 (e : Env) (t71 : Value) : Reg :=
  .op (.extract t71 0) fun t84 =>
  .op (.extract t71 1) fun t85 =>
  .op (.mv t84) fun t3 =>
  .op (.mv t85) fun t4 =>
  .done ((e.upd 3 t3).upd 4 t4)
theorem c11_r7_c2_run {CP : CProg} (e : Env) (t71 : Value) (h : Heap) (Q : Post) : RunR CP (c11_r7_c2 e t71) h Q ↔ RunR CP (
  .op (.extract t71 0) fun t84 =>
  .op (.extract t71 1) fun t85 =>
  .op (.mv t84) fun t3 =>
  .op (.mv t85) fun t4 =>
  .done ((e.upd 3 t3).upd 4 t4)) h Q := Iff.rfl
def c11_r7_c1 (e : Env) (t72 : Value) (t73 : Value) (t75 : Value) (t78 : Value) (t79 : Value) : Reg :=
  .op (.load none t79) fun t80 =>
  .op (.bin .sub t78 t80) fun t81 =>
  .snap fun h10 =>
  .op (.call 25 [t75, t81]) fun t82 =>
  .chk none none (.load none t72) t73 <|
  .snap fun h11 =>
  .op (.call 24 [t73, t82]) fun t83 =>
  .op (.mv t83) fun t71 =>
  c11_r7_c2 e t71
theorem c11_r7_c1_run {CP : CProg} (e : Env) (t72 : Value) (t73 : Value) (t75 : Value) (t78 : Value) (t79 : Value) (h : Heap) (Q : Post) : RunR CP (c11_r7_c1 e t72 t73 t75 t78 t79) h Q ↔ RunR CP (
  .op (.load none t79) fun t80 =>
  .op (.bin .sub t78 t80) fun t81 =>
  .snap fun h10 =>
  .op (.call 25 [t75, t81]) fun t82 =>
  .chk none none (.load none t72) t73 <|
  .snap fun h11 =>
  .op (.call 24 [t73, t82]) fun t83 =>
  .op (.mv t83) fun t71 =>
  c11_r7_c2 e t71) h Q := Iff.rfl
def c11_r7 : Env → Reg := fun e =>
  .op (.fieldAddr 2 (e 1)) fun t72 =>
  .op (.load none t72) fun t73 =>
  .op (.fieldAddr 1 (e 1)) fun t74 =>
  .op (.load none t74) fun t75 =>
  .op (.fieldAddr 0 (e 1)) fun t76 =>
  .op (.load none t76) fun t77 =>
  .op (.bin .add t77 (.int .i64 1)) fun t78 =>
  .op (.fieldAddr 2 (e 1)) fun t79 =>
  c11_r7_c1 e t72 t73 t75 t78 t79
theorem c11_r7_run {CP : CProg} (e : Env) (h : Heap) (Q : Post) : RunR CP (c11_r7 e) h Q ↔ RunR CP (
  .op (.fieldAddr 2 (e 1)) fun t72 =>
  .op (.load none t72) fun t73 =>
  .op (.fieldAddr 1 (e 1)) fun t74 =>
  .op (.load none t74) fun t75 =>
  .op (.fieldAddr 0 (e 1)) fun t76 =>
  .op (.load none t76) fun t77 =>
  .op (.bin .add t77 (.int .i64 1)) fun t78 =>
  .op (.fieldAddr 2 (e 1)) fun t79 =>
  c11_r7_c1 e t72 t73 t75 t78 t79) h Q := Iff.rfl
def c11_r8 : Env → Reg := fun e =>
  .op (.mv (e 4)) fun t86 =>
  .op (.mv t86) fun t87 =>
  .opg t87 true (.mv (e 3)) fun t88 =>
  .opg t87 true (.bin .leq t88 (.int .i64 1152921504606846976)) fun t89 =>
  .op (.pick t87 t89 (.bool false)) fun t90 =>
  .op (.mv t90) fun t2 =>
  .done (e.upd 2 t2)
theorem c11_r8_run {CP : CProg} (e : Env) (h : Heap) (Q : Post) : RunR CP (c11_r8 e) h Q ↔ RunR CP (
  .op (.mv (e 4)) fun t86 =>
  .op (.mv t86) fun t87 =>
  .opg t87 true (.mv (e 3)) fun t88 =>
  .opg t87 true (.bin .leq t88 (.int .i64 1152921504606846976)) fun t89 =>
  .op (.pick t87 t89 (.bool false)) fun t90 =>
  .op (.mv t90) fun t2 =>
  .done (e.upd 2 t2)) h Q := Iff.rfl
def c11 : CFn := ⟨(.seq (.region c11_r0) (.seq (.seq (.region c11_r1) (.cond (fun e => e 7) (.seq (.region c11_r2) .ret) .skip)) (.seq (.seq (.region c11_r3) (.cond (fun e => e 39) (.seq (.region c11_r4) .ret) .skip)) (.seq (.seq (.region c11_r5) (.cond (fun e => e 70) (.seq (.region c11_r6) .ret) .skip)) (.seq (.region c11_r7) (.seq (.region c11_r8) .ret)))))), [.t 2]⟩
def p11 : Pers := ⟨5, [7, 39, 70], 91⟩
-- 12: weighbridge/weighbridgelaw17.rule
def c12_r0 : Env → Reg := fun e =>
  .op (.box 24 (e 0)) fun t1 =>
  .op (.mv (.bool false)) fun t2 =>
  .done ((e.upd 1 t1).upd 2 t2)
theorem c12_r0_run {CP : CProg} (e : Env) (h : Heap) (Q : Post) : RunR CP (c12_r0 e) h Q ↔ RunR CP (
  .op (.box 24 (e 0)) fun t1 =>
  .op (.mv (.bool false)) fun t2 =>
  .done ((e.upd 1 t1).upd 2 t2)) h Q := Iff.rfl
def c12_r1_c11 (e : Env) (t90 : Value) : Reg :=
  .op (.mv t90) fun t91 =>
  .opg t91 false (.fieldAddr 8 (e 1)) fun t92 =>
  .opg t91 false (.load none t92) fun t93 =>
  .opg t91 false (.mv t93) fun t94 =>
  .opg t94 true (.fieldAddr 3 (e 1)) fun t95 =>
  .opg t94 true (.load none t95) fun t96 =>
  .opg t94 true (.bin .lss t96 (.int .i64 2)) fun t97 =>
  .opg t91 false (.pick t94 t97 (.bool false)) fun t98 =>
  .op (.pick t91 (.bool true) t98) fun t99 =>
  .done (e.upd 99 t99)
theorem c12_r1_c11_run {CP : CProg} (e : Env) (t90 : Value) (h : Heap) (Q : Post) : RunR CP (c12_r1_c11 e t90) h Q ↔ RunR CP (
  .op (.mv t90) fun t91 =>
  .opg t91 false (.fieldAddr 8 (e 1)) fun t92 =>
  .opg t91 false (.load none t92) fun t93 =>
  .opg t91 false (.mv t93) fun t94 =>
  .opg t94 true (.fieldAddr 3 (e 1)) fun t95 =>
  .opg t94 true (.load none t95) fun t96 =>
  .opg t94 true (.bin .lss t96 (.int .i64 2)) fun t97 =>
  .opg t91 false (.pick t94 t97 (.bool false)) fun t98 =>
  .op (.pick t91 (.bool true) t98) fun t99 =>
  .done (e.upd 99 t99)) h Q := Iff.rfl
def c12_r1_c10 (e : Env) (t81 : Value) (t82 : Value) : Reg :=
  .opg t81 false (.load none t82) fun t83 =>
  .opg t81 false (.bin .lss t83 (.int .i64 1)) fun t84 =>
  .op (.pick t81 (.bool true) t84) fun t85 =>
  .op (.mv t85) fun t86 =>
  .opg t86 false (.fieldAddr 7 (e 1)) fun t87 =>
  .opg t86 false (.load none t87) fun t88 =>
  .opg t86 false (.bin .gtr t88 (.int .i64 64)) fun t89 =>
  .op (.pick t86 (.bool true) t89) fun t90 =>
  c12_r1_c11 e t90
theorem c12_r1_c10_run {CP : CProg} (e : Env) (t81 : Value) (t82 : Value) (h : Heap) (Q : Post) : RunR CP (c12_r1_c10 e t81 t82) h Q ↔ RunR CP (
  .opg t81 false (.load none t82) fun t83 =>
  .opg t81 false (.bin .lss t83 (.int .i64 1)) fun t84 =>
  .op (.pick t81 (.bool true) t84) fun t85 =>
  .op (.mv t85) fun t86 =>
  .opg t86 false (.fieldAddr 7 (e 1)) fun t87 =>
  .opg t86 false (.load none t87) fun t88 =>
  .opg t86 false (.bin .gtr t88 (.int .i64 64)) fun t89 =>
  .op (.pick t86 (.bool true) t89) fun t90 =>
  c12_r1_c11 e t90) h Q := Iff.rfl
def c12_r1_c9 (e : Env) (t71 : Value) (t74 : Value) : Reg :=
  .op (.pick t71 (.bool true) t74) fun t75 =>
  .op (.mv t75) fun t76 =>
  .opg t76 false (.fieldAddr 6 (e 1)) fun t77 =>
  .opg t76 false (.load none t77) fun t78 =>
  .opg t76 false (.bin .gtr t78 (.int .i64 4096)) fun t79 =>
  .op (.pick t76 (.bool true) t79) fun t80 =>
  .op (.mv t80) fun t81 =>
  .opg t81 false (.fieldAddr 7 (e 1)) fun t82 =>
  c12_r1_c10 e t81 t82
theorem c12_r1_c9_run {CP : CProg} (e : Env) (t71 : Value) (t74 : Value) (h : Heap) (Q : Post) : RunR CP (c12_r1_c9 e t71 t74) h Q ↔ RunR CP (
  .op (.pick t71 (.bool true) t74) fun t75 =>
  .op (.mv t75) fun t76 =>
  .opg t76 false (.fieldAddr 6 (e 1)) fun t77 =>
  .opg t76 false (.load none t77) fun t78 =>
  .opg t76 false (.bin .gtr t78 (.int .i64 4096)) fun t79 =>
  .op (.pick t76 (.bool true) t79) fun t80 =>
  .op (.mv t80) fun t81 =>
  .opg t81 false (.fieldAddr 7 (e 1)) fun t82 =>
  c12_r1_c10 e t81 t82) h Q := Iff.rfl
def c12_r1_c8 (e : Env) (t66 : Value) : Reg :=
  .opg t66 false (.fieldAddr 5 (e 1)) fun t67 =>
  .opg t66 false (.load none t67) fun t68 =>
  .opg t66 false (.bin .gtr t68 (.int .i64 8)) fun t69 =>
  .op (.pick t66 (.bool true) t69) fun t70 =>
  .op (.mv t70) fun t71 =>
  .opg t71 false (.fieldAddr 6 (e 1)) fun t72 =>
  .opg t71 false (.load none t72) fun t73 =>
  .opg t71 false (.bin .lss t73 (.int .i64 1)) fun t74 =>
  c12_r1_c9 e t71 t74
theorem c12_r1_c8_run {CP : CProg} (e : Env) (t66 : Value) (h : Heap) (Q : Post) : RunR CP (c12_r1_c8 e t66) h Q ↔ RunR CP (
  .opg t66 false (.fieldAddr 5 (e 1)) fun t67 =>
  .opg t66 false (.load none t67) fun t68 =>
  .opg t66 false (.bin .gtr t68 (.int .i64 8)) fun t69 =>
  .op (.pick t66 (.bool true) t69) fun t70 =>
  .op (.mv t70) fun t71 =>
  .opg t71 false (.fieldAddr 6 (e 1)) fun t72 =>
  .opg t71 false (.load none t72) fun t73 =>
  .opg t71 false (.bin .lss t73 (.int .i64 1)) fun t74 =>
  c12_r1_c9 e t71 t74) h Q := Iff.rfl
def c12_r1_c7 (e : Env) (t56 : Value) (t58 : Value) : Reg :=
  .opg t56 false (.bin .gtr t58 (.int .i64 1024)) fun t59 =>
  .op (.pick t56 (.bool true) t59) fun t60 =>
  .op (.mv t60) fun t61 =>
  .opg t61 false (.fieldAddr 5 (e 1)) fun t62 =>
  .opg t61 false (.load none t62) fun t63 =>
  .opg t61 false (.bin .lss t63 (.int .i64 1)) fun t64 =>
  .op (.pick t61 (.bool true) t64) fun t65 =>
  .op (.mv t65) fun t66 =>
  c12_r1_c8 e t66
theorem c12_r1_c7_run {CP : CProg} (e : Env) (t56 : Value) (t58 : Value) (h : Heap) (Q : Post) : RunR CP (c12_r1_c7 e t56 t58) h Q ↔ RunR CP (
  .opg t56 false (.bin .gtr t58 (.int .i64 1024)) fun t59 =>
  .op (.pick t56 (.bool true) t59) fun t60 =>
  .op (.mv t60) fun t61 =>
  .opg t61 false (.fieldAddr 5 (e 1)) fun t62 =>
  .opg t61 false (.load none t62) fun t63 =>
  .opg t61 false (.bin .lss t63 (.int .i64 1)) fun t64 =>
  .op (.pick t61 (.bool true) t64) fun t65 =>
  .op (.mv t65) fun t66 =>
  c12_r1_c8 e t66) h Q := Iff.rfl
def c12_r1_c6 (e : Env) (t50 : Value) : Reg :=
  .op (.mv t50) fun t51 =>
  .opg t51 false (.fieldAddr 4 (e 1)) fun t52 =>
  .opg t51 false (.load none t52) fun t53 =>
  .opg t51 false (.bin .lss t53 (.int .i64 1)) fun t54 =>
  .op (.pick t51 (.bool true) t54) fun t55 =>
  .op (.mv t55) fun t56 =>
  .opg t56 false (.fieldAddr 4 (e 1)) fun t57 =>
  .opg t56 false (.load none t57) fun t58 =>
  c12_r1_c7 e t56 t58
theorem c12_r1_c6_run {CP : CProg} (e : Env) (t50 : Value) (h : Heap) (Q : Post) : RunR CP (c12_r1_c6 e t50) h Q ↔ RunR CP (
  .op (.mv t50) fun t51 =>
  .opg t51 false (.fieldAddr 4 (e 1)) fun t52 =>
  .opg t51 false (.load none t52) fun t53 =>
  .opg t51 false (.bin .lss t53 (.int .i64 1)) fun t54 =>
  .op (.pick t51 (.bool true) t54) fun t55 =>
  .op (.mv t55) fun t56 =>
  .opg t56 false (.fieldAddr 4 (e 1)) fun t57 =>
  .opg t56 false (.load none t57) fun t58 =>
  c12_r1_c7 e t56 t58) h Q := Iff.rfl
def c12_r1_c5 (e : Env) (t42 : Value) : Reg :=
  .op (.mv t42) fun t43 =>
  .opg t43 false (.fieldAddr 1 (e 1)) fun t44 =>
  .opg t43 false (.load none t44) fun t45 =>
  .opg t43 false (.fieldAddr 3 (e 1)) fun t46 =>
  .opg t43 false (.load none t46) fun t47 =>
  .opg t43 false (.bin .rem t45 t47) fun t48 =>
  .opg t43 false (.bin .neq t48 (.int .i64 0)) fun t49 =>
  .op (.pick t43 (.bool true) t49) fun t50 =>
  c12_r1_c6 e t50
theorem c12_r1_c5_run {CP : CProg} (e : Env) (t42 : Value) (h : Heap) (Q : Post) : RunR CP (c12_r1_c5 e t42) h Q ↔ RunR CP (
  .op (.mv t42) fun t43 =>
  .opg t43 false (.fieldAddr 1 (e 1)) fun t44 =>
  .opg t43 false (.load none t44) fun t45 =>
  .opg t43 false (.fieldAddr 3 (e 1)) fun t46 =>
  .opg t43 false (.load none t46) fun t47 =>
  .opg t43 false (.bin .rem t45 t47) fun t48 =>
  .opg t43 false (.bin .neq t48 (.int .i64 0)) fun t49 =>
  .op (.pick t43 (.bool true) t49) fun t50 =>
  c12_r1_c6 e t50) h Q := Iff.rfl
def c12_r1_c4 (e : Env) (t33 : Value) (t34 : Value) : Reg :=
  .opg t33 false (.load none t34) fun t35 =>
  .opg t33 false (.bin .lss t35 (.int .i64 1)) fun t36 =>
  .op (.pick t33 (.bool true) t36) fun t37 =>
  .op (.mv t37) fun t38 =>
  .opg t38 false (.fieldAddr 3 (e 1)) fun t39 =>
  .opg t38 false (.load none t39) fun t40 =>
  .opg t38 false (.bin .gtr t40 (.int .i64 64)) fun t41 =>
  .op (.pick t38 (.bool true) t41) fun t42 =>
  c12_r1_c5 e t42
theorem c12_r1_c4_run {CP : CProg} (e : Env) (t33 : Value) (t34 : Value) (h : Heap) (Q : Post) : RunR CP (c12_r1_c4 e t33 t34) h Q ↔ RunR CP (
  .opg t33 false (.load none t34) fun t35 =>
  .opg t33 false (.bin .lss t35 (.int .i64 1)) fun t36 =>
  .op (.pick t33 (.bool true) t36) fun t37 =>
  .op (.mv t37) fun t38 =>
  .opg t38 false (.fieldAddr 3 (e 1)) fun t39 =>
  .opg t38 false (.load none t39) fun t40 =>
  .opg t38 false (.bin .gtr t40 (.int .i64 64)) fun t41 =>
  .op (.pick t38 (.bool true) t41) fun t42 =>
  c12_r1_c5 e t42) h Q := Iff.rfl
def c12_r1_c3 (e : Env) (t26 : Value) : Reg :=
  .opg t26 false (.fieldAddr 2 (e 1)) fun t27 =>
  .opg t26 false (.load none t27) fun t28 =>
  .opg t26 false (.fieldAddr 0 (e 1)) fun t29 =>
  .opg t26 false (.load none t29) fun t30 =>
  .opg t26 false (.bin .gtr t28 t30) fun t31 =>
  .op (.pick t26 (.bool true) t31) fun t32 =>
  .op (.mv t32) fun t33 =>
  .opg t33 false (.fieldAddr 3 (e 1)) fun t34 =>
  c12_r1_c4 e t33 t34
theorem c12_r1_c3_run {CP : CProg} (e : Env) (t26 : Value) (h : Heap) (Q : Post) : RunR CP (c12_r1_c3 e t26) h Q ↔ RunR CP (
  .opg t26 false (.fieldAddr 2 (e 1)) fun t27 =>
  .opg t26 false (.load none t27) fun t28 =>
  .opg t26 false (.fieldAddr 0 (e 1)) fun t29 =>
  .opg t26 false (.load none t29) fun t30 =>
  .opg t26 false (.bin .gtr t28 t30) fun t31 =>
  .op (.pick t26 (.bool true) t31) fun t32 =>
  .op (.mv t32) fun t33 =>
  .opg t33 false (.fieldAddr 3 (e 1)) fun t34 =>
  c12_r1_c4 e t33 t34) h Q := Iff.rfl
def c12_r1_c2 (e : Env) (t16 : Value) (t18 : Value) : Reg :=
  .opg t16 false (.bin .gtr t18 (.int .i64 1099511627776)) fun t19 =>
  .op (.pick t16 (.bool true) t19) fun t20 =>
  .op (.mv t20) fun t21 =>
  .opg t21 false (.fieldAddr 2 (e 1)) fun t22 =>
  .opg t21 false (.load none t22) fun t23 =>
  .opg t21 false (.bin .lss t23 (.int .i64 1)) fun t24 =>
  .op (.pick t21 (.bool true) t24) fun t25 =>
  .op (.mv t25) fun t26 =>
  c12_r1_c3 e t26
theorem c12_r1_c2_run {CP : CProg} (e : Env) (t16 : Value) (t18 : Value) (h : Heap) (Q : Post) : RunR CP (c12_r1_c2 e t16 t18) h Q ↔ RunR CP (
  .opg t16 false (.bin .gtr t18 (.int .i64 1099511627776)) fun t19 =>
  .op (.pick t16 (.bool true) t19) fun t20 =>
  .op (.mv t20) fun t21 =>
  .opg t21 false (.fieldAddr 2 (e 1)) fun t22 =>
  .opg t21 false (.load none t22) fun t23 =>
  .opg t21 false (.bin .lss t23 (.int .i64 1)) fun t24 =>
  .op (.pick t21 (.bool true) t24) fun t25 =>
  .op (.mv t25) fun t26 =>
  c12_r1_c3 e t26) h Q := Iff.rfl
def c12_r1_c1 (e : Env) (t10 : Value) : Reg :=
  .op (.mv t10) fun t11 =>
  .opg t11 false (.fieldAddr 1 (e 1)) fun t12 =>
  .opg t11 false (.load none t12) fun t13 =>
  .opg t11 false (.bin .lss t13 (.int .i64 1)) fun t14 =>
  .op (.pick t11 (.bool true) t14) fun t15 =>
  .op (.mv t15) fun t16 =>
  .opg t16 false (.fieldAddr 1 (e 1)) fun t17 =>
  .opg t16 false (.load none t17) fun t18 =>
  c12_r1_c2 e t16 t18
theorem c12_r1_c1_run {CP : CProg} (e : Env) (t10 : Value) (h : Heap) (Q : Post) : RunR CP (c12_r1_c1 e t10) h Q ↔ RunR CP (
  .op (.mv t10) fun t11 =>
  .opg t11 false (.fieldAddr 1 (e 1)) fun t12 =>
  .opg t11 false (.load none t12) fun t13 =>
  .opg t11 false (.bin .lss t13 (.int .i64 1)) fun t14 =>
  .op (.pick t11 (.bool true) t14) fun t15 =>
  .op (.mv t15) fun t16 =>
  .opg t16 false (.fieldAddr 1 (e 1)) fun t17 =>
  .opg t16 false (.load none t17) fun t18 =>
  c12_r1_c2 e t16 t18) h Q := Iff.rfl
def c12_r1 : Env → Reg := fun e =>
  .op (.fieldAddr 0 (e 1)) fun t3 =>
  .op (.load none t3) fun t4 =>
  .op (.bin .lss t4 (.int .i64 1)) fun t5 =>
  .op (.mv t5) fun t6 =>
  .opg t6 false (.fieldAddr 0 (e 1)) fun t7 =>
  .opg t6 false (.load none t7) fun t8 =>
  .opg t6 false (.bin .gtr t8 (.int .i64 2147483648)) fun t9 =>
  .op (.pick t6 (.bool true) t9) fun t10 =>
  c12_r1_c1 e t10
theorem c12_r1_run {CP : CProg} (e : Env) (h : Heap) (Q : Post) : RunR CP (c12_r1 e) h Q ↔ RunR CP (
  .op (.fieldAddr 0 (e 1)) fun t3 =>
  .op (.load none t3) fun t4 =>
  .op (.bin .lss t4 (.int .i64 1)) fun t5 =>
  .op (.mv t5) fun t6 =>
  .opg t6 false (.fieldAddr 0 (e 1)) fun t7 =>
  .opg t6 false (.load none t7) fun t8 =>
  .opg t6 false (.bin .gtr t8 (.int .i64 2147483648)) fun t9 =>
  .op (.pick t6 (.bool true) t9) fun t10 =>
  c12_r1_c1 e t10) h Q := Iff.rfl
def c12_r2 : Env → Reg := fun e =>
  .op (.mv (.bool false)) fun t2 =>
  .done (e.upd 2 t2)
theorem c12_r2_run {CP : CProg} (e : Env) (h : Heap) (Q : Post) : RunR CP (c12_r2 e) h Q ↔ RunR CP (
  .op (.mv (.bool false)) fun t2 =>
  .done (e.upd 2 t2)) h Q := Iff.rfl
def c12_r3 : Env → Reg := fun e =>
  .op (.load (some 9) (e 1)) fun t100 =>
  .snap fun h1 =>
  .op (.call 10 [t100]) fun t101 =>
  .op (.fieldAddr 2 (e 1)) fun t102 =>
  .op (.load none t102) fun t103 =>
  .chk none (some h1) (.load none t102) t103 <|
  .op (.bin .quo (.int .i64 1152921504606846976) t103) fun t104 =>
  .op (.bin .leq t101 t104) fun t105 =>
  .op (.mv t105) fun t2 =>
  .done (e.upd 2 t2)
theorem c12_r3_run {CP : CProg} (e : Env) (h : Heap) (Q : Post) : RunR CP (c12_r3 e) h Q ↔ RunR CP (
  .op (.load (some 9) (e 1)) fun t100 =>
  .snap fun h1 =>
  .op (.call 10 [t100]) fun t101 =>
  .op (.fieldAddr 2 (e 1)) fun t102 =>
  .op (.load none t102) fun t103 =>
  .chk none (some h1) (.load none t102) t103 <|
  .op (.bin .quo (.int .i64 1152921504606846976) t103) fun t104 =>
  .op (.bin .leq t101 t104) fun t105 =>
  .op (.mv t105) fun t2 =>
  .done (e.upd 2 t2)) h Q := Iff.rfl
def c12 : CFn := ⟨(.seq (.region c12_r0) (.seq (.seq (.region c12_r1) (.cond (fun e => e 99) (.seq (.region c12_r2) .ret) .skip)) (.seq (.region c12_r3) .ret))), [.t 2]⟩
def p12 : Pers := ⟨3, [99], 106⟩
-- 13: weighbridge/limiter.Bytes
def c13_r0 : Env → Reg := fun e =>
  .op (.box 24 (e 0)) fun t1 =>
  .op (.mv (.int .i64 0)) fun t2 =>
  .done ((e.upd 1 t1).upd 2 t2)
theorem c13_r0_run {CP : CProg} (e : Env) (h : Heap) (Q : Post) : RunR CP (c13_r0 e) h Q ↔ RunR CP (
  .op (.box 24 (e 0)) fun t1 =>
  .op (.mv (.int .i64 0)) fun t2 =>
  .done ((e.upd 1 t1).upd 2 t2)) h Q := Iff.rfl
def c13_r1_c2 (e : Env) (h2 : Heap) (h4 : Heap) (h8 : Heap) (t12 : Value) : Reg :=
  .op (.fieldAddr 5 (e 1)) fun t13 =>
  .op (.load none t13) fun t14 =>
  .chk none (some h8) (.load none t13) t14 <|
  .chk none (some h4) (.load none t13) t14 <|
  .chk none (some h2) (.load none t13) t14 <|
  .op (.bin .add t14 (.int .i64 1)) fun t15 =>
  .op (.bin .mul (.int .i64 24) t15) fun t16 =>
  .op (.bin .add t12 t16) fun t17 =>
  .op (.mv t17) fun t2 =>
  .done (e.upd 2 t2)
theorem c13_r1_c2_run {CP : CProg} (e : Env) (h2 : Heap) (h4 : Heap) (h8 : Heap) (t12 : Value) (h : Heap) (Q : Post) : RunR CP (c13_r1_c2 e h2 h4 h8 t12) h Q ↔ RunR CP (
  .op (.fieldAddr 5 (e 1)) fun t13 =>
  .op (.load none t13) fun t14 =>
  .chk none (some h8) (.load none t13) t14 <|
  .chk none (some h4) (.load none t13) t14 <|
  .chk none (some h2) (.load none t13) t14 <|
  .op (.bin .add t14 (.int .i64 1)) fun t15 =>
  .op (.bin .mul (.int .i64 24) t15) fun t16 =>
  .op (.bin .add t12 t16) fun t17 =>
  .op (.mv t17) fun t2 =>
  .done (e.upd 2 t2)) h Q := Iff.rfl
def c13_r1_c1 (e : Env) (h2 : Heap) (t5 : Value) (h4 : Heap) (t7 : Value) : Reg :=
  .op (.bin .add t5 t7) fun t8 =>
  .op (.fieldAddr 7 (e 1)) fun t9 =>
  .op (.load none t9) fun t10 =>
  .chk none (some h4) (.load none t9) t10 <|
  .chk none (some h2) (.load none t9) t10 <|
  .snap fun h8 =>
  .op (.call 28 [t10]) fun t11 =>
  .op (.bin .add t8 t11) fun t12 =>
  c13_r1_c2 e h2 h4 h8 t12
theorem c13_r1_c1_run {CP : CProg} (e : Env) (h2 : Heap) (t5 : Value) (h4 : Heap) (t7 : Value) (h : Heap) (Q : Post) : RunR CP (c13_r1_c1 e h2 t5 h4 t7) h Q ↔ RunR CP (
  .op (.bin .add t5 t7) fun t8 =>
  .op (.fieldAddr 7 (e 1)) fun t9 =>
  .op (.load none t9) fun t10 =>
  .chk none (some h4) (.load none t9) t10 <|
  .chk none (some h2) (.load none t9) t10 <|
  .snap fun h8 =>
  .op (.call 28 [t10]) fun t11 =>
  .op (.bin .add t8 t11) fun t12 =>
  c13_r1_c2 e h2 h4 h8 t12) h Q := Iff.rfl
def c13_r1 : Env → Reg := fun e =>
  .op (.fieldAddr 4 (e 1)) fun t3 =>
  .op (.load none t3) fun t4 =>
  .snap fun h2 =>
  .op (.call 26 [t4]) fun t5 =>
  .op (.load (some 9) (e 1)) fun t6 =>
  .chk none (some h2) (.load (some 9) (e 1)) t6 <|
  .snap fun h4 =>
  .op (.call 27 [t6]) fun t7 =>
  c13_r1_c1 e h2 t5 h4 t7
theorem c13_r1_run {CP : CProg} (e : Env) (h : Heap) (Q : Post) : RunR CP (c13_r1 e) h Q ↔ RunR CP (
  .op (.fieldAddr 4 (e 1)) fun t3 =>
  .op (.load none t3) fun t4 =>
  .snap fun h2 =>
  .op (.call 26 [t4]) fun t5 =>
  .op (.load (some 9) (e 1)) fun t6 =>
  .chk none (some h2) (.load (some 9) (e 1)) t6 <|
  .snap fun h4 =>
  .op (.call 27 [t6]) fun t7 =>
  c13_r1_c1 e h2 t5 h4 t7) h Q := Iff.rfl
def c13 : CFn := ⟨(.seq (.region c13_r0) (.seq (.region c13_r1) .ret)), [.t 2]⟩
def p13 : Pers := ⟨3, [], 18⟩
-- 14: weighbridge/weighbridgelaw17.bytes
def c14_r0 : Env → Reg := fun e =>
  .op (.box 24 (e 0)) fun t1 =>
  .op (.mv (.int .i64 0)) fun t2 =>
  .done ((e.upd 1 t1).upd 2 t2)
theorem c14_r0_run {CP : CProg} (e : Env) (h : Heap) (Q : Post) : RunR CP (c14_r0 e) h Q ↔ RunR CP (
  .op (.box 24 (e 0)) fun t1 =>
  .op (.mv (.int .i64 0)) fun t2 =>
  .done ((e.upd 1 t1).upd 2 t2)) h Q := Iff.rfl
def c14_r1_c1 (e : Env) (t7 : Value) (t9 : Value) (t11 : Value) (t13 : Value) : Reg :=
  .op (.bin .mul t11 t13) fun t14 =>
  .op (.mv t7) fun t3 =>
  .op (.mv t9) fun t4 =>
  .op (.mv t14) fun t5 =>
  .done (((e.upd 3 t3).upd 4 t4).upd 5 t5)
theorem c14_r1_c1_run {CP : CProg} (e : Env) (t7 : Value) (t9 : Value) (t11 : Value) (t13 : Value) (h : Heap) (Q : Post) : RunR CP (c14_r1_c1 e t7 t9 t11 t13) h Q ↔ RunR CP (
  .op (.bin .mul t11 t13) fun t14 =>
  .op (.mv t7) fun t3 =>
  .op (.mv t9) fun t4 =>
  .op (.mv t14) fun t5 =>
  .done (((e.upd 3 t3).upd 4 t4).upd 5 t5)) h Q := Iff.rfl
def c14_r1 : Env → Reg := fun e =>
  .op (.fieldAddr 4 (e 1)) fun t6 =>
  .op (.load none t6) fun t7 =>
  .op (.fieldAddr 7 (e 1)) fun t8 =>
  .op (.load none t8) fun t9 =>
  .op (.fieldAddr 5 (e 1)) fun t10 =>
  .op (.load none t10) fun t11 =>
  .op (.fieldAddr 6 (e 1)) fun t12 =>
  .op (.load none t12) fun t13 =>
  c14_r1_c1 e t7 t9 t11 t13
theorem c14_r1_run {CP : CProg} (e : Env) (h : Heap) (Q : Post) : RunR CP (c14_r1 e) h Q ↔ RunR CP (
  .op (.fieldAddr 4 (e 1)) fun t6 =>
  .op (.load none t6) fun t7 =>
  .op (.fieldAddr 7 (e 1)) fun t8 =>
  .op (.load none t8) fun t9 =>
  .op (.fieldAddr 5 (e 1)) fun t10 =>
  .op (.load none t10) fun t11 =>
  .op (.fieldAddr 6 (e 1)) fun t12 =>
  .op (.load none t12) fun t13 =>
  c14_r1_c1 e t7 t9 t11 t13) h Q := Iff.rfl
def c14_r2_c4 (e : Env) (t43 : Value) (t46 : Value) : Reg :=
  .op (.bin .mul (.int .i64 24) t46) fun t47 =>
  .op (.bin .add t43 t47) fun t48 =>
  .op (.mv t48) fun t2 =>
  .done (e.upd 2 t2)
theorem c14_r2_c4_run {CP : CProg} (e : Env) (t43 : Value) (t46 : Value) (h : Heap) (Q : Post) : RunR CP (c14_r2_c4 e t43 t46) h Q ↔ RunR CP (
  .op (.bin .mul (.int .i64 24) t46) fun t47 =>
  .op (.bin .add t43 t47) fun t48 =>
  .op (.mv t48) fun t2 =>
  .done (e.upd 2 t2)) h Q := Iff.rfl
def c14_r2_c3 (e : Env) (t35 : Value) (t38 : Value) : Reg :=
  .op (.bin .mul (.int .i64 4) t38) fun t39 =>
  .op (.bin .add t35 t39) fun t40 =>
  .op (.mv (e 4)) fun t41 =>
  .op (.bin .mul (.int .i64 24) t41) fun t42 =>
  .op (.bin .add t40 t42) fun t43 =>
  .op (.fieldAddr 5 (e 1)) fun t44 =>
  .op (.load none t44) fun t45 =>
  .op (.bin .add t45 (.int .i64 1)) fun t46 =>
  c14_r2_c4 e t43 t46
theorem c14_r2_c3_run {CP : CProg} (e : Env) (t35 : Value) (t38 : Value) (h : Heap) (Q : Post) : RunR CP (c14_r2_c3 e t35 t38) h Q ↔ RunR CP (
  .op (.bin .mul (.int .i64 4) t38) fun t39 =>
  .op (.bin .add t35 t39) fun t40 =>
  .op (.mv (e 4)) fun t41 =>
  .op (.bin .mul (.int .i64 24) t41) fun t42 =>
  .op (.bin .add t40 t42) fun t43 =>
  .op (.fieldAddr 5 (e 1)) fun t44 =>
  .op (.load none t44) fun t45 =>
  .op (.bin .add t45 (.int .i64 1)) fun t46 =>
  c14_r2_c4 e t43 t46) h Q := Iff.rfl
def c14_r2_c2 (e : Env) (t24 : Value) (t27 : Value) (t30 : Value) : Reg :=
  .op (.bin .mul t27 t30) fun t31 =>
  .op (.bin .add t24 t31) fun t32 =>
  .op (.mv (e 4)) fun t33 =>
  .op (.bin .mul t33 (.int .i64 69)) fun t34 =>
  .op (.bin .add t32 t34) fun t35 =>
  .op (.mv (e 4)) fun t36 =>
  .op (.bin .mul (.int .i64 2) t36) fun t37 =>
  .op (.bin .add t37 (.int .i64 1)) fun t38 =>
  c14_r2_c3 e t35 t38
theorem c14_r2_c2_run {CP : CProg} (e : Env) (t24 : Value) (t27 : Value) (t30 : Value) (h : Heap) (Q : Post) : RunR CP (c14_r2_c2 e t24 t27 t30) h Q ↔ RunR CP (
  .op (.bin .mul t27 t30) fun t31 =>
  .op (.bin .add t24 t31) fun t32 =>
  .op (.mv (e 4)) fun t33 =>
  .op (.bin .mul t33 (.int .i64 69)) fun t34 =>
  .op (.bin .add t32 t34) fun t35 =>
  .op (.mv (e 4)) fun t36 =>
  .op (.bin .mul (.int .i64 2) t36) fun t37 =>
  .op (.bin .add t37 (.int .i64 1)) fun t38 =>
  c14_r2_c3 e t35 t38) h Q := Iff.rfl
def c14_r2_c1 (e : Env) (t21 : Value) (t22 : Value) : Reg :=
  .op (.bin .mul (.int .i64 32) t22) fun t23 =>
  .op (.bin .add t21 t23) fun t24 =>
  .op (.fieldAddr 3 (e 1)) fun t25 =>
  .op (.load none t25) fun t26 =>
  .op (.bin .add t26 (.int .i64 1)) fun t27 =>
  .op (.mv (e 5)) fun t28 =>
  .op (.bin .mul (.int .i64 8) t28) fun t29 =>
  .op (.bin .add (.int .i64 16) t29) fun t30 =>
  c14_r2_c2 e t24 t27 t30
theorem c14_r2_c1_run {CP : CProg} (e : Env) (t21 : Value) (t22 : Value) (h : Heap) (Q : Post) : RunR CP (c14_r2_c1 e t21 t22) h Q ↔ RunR CP (
  .op (.bin .mul (.int .i64 32) t22) fun t23 =>
  .op (.bin .add t21 t23) fun t24 =>
  .op (.fieldAddr 3 (e 1)) fun t25 =>
  .op (.load none t25) fun t26 =>
  .op (.bin .add t26 (.int .i64 1)) fun t27 =>
  .op (.mv (e 5)) fun t28 =>
  .op (.bin .mul (.int .i64 8) t28) fun t29 =>
  .op (.bin .add (.int .i64 16) t29) fun t30 =>
  c14_r2_c2 e t24 t27 t30) h Q := Iff.rfl
def c14_r2 : Env → Reg := fun e =>
  .op (.mv (e 3)) fun t15 =>
  .op (.bin .mul t15 (.int .i64 69)) fun t16 =>
  .op (.mv (e 3)) fun t17 =>
  .op (.bin .mul (.int .i64 2) t17) fun t18 =>
  .op (.bin .add t18 (.int .i64 1)) fun t19 =>
  .op (.bin .mul (.int .i64 4) t19) fun t20 =>
  .op (.bin .add t16 t20) fun t21 =>
  .op (.mv (e 3)) fun t22 =>
  c14_r2_c1 e t21 t22
theorem c14_r2_run {CP : CProg} (e : Env) (h : Heap) (Q : Post) : RunR CP (c14_r2 e) h Q ↔ RunR CP (
  .op (.mv (e 3)) fun t15 =>
  .op (.bin .mul t15 (.int .i64 69)) fun t16 =>
  .op (.mv (e 3)) fun t17 =>
  .op (.bin .mul (.int .i64 2) t17) fun t18 =>
  .op (.bin .add t18 (.int .i64 1)) fun t19 =>
  .op (.bin .mul (.int .i64 4) t19) fun t20 =>
  .op (.bin .add t16 t20) fun t21 =>
  .op (.mv (e 3)) fun t22 =>
  c14_r2_c1 e t21 t22) h Q := Iff.rfl
def c14 : CFn := ⟨(.seq (.region c14_r0) (.seq (.region c14_r1) (.seq (.region c14_r2) .ret))), [.t 2]⟩
def p14 : Pers := ⟨6, [], 49⟩
-- 15: weighbridge/weighbridgelaw17.right
def c15_r0 : Env → Reg := fun e =>
  .op (.box 30 (e 0)) fun t1 =>
  .op (.mv (.bool false)) fun t2 =>
  .done ((e.upd 1 t1).upd 2 t2)
theorem c15_r0_run {CP : CProg} (e : Env) (h : Heap) (Q : Post) : RunR CP (c15_r0 e) h Q ↔ RunR CP (
  .op (.box 30 (e 0)) fun t1 =>
  .op (.mv (.bool false)) fun t2 =>
  .done ((e.upd 1 t1).upd 2 t2)) h Q := Iff.rfl
def c15_r1_c4 (e : Env) (t36 : Value) (t37 : Value) : Reg :=
  .opg t36 false (.load none t37) fun t38 =>
  .opg t36 false (.bin .gtr t38 (.int .i64 65536)) fun t39 =>
  .op (.pick t36 (.bool true) t39) fun t40 =>
  .op (.mv t40) fun t41 =>
  .opg t41 false (.fieldAddr 2 (e 1)) fun t42 =>
  .opg t41 false (.load none t42) fun t43 =>
  .opg t41 false (.bin .lss t43 (.int .i64 46)) fun t44 =>
  .op (.pick t41 (.bool true) t44) fun t45 =>
  .done (e.upd 45 t45)
theorem c15_r1_c4_run {CP : CProg} (e : Env) (t36 : Value) (t37 : Value) (h : Heap) (Q : Post) : RunR CP (c15_r1_c4 e t36 t37) h Q ↔ RunR CP (
  .opg t36 false (.load none t37) fun t38 =>
  .opg t36 false (.bin .gtr t38 (.int .i64 65536)) fun t39 =>
  .op (.pick t36 (.bool true) t39) fun t40 =>
  .op (.mv t40) fun t41 =>
  .opg t41 false (.fieldAddr 2 (e 1)) fun t42 =>
  .opg t41 false (.load none t42) fun t43 =>
  .opg t41 false (.bin .lss t43 (.int .i64 46)) fun t44 =>
  .op (.pick t41 (.bool true) t44) fun t45 =>
  .done (e.upd 45 t45)) h Q := Iff.rfl
def c15_r1_c3 (e : Env) (t26 : Value) (t29 : Value) : Reg :=
  .op (.pick t26 (.bool true) t29) fun t30 =>
  .op (.mv t30) fun t31 =>
  .opg t31 false (.fieldAddr 0 (e 1)) fun t32 =>
  .opg t31 false (.load none t32) fun t33 =>
  .opg t31 false (.bin .gtr t33 (.int .i64 4294967296)) fun t34 =>
  .op (.pick t31 (.bool true) t34) fun t35 =>
  .op (.mv t35) fun t36 =>
  .opg t36 false (.fieldAddr 2 (e 1)) fun t37 =>
  c15_r1_c4 e t36 t37
theorem c15_r1_c3_run {CP : CProg} (e : Env) (t26 : Value) (t29 : Value) (h : Heap) (Q : Post) : RunR CP (c15_r1_c3 e t26 t29) h Q ↔ RunR CP (
  .op (.pick t26 (.bool true) t29) fun t30 =>
  .op (.mv t30) fun t31 =>
  .opg t31 false (.fieldAddr 0 (e 1)) fun t32 =>
  .opg t31 false (.load none t32) fun t33 =>
  .opg t31 false (.bin .gtr t33 (.int .i64 4294967296)) fun t34 =>
  .op (.pick t31 (.bool true) t34) fun t35 =>
  .op (.mv t35) fun t36 =>
  .opg t36 false (.fieldAddr 2 (e 1)) fun t37 =>
  c15_r1_c4 e t36 t37) h Q := Iff.rfl
def c15_r1_c2 (e : Env) (t20 : Value) (t21 : Value) : Reg :=
  .opg t20 false (.load none t21) fun t22 =>
  .opg t20 false (.lenSl t22) fun t23 =>
  .opg t20 false (.bin .gtr t23 (.int .i64 8)) fun t24 =>
  .op (.pick t20 (.bool true) t24) fun t25 =>
  .op (.mv t25) fun t26 =>
  .opg t26 false (.fieldAddr 0 (e 1)) fun t27 =>
  .opg t26 false (.load none t27) fun t28 =>
  .opg t26 false (.bin .lss t28 (.int .i64 1)) fun t29 =>
  c15_r1_c3 e t26 t29
theorem c15_r1_c2_run {CP : CProg} (e : Env) (t20 : Value) (t21 : Value) (h : Heap) (Q : Post) : RunR CP (c15_r1_c2 e t20 t21) h Q ↔ RunR CP (
  .opg t20 false (.load none t21) fun t22 =>
  .opg t20 false (.lenSl t22) fun t23 =>
  .opg t20 false (.bin .gtr t23 (.int .i64 8)) fun t24 =>
  .op (.pick t20 (.bool true) t24) fun t25 =>
  .op (.mv t25) fun t26 =>
  .opg t26 false (.fieldAddr 0 (e 1)) fun t27 =>
  .opg t26 false (.load none t27) fun t28 =>
  .opg t26 false (.bin .lss t28 (.int .i64 1)) fun t29 =>
  c15_r1_c3 e t26 t29) h Q := Iff.rfl
def c15_r1_c1 (e : Env) (t13 : Value) : Reg :=
  .op (.mv t13) fun t14 =>
  .opg t14 false (.fieldAddr 3 (e 1)) fun t15 =>
  .opg t14 false (.load none t15) fun t16 =>
  .opg t14 false (.lenSl t16) fun t17 =>
  .opg t14 false (.bin .lss t17 (.int .i64 1)) fun t18 =>
  .op (.pick t14 (.bool true) t18) fun t19 =>
  .op (.mv t19) fun t20 =>
  .opg t20 false (.fieldAddr 3 (e 1)) fun t21 =>
  c15_r1_c2 e t20 t21
theorem c15_r1_c1_run {CP : CProg} (e : Env) (t13 : Value) (h : Heap) (Q : Post) : RunR CP (c15_r1_c1 e t13) h Q ↔ RunR CP (
  .op (.mv t13) fun t14 =>
  .opg t14 false (.fieldAddr 3 (e 1)) fun t15 =>
  .opg t14 false (.load none t15) fun t16 =>
  .opg t14 false (.lenSl t16) fun t17 =>
  .opg t14 false (.bin .lss t17 (.int .i64 1)) fun t18 =>
  .op (.pick t14 (.bool true) t18) fun t19 =>
  .op (.mv t19) fun t20 =>
  .opg t20 false (.fieldAddr 3 (e 1)) fun t21 =>
  c15_r1_c2 e t20 t21) h Q := Iff.rfl
def c15_r1 : Env → Reg := fun e =>
  .op (.fieldAddr 1 (e 1)) fun t6 =>
  .op (.load none t6) fun t7 =>
  .op (.bin .lss t7 (.int .i64 1)) fun t8 =>
  .op (.mv t8) fun t9 =>
  .opg t9 false (.fieldAddr 1 (e 1)) fun t10 =>
  .opg t9 false (.load none t10) fun t11 =>
  .opg t9 false (.bin .gtr t11 (.int .i64 16)) fun t12 =>
  .op (.pick t9 (.bool true) t12) fun t13 =>
  c15_r1_c1 e t13
theorem c15_r1_run {CP : CProg} (e : Env) (h : Heap) (Q : Post) : RunR CP (c15_r1 e) h Q ↔ RunR CP (
  .op (.fieldAddr 1 (e 1)) fun t6 =>
  .op (.load none t6) fun t7 =>
  .op (.bin .lss t7 (.int .i64 1)) fun t8 =>
  .op (.mv t8) fun t9 =>
  .opg t9 false (.fieldAddr 1 (e 1)) fun t10 =>
  .opg t9 false (.load none t10) fun t11 =>
  .opg t9 false (.bin .gtr t11 (.int .i64 16)) fun t12 =>
  .op (.pick t9 (.bool true) t12) fun t13 =>
  c15_r1_c1 e t13) h Q := Iff.rfl
def c15_r2 : Env → Reg := fun e =>
  .op (.mv (.bool false)) fun t2 =>
  .done (e.upd 2 t2)
theorem c15_r2_run {CP : CProg} (e : Env) (h : Heap) (Q : Post) : RunR CP (c15_r2 e) h Q ↔ RunR CP (
  .op (.mv (.bool false)) fun t2 =>
  .done (e.upd 2 t2)) h Q := Iff.rfl
def c15_r3 : Env → Reg := fun e =>
  .op (.fieldAddr 1 (e 1)) fun t46 =>
  .op (.load none t46) fun t47 =>
  .op (.fieldAddr 2 (e 1)) fun t48 =>
  .op (.load none t48) fun t49 =>
  .op (.bin .mul t47 t49) fun t50 =>
  .op (.mv t50) fun t3 =>
  .done (e.upd 3 t3)
theorem c15_r3_run {CP : CProg} (e : Env) (h : Heap) (Q : Post) : RunR CP (c15_r3 e) h Q ↔ RunR CP (
  .op (.fieldAddr 1 (e 1)) fun t46 =>
  .op (.load none t46) fun t47 =>
  .op (.fieldAddr 2 (e 1)) fun t48 =>
  .op (.load none t48) fun t49 =>
  .op (.bin .mul t47 t49) fun t50 =>
  .op (.mv t50) fun t3 =>
  .done (e.upd 3 t3)) h Q := Iff.rfl
def c15_r4 : Env → Reg := fun e =>
  .op (.fieldAddr 3 (e 1)) fun t51 =>
  .op (.load none t51) fun t52 =>
  .op (.lenSl t52) fun t53 =>
  .op (.mv (.int .i64 0)) fun t54 =>
  .done (((e.upd 52 t52).upd 53 t53).upd 54 t54)
theorem c15_r4_run {CP : CProg} (e : Env) (h : Heap) (Q : Post) : RunR CP (c15_r4 e) h Q ↔ RunR CP (
  .op (.fieldAddr 3 (e 1)) fun t51 =>
  .op (.load none t51) fun t52 =>
  .op (.lenSl t52) fun t53 =>
  .op (.mv (.int .i64 0)) fun t54 =>
  .done (((e.upd 52 t52).upd 53 t53).upd 54 t54)) h Q := Iff.rfl
def c15_r5 : Env → Reg := fun e =>
  .op (.bin .lss (e 54) (e 53)) fun t55 =>
  .done (e.upd 55 t55)
theorem c15_r5_run {CP : CProg} (e : Env) (h : Heap) (Q : Post) : RunR CP (c15_r5 e) h Q ↔ RunR CP (
  .op (.bin .lss (e 54) (e 53)) fun t55 =>
  .done (e.upd 55 t55)) h Q := Iff.rfl
def c15_r6 : Env → Reg := fun e =>
  .op (.indexSl 9 (e 52) (e 54)) fun t56 =>
  .op (.load (some 9) t56) fun t57 =>
  .op (.alloc 24 [(.int .i64 0), (.int .i64 0), (.int .i64 0), (.int .i64 0), (.int .i64 0), (.int .i64 0), (.int .i64 0), (.int .i64 0), (.bool false)]) fun t5 =>
  .op (.store 9 t5 t57) fun _ =>
  .done (e.upd 5 t5)
theorem c15_r6_run {CP : CProg} (e : Env) (h : Heap) (Q : Post) : RunR CP (c15_r6 e) h Q ↔ RunR CP (
  .op (.indexSl 9 (e 52) (e 54)) fun t56 =>
  .op (.load (some 9) t56) fun t57 =>
  .op (.alloc 24 [(.int .i64 0), (.int .i64 0), (.int .i64 0), (.int .i64 0), (.int .i64 0), (.int .i64 0), (.int .i64 0), (.int .i64 0), (.bool false)]) fun t5 =>
  .op (.store 9 t5 t57) fun _ =>
  .done (e.upd 5 t5)) h Q := Iff.rfl
def c15_r7_c1 (e : Env) (t61 : Value) (t63 : Value) (t65 : Value) : Reg :=
  .opg t61 false (.bin .mul (.int .i64 81) t65) fun t66 =>
  .opg t61 false (.bin .add (.int .i64 7) t66) fun t67 =>
  .opg t61 false (.bin .lss t63 t67) fun t68 =>
  .op (.pick t61 (.bool true) t68) fun t69 =>
  .done (e.upd 69 t69)
theorem c15_r7_c1_run {CP : CProg} (e : Env) (t61 : Value) (t63 : Value) (t65 : Value) (h : Heap) (Q : Post) : RunR CP (c15_r7_c1 e t61 t63 t65) h Q ↔ RunR CP (
  .opg t61 false (.bin .mul (.int .i64 81) t65) fun t66 =>
  .opg t61 false (.bin .add (.int .i64 7) t66) fun t67 =>
  .opg t61 false (.bin .lss t63 t67) fun t68 =>
  .op (.pick t61 (.bool true) t68) fun t69 =>
  .done (e.upd 69 t69)) h Q := Iff.rfl
def c15_r7 : Env → Reg := fun e =>
  .op (.load (some 9) (e 5)) fun t58 =>
  .op (.call 12 [t58]) fun t59 =>
  .op (.un .not t59) fun t60 =>
  .op (.mv t60) fun t61 =>
  .opg t61 false (.fieldAddr 2 (e 1)) fun t62 =>
  .opg t61 false (.load none t62) fun t63 =>
  .opg t61 false (.fieldAddr 7 (e 5)) fun t64 =>
  .opg t61 false (.load none t64) fun t65 =>
  c15_r7_c1 e t61 t63 t65
theorem c15_r7_run {CP : CProg} (e : Env) (h : Heap) (Q : Post) : RunR CP (c15_r7 e) h Q ↔ RunR CP (
  .op (.load (some 9) (e 5)) fun t58 =>
  .op (.call 12 [t58]) fun t59 =>
  .op (.un .not t59) fun t60 =>
  .op (.mv t60) fun t61 =>
  .opg t61 false (.fieldAddr 2 (e 1)) fun t62 =>
  .opg t61 false (.load none t62) fun t63 =>
  .opg t61 false (.fieldAddr 7 (e 5)) fun t64 =>
  .opg t61 false (.load none t64) fun t65 =>
  c15_r7_c1 e t61 t63 t65) h Q := Iff.rfl
def c15_r8 : Env → Reg := fun e =>
  .op (.mv (.bool false)) fun t2 =>
  .done (e.upd 2 t2)
theorem c15_r8_run {CP : CProg} (e : Env) (h : Heap) (Q : Post) : RunR CP (c15_r8 e) h Q ↔ RunR CP (
  .op (.mv (.bool false)) fun t2 =>
  .done (e.upd 2 t2)) h Q := Iff.rfl
def c15_r9 : Env → Reg := fun e =>
  .op (.mv (e 3)) fun t70 =>
  .op (.load (some 9) (e 5)) fun t71 =>
  .op (.call 14 [t71]) fun t72 =>
  .op (.bin .add t70 t72) fun t73 =>
  .op (.mv t73) fun t3 =>
  .done (e.upd 3 t3)
theorem c15_r9_run {CP : CProg} (e : Env) (h : Heap) (Q : Post) : RunR CP (c15_r9 e) h Q ↔ RunR CP (
  .op (.mv (e 3)) fun t70 =>
  .op (.load (some 9) (e 5)) fun t71 =>
  .op (.call 14 [t71]) fun t72 =>
  .op (.bin .add t70 t72) fun t73 =>
  .op (.mv t73) fun t3 =>
  .done (e.upd 3 t3)) h Q := Iff.rfl
def c15_r10 : Env → Reg := fun e =>
  .op (.bin .add (e 54) (.int .i64 1)) fun t74 =>
  .op (.mv t74) fun t54 =>
  .done (e.upd 54 t54)
theorem c15_r10_run {CP : CProg} (e : Env) (h : Heap) (Q : Post) : RunR CP (c15_r10 e) h Q ↔ RunR CP (
  .op (.bin .add (e 54) (.int .i64 1)) fun t74 =>
  .op (.mv t74) fun t54 =>
  .done (e.upd 54 t54)) h Q := Iff.rfl
def c15_l0 : CC := (.seq (.region c15_r5) (.seq (.cond (fun e => e 55) .skip (.exit 0)) (.seq (.block 1 (.seq (.region c15_r6) (.seq (.seq (.region c15_r7) (.cond (fun e => e 69) (.seq (.region c15_r8) .ret) .skip)) (.region c15_r9)))) (.region c15_r10))))
def c15_r11 : Env → Reg := fun e =>
  .op (.mv (e 3)) fun t75 =>
  .op (.fieldAddr 0 (e 1)) fun t76 =>
  .op (.load none t76) fun t77 =>
  .op (.bin .leq t75 t77) fun t78 =>
  .op (.mv t78) fun t2 =>
  .done (e.upd 2 t2)
theorem c15_r11_run {CP : CProg} (e : Env) (h : Heap) (Q : Post) : RunR CP (c15_r11 e) h Q ↔ RunR CP (
  .op (.mv (e 3)) fun t75 =>
  .op (.fieldAddr 0 (e 1)) fun t76 =>
  .op (.load none t76) fun t77 =>
  .op (.bin .leq t75 t77) fun t78 =>
  .op (.mv t78) fun t2 =>
  .done (e.upd 2 t2)) h Q := Iff.rfl
def c15 : CFn := ⟨(.seq (.region c15_r0) (.seq (.seq (.region c15_r1) (.cond (fun e => e 45) (.seq (.region c15_r2) .ret) .skip)) (.seq (.region c15_r3) (.seq (.seq (.region c15_r4) (.block 0 (.loop c15_l0))) (.seq (.region c15_r11) .ret))))), [.t 2]⟩
def p15 : Pers := ⟨6, [45, 52, 53, 54, 55, 69], 79⟩
-- 16: weighbridge/frame.Right
def c16_r0 : Env → Reg := fun e =>
  .op (.box 33 (e 0)) fun t2 =>
  .op (.mv (.bool false)) fun t4 =>
  .done ((e.upd 2 t2).upd 4 t4)
theorem c16_r0_run {CP : CProg} (e : Env) (h : Heap) (Q : Post) : RunR CP (c16_r0 e) h Q ↔ RunR CP (
  .op (.box 33 (e 0)) fun t2 =>
  .op (.mv (.bool false)) fun t4 =>
  .done ((e.upd 2 t2).upd 4 t4)) h Q := Iff.rfl
def c16_r1 : Env → Reg := fun e =>
  .op (.fieldAddr 1 (e 2)) fun t5 =>
  .op (.load none t5) fun t6 =>
  .op (.bin .lss t6 (.int .i64 0)) fun t7 =>
  .op (.mv t7) fun t8 =>
  .opg t8 false (.fieldAddr 1 (e 2)) fun t9 =>
  .opg t8 false (.load none t9) fun t10 =>
  .opg t8 false (.mv (e 1)) fun t11 =>
  .opg t8 false (.minmax false [t11, (.int .i64 256)]) fun t12 =>
  .opg t8 false (.bin .geq t10 t12) fun t13 =>
  .op (.pick t8 (.bool true) t13) fun t14 =>
  .done (e.upd 14 t14)
theorem c16_r1_run {CP : CProg} (e : Env) (h : Heap) (Q : Post) : RunR CP (c16_r1 e) h Q ↔ RunR CP (
  .op (.fieldAddr 1 (e 2)) fun t5 =>
  .op (.load none t5) fun t6 =>
  .op (.bin .lss t6 (.int .i64 0)) fun t7 =>
  .op (.mv t7) fun t8 =>
  .opg t8 false (.fieldAddr 1 (e 2)) fun t9 =>
  .opg t8 false (.load none t9) fun t10 =>
  .opg t8 false (.mv (e 1)) fun t11 =>
  .opg t8 false (.minmax false [t11, (.int .i64 256)]) fun t12 =>
  .opg t8 false (.bin .geq t10 t12) fun t13 =>
  .op (.pick t8 (.bool true) t13) fun t14 =>
  .done (e.upd 14 t14)) h Q := Iff.rfl
def c16_r2 : Env → Reg := fun e =>
  .op (.mv (.bool false)) fun t4 =>
  .done (e.upd 4 t4)
theorem c16_r2_run {CP : CProg} (e : Env) (h : Heap) (Q : Post) : RunR CP (c16_r2 e) h Q ↔ RunR CP (
  .op (.mv (.bool false)) fun t4 =>
  .done (e.upd 4 t4)) h Q := Iff.rfl
def c16_r3 : Env → Reg := fun e =>
  .op (.fieldAddr 0 (e 2)) fun t15 =>
  .op (.load none t15) fun t16 =>
  .done (e.upd 16 t16)
theorem c16_r3_run {CP : CProg} (e : Env) (h : Heap) (Q : Post) : RunR CP (c16_r3 e) h Q ↔ RunR CP (
  .op (.fieldAddr 0 (e 2)) fun t15 =>
  .op (.load none t15) fun t16 =>
  .done (e.upd 16 t16)) h Q := Iff.rfl
def c16_r4 : Env → Reg := fun e =>
  .op (.bin .eql (e 16) (.int .i64 1)) fun t18 =>
  .op (.mv t18) fun t17 =>
  .done (e.upd 17 t17)
theorem c16_r4_run {CP : CProg} (e : Env) (h : Heap) (Q : Post) : RunR CP (c16_r4 e) h Q ↔ RunR CP (
  .op (.bin .eql (e 16) (.int .i64 1)) fun t18 =>
  .op (.mv t18) fun t17 =>
  .done (e.upd 17 t17)) h Q := Iff.rfl
def c16_r5 : Env → Reg := fun e =>
  .op (.bin .eql (e 16) (.int .i64 2)) fun t19 =>
  .op (.mv t19) fun t17 =>
  .done (e.upd 17 t17)
theorem c16_r5_run {CP : CProg} (e : Env) (h : Heap) (Q : Post) : RunR CP (c16_r5 e) h Q ↔ RunR CP (
  .op (.bin .eql (e 16) (.int .i64 2)) fun t19 =>
  .op (.mv t19) fun t17 =>
  .done (e.upd 17 t17)) h Q := Iff.rfl
def c16_r6 : Env → Reg := fun e =>
  .op (.fieldAddr 3 (e 2)) fun t20 =>
  .op (.load none t20) fun t21 =>
  .op (.lenStr t21) fun t22 =>
  .op (.bin .leq t22 (.int .i64 64)) fun t23 =>
  .op (.mv t23) fun t24 =>
  .opg t24 true (.fieldAddr 4 (e 2)) fun t25 =>
  .opg t24 true (.load none t25) fun t26 =>
  .opg t24 true (.bin .eql t26 (.int .i64 0)) fun t27 =>
  .op (.pick t24 t27 (.bool false)) fun t28 =>
  .op (.mv t28) fun t4 =>
  .done (e.upd 4 t4)
theorem c16_r6_run {CP : CProg} (e : Env) (h : Heap) (Q : Post) : RunR CP (c16_r6 e) h Q ↔ RunR CP (
  .op (.fieldAddr 3 (e 2)) fun t20 =>
  .op (.load none t20) fun t21 =>
  .op (.lenStr t21) fun t22 =>
  .op (.bin .leq t22 (.int .i64 64)) fun t23 =>
  .op (.mv t23) fun t24 =>
  .opg t24 true (.fieldAddr 4 (e 2)) fun t25 =>
  .opg t24 true (.load none t25) fun t26 =>
  .opg t24 true (.bin .eql t26 (.int .i64 0)) fun t27 =>
  .op (.pick t24 t27 (.bool false)) fun t28 =>
  .op (.mv t28) fun t4 =>
  .done (e.upd 4 t4)) h Q := Iff.rfl
def c16_r7 : Env → Reg := fun e =>
  .op (.bin .eql (e 16) (.int .i64 3)) fun t30 =>
  .op (.mv t30) fun t29 =>
  .done (e.upd 29 t29)
theorem c16_r7_run {CP : CProg} (e : Env) (h : Heap) (Q : Post) : RunR CP (c16_r7 e) h Q ↔ RunR CP (
  .op (.bin .eql (e 16) (.int .i64 3)) fun t30 =>
  .op (.mv t30) fun t29 =>
  .done (e.upd 29 t29)) h Q := Iff.rfl
def c16_r8_c1 (e : Env) (t38 : Value) : Reg :=
  .op (.mv t38) fun t39 =>
  .opg t39 true (.fieldAddr 4 (e 2)) fun t40 =>
  .opg t39 true (.load none t40) fun t41 =>
  .opg t39 true (.bin .eql t41 (.int .i64 0)) fun t42 =>
  .op (.pick t39 t42 (.bool false)) fun t43 =>
  .op (.mv t43) fun t4 =>
  .done (e.upd 4 t4)
theorem c16_r8_c1_run {CP : CProg} (e : Env) (t38 : Value) (h : Heap) (Q : Post) : RunR CP (c16_r8_c1 e t38) h Q ↔ RunR CP (
  .op (.mv t38) fun t39 =>
  .opg t39 true (.fieldAddr 4 (e 2)) fun t40 =>
  .opg t39 true (.load none t40) fun t41 =>
  .opg t39 true (.bin .eql t41 (.int .i64 0)) fun t42 =>
  .op (.pick t39 t42 (.bool false)) fun t43 =>
  .op (.mv t43) fun t4 =>
  .done (e.upd 4 t4)) h Q := Iff.rfl
def c16_r8 : Env → Reg := fun e =>
  .op (.fieldAddr 2 (e 2)) fun t31 =>
  .op (.load none t31) fun t32 =>
  .op (.bin .eql t32 (.int .u32 0)) fun t33 =>
  .op (.mv t33) fun t34 =>
  .opg t34 true (.fieldAddr 3 (e 2)) fun t35 =>
  .opg t34 true (.load none t35) fun t36 =>
  .opg t34 true (.bin .eql t36 (.string ⟨#[]⟩)) fun t37 =>
  .op (.pick t34 t37 (.bool false)) fun t38 =>
  c16_r8_c1 e t38
theorem c16_r8_run {CP : CProg} (e : Env) (h : Heap) (Q : Post) : RunR CP (c16_r8 e) h Q ↔ RunR CP (
  .op (.fieldAddr 2 (e 2)) fun t31 =>
  .op (.load none t31) fun t32 =>
  .op (.bin .eql t32 (.int .u32 0)) fun t33 =>
  .op (.mv t33) fun t34 =>
  .opg t34 true (.fieldAddr 3 (e 2)) fun t35 =>
  .opg t34 true (.load none t35) fun t36 =>
  .opg t34 true (.bin .eql t36 (.string ⟨#[]⟩)) fun t37 =>
  .op (.pick t34 t37 (.bool false)) fun t38 =>
  c16_r8_c1 e t38) h Q := Iff.rfl
def c16_r9 : Env → Reg := fun e =>
  .op (.bin .eql (e 16) (.int .i64 4)) fun t45 =>
  .op (.mv t45) fun t44 =>
  .done (e.upd 44 t44)
theorem c16_r9_run {CP : CProg} (e : Env) (h : Heap) (Q : Post) : RunR CP (c16_r9 e) h Q ↔ RunR CP (
  .op (.bin .eql (e 16) (.int .i64 4)) fun t45 =>
  .op (.mv t45) fun t44 =>
  .done (e.upd 44 t44)) h Q := Iff.rfl
def c16_r10_c2 (e : Env) (t59 : Value) (t61 : Value) : Reg :=
  .opg t59 true (.bin .lss t61 (.int .i64 256)) fun t62 =>
  .op (.pick t59 t62 (.bool false)) fun t63 =>
  .op (.mv t63) fun t4 =>
  .done (e.upd 4 t4)
theorem c16_r10_c2_run {CP : CProg} (e : Env) (t59 : Value) (t61 : Value) (h : Heap) (Q : Post) : RunR CP (c16_r10_c2 e t59 t61) h Q ↔ RunR CP (
  .opg t59 true (.bin .lss t61 (.int .i64 256)) fun t62 =>
  .op (.pick t59 t62 (.bool false)) fun t63 =>
  .op (.mv t63) fun t4 =>
  .done (e.upd 4 t4)) h Q := Iff.rfl
def c16_r10_c1 (e : Env) (t53 : Value) : Reg :=
  .op (.mv t53) fun t54 =>
  .opg t54 true (.fieldAddr 4 (e 2)) fun t55 =>
  .opg t54 true (.load none t55) fun t56 =>
  .opg t54 true (.bin .geq t56 (.int .i64 0)) fun t57 =>
  .op (.pick t54 t57 (.bool false)) fun t58 =>
  .op (.mv t58) fun t59 =>
  .opg t59 true (.fieldAddr 4 (e 2)) fun t60 =>
  .opg t59 true (.load none t60) fun t61 =>
  c16_r10_c2 e t59 t61
theorem c16_r10_c1_run {CP : CProg} (e : Env) (t53 : Value) (h : Heap) (Q : Post) : RunR CP (c16_r10_c1 e t53) h Q ↔ RunR CP (
  .op (.mv t53) fun t54 =>
  .opg t54 true (.fieldAddr 4 (e 2)) fun t55 =>
  .opg t54 true (.load none t55) fun t56 =>
  .opg t54 true (.bin .geq t56 (.int .i64 0)) fun t57 =>
  .op (.pick t54 t57 (.bool false)) fun t58 =>
  .op (.mv t58) fun t59 =>
  .opg t59 true (.fieldAddr 4 (e 2)) fun t60 =>
  .opg t59 true (.load none t60) fun t61 =>
  c16_r10_c2 e t59 t61) h Q := Iff.rfl
def c16_r10 : Env → Reg := fun e =>
  .op (.fieldAddr 2 (e 2)) fun t46 =>
  .op (.load none t46) fun t47 =>
  .op (.bin .eql t47 (.int .u32 0)) fun t48 =>
  .op (.mv t48) fun t49 =>
  .opg t49 true (.fieldAddr 3 (e 2)) fun t50 =>
  .opg t49 true (.load none t50) fun t51 =>
  .opg t49 true (.bin .eql t51 (.string ⟨#[]⟩)) fun t52 =>
  .op (.pick t49 t52 (.bool false)) fun t53 =>
  c16_r10_c1 e t53
theorem c16_r10_run {CP : CProg} (e : Env) (h : Heap) (Q : Post) : RunR CP (c16_r10 e) h Q ↔ RunR CP (
  .op (.fieldAddr 2 (e 2)) fun t46 =>
  .op (.load none t46) fun t47 =>
  .op (.bin .eql t47 (.int .u32 0)) fun t48 =>
  .op (.mv t48) fun t49 =>
  .opg t49 true (.fieldAddr 3 (e 2)) fun t50 =>
  .opg t49 true (.load none t50) fun t51 =>
  .opg t49 true (.bin .eql t51 (.string ⟨#[]⟩)) fun t52 =>
  .op (.pick t49 t52 (.bool false)) fun t53 =>
  c16_r10_c1 e t53) h Q := Iff.rfl
def c16_r11 : Env → Reg := fun e =>
  .op (.mv (.bool false)) fun t4 =>
  .done (e.upd 4 t4)
theorem c16_r11_run {CP : CProg} (e : Env) (h : Heap) (Q : Post) : RunR CP (c16_r11 e) h Q ↔ RunR CP (
  .op (.mv (.bool false)) fun t4 =>
  .done (e.upd 4 t4)) h Q := Iff.rfl
def c16 : CFn := ⟨(.seq (.region c16_r0) (.seq (.seq (.region c16_r1) (.cond (fun e => e 14) (.seq (.region c16_r2) .ret) .skip)) (.seq (.seq (.region c16_r3) (.block 0 (.seq (.seq (.region c16_r4) (.cond (fun e => e 17) .skip (.region c16_r5))) (.cond (fun e => e 17) (.seq (.region c16_r6) .ret) (.seq (.region c16_r7) (.cond (fun e => e 29) (.seq (.region c16_r8) .ret) (.seq (.region c16_r9) (.cond (fun e => e 44) (.seq (.region c16_r10) .ret) .skip)))))))) (.seq (.region c16_r11) .ret)))), [.t 4]⟩
def p16 : Pers := ⟨5, [14, 16, 17, 29, 44], 64⟩
-- 17: weighbridge/frame.Largest
def c17_r0 : Env → Reg := fun e =>
  .op (.box 33 (e 0)) fun t2 =>
  .op (.mv (.int .i64 0)) fun t4 =>
  .done ((e.upd 2 t2).upd 4 t4)
theorem c17_r0_run {CP : CProg} (e : Env) (h : Heap) (Q : Post) : RunR CP (c17_r0 e) h Q ↔ RunR CP (
  .op (.box 33 (e 0)) fun t2 =>
  .op (.mv (.int .i64 0)) fun t4 =>
  .done ((e.upd 2 t2).upd 4 t4)) h Q := Iff.rfl
def c17_r1 : Env → Reg := fun e =>
  .op (.fieldAddr 0 (e 2)) fun t5 =>
  .op (.load none t5) fun t6 =>
  .done (e.upd 6 t6)
theorem c17_r1_run {CP : CProg} (e : Env) (h : Heap) (Q : Post) : RunR CP (c17_r1 e) h Q ↔ RunR CP (
  .op (.fieldAddr 0 (e 2)) fun t5 =>
  .op (.load none t5) fun t6 =>
  .done (e.upd 6 t6)) h Q := Iff.rfl
def c17_r2 : Env → Reg := fun e =>
  .op (.bin .eql (e 6) (.int .i64 3)) fun t8 =>
  .op (.mv t8) fun t7 =>
  .done (e.upd 7 t7)
theorem c17_r2_run {CP : CProg} (e : Env) (h : Heap) (Q : Post) : RunR CP (c17_r2 e) h Q ↔ RunR CP (
  .op (.bin .eql (e 6) (.int .i64 3)) fun t8 =>
  .op (.mv t8) fun t7 =>
  .done (e.upd 7 t7)) h Q := Iff.rfl
def c17_r3 : Env → Reg := fun e =>
  .op (.mv (.int .i64 46)) fun t4 =>
  .done (e.upd 4 t4)
theorem c17_r3_run {CP : CProg} (e : Env) (h : Heap) (Q : Post) : RunR CP (c17_r3 e) h Q ↔ RunR CP (
  .op (.mv (.int .i64 46)) fun t4 =>
  .done (e.upd 4 t4)) h Q := Iff.rfl
def c17_r4 : Env → Reg := fun e =>
  .op (.bin .eql (e 6) (.int .i64 4)) fun t10 =>
  .op (.mv t10) fun t9 =>
  .done (e.upd 9 t9)
theorem c17_r4_run {CP : CProg} (e : Env) (h : Heap) (Q : Post) : RunR CP (c17_r4 e) h Q ↔ RunR CP (
  .op (.bin .eql (e 6) (.int .i64 4)) fun t10 =>
  .op (.mv t10) fun t9 =>
  .done (e.upd 9 t9)) h Q := Iff.rfl
def c17_r5 : Env → Reg := fun e =>
  .op (.fieldAddr 4 (e 2)) fun t11 =>
  .op (.load none t11) fun t12 =>
  .op (.minmax true [t12, (.int .i64 1)]) fun t13 =>
  .op (.mv (e 1)) fun t14 =>
  .op (.minmax false [t13, t14]) fun t15 =>
  .op (.bin .mul t15 (.int .i64 81)) fun t16 =>
  .op (.bin .add (.int .i64 7) t16) fun t17 =>
  .op (.mv t17) fun t4 =>
  .done (e.upd 4 t4)
theorem c17_r5_run {CP : CProg} (e : Env) (h : Heap) (Q : Post) : RunR CP (c17_r5 e) h Q ↔ RunR CP (
  .op (.fieldAddr 4 (e 2)) fun t11 =>
  .op (.load none t11) fun t12 =>
  .op (.minmax true [t12, (.int .i64 1)]) fun t13 =>
  .op (.mv (e 1)) fun t14 =>
  .op (.minmax false [t13, t14]) fun t15 =>
  .op (.bin .mul t15 (.int .i64 81)) fun t16 =>
  .op (.bin .add (.int .i64 7) t16) fun t17 =>
  .op (.mv t17) fun t4 =>
  .done (e.upd 4 t4)) h Q := Iff.rfl
def c17_r6 : Env → Reg := fun e =>
  .op (.mv (.int .i64 22)) fun t4 =>
  .done (e.upd 4 t4)
theorem c17_r6_run {CP : CProg} (e : Env) (h : Heap) (Q : Post) : RunR CP (c17_r6 e) h Q ↔ RunR CP (
  .op (.mv (.int .i64 22)) fun t4 =>
  .done (e.upd 4 t4)) h Q := Iff.rfl
def c17 : CFn := ⟨(.seq (.region c17_r0) (.seq (.seq (.region c17_r1) (.block 0 (.seq (.region c17_r2) (.cond (fun e => e 7) (.seq (.region c17_r3) .ret) (.seq (.region c17_r4) (.cond (fun e => e 9) (.seq (.region c17_r5) .ret) .skip)))))) (.seq (.region c17_r6) .ret))), [.t 4]⟩
def p17 : Pers := ⟨5, [6, 7, 9], 18⟩
-- 18: weighbridge/config.Most
def c18_r0 : Env → Reg := fun e =>
  .op (.box 30 (e 0)) fun t1 =>
  .op (.mv (.int .i64 0)) fun t2 =>
  .done ((e.upd 1 t1).upd 2 t2)
theorem c18_r0_run {CP : CProg} (e : Env) (h : Heap) (Q : Post) : RunR CP (c18_r0 e) h Q ↔ RunR CP (
  .op (.box 30 (e 0)) fun t1 =>
  .op (.mv (.int .i64 0)) fun t2 =>
  .done ((e.upd 1 t1).upd 2 t2)) h Q := Iff.rfl
def c18_r1 : Env → Reg := fun e =>
  .op (.mv (.int .i64 6)) fun t3 =>
  .done (e.upd 3 t3)
theorem c18_r1_run {CP : CProg} (e : Env) (h : Heap) (Q : Post) : RunR CP (c18_r1 e) h Q ↔ RunR CP (
  .op (.mv (.int .i64 6)) fun t3 =>
  .done (e.upd 3 t3)) h Q := Iff.rfl
def c18_r2 : Env → Reg := fun e =>
  .op (.fieldAddr 3 (e 1)) fun t8 =>
  .op (.load none t8) fun t9 =>
  .op (.lenSl t9) fun t10 =>
  .op (.mv (.int .i64 0)) fun t11 =>
  .done (((e.upd 9 t9).upd 10 t10).upd 11 t11)
theorem c18_r2_run {CP : CProg} (e : Env) (h : Heap) (Q : Post) : RunR CP (c18_r2 e) h Q ↔ RunR CP (
  .op (.fieldAddr 3 (e 1)) fun t8 =>
  .op (.load none t8) fun t9 =>
  .op (.lenSl t9) fun t10 =>
  .op (.mv (.int .i64 0)) fun t11 =>
  .done (((e.upd 9 t9).upd 10 t10).upd 11 t11)) h Q := Iff.rfl
def c18_r3 : Env → Reg := fun e =>
  .op (.bin .lss (e 11) (e 10)) fun t12 =>
  .done (e.upd 12 t12)
theorem c18_r3_run {CP : CProg} (e : Env) (h : Heap) (Q : Post) : RunR CP (c18_r3 e) h Q ↔ RunR CP (
  .op (.bin .lss (e 11) (e 10)) fun t12 =>
  .done (e.upd 12 t12)) h Q := Iff.rfl
def c18_r4 : Env → Reg := fun e =>
  .op (.indexSl 9 (e 9) (e 11)) fun t13 =>
  .op (.load (some 9) t13) fun t14 =>
  .op (.alloc 24 [(.int .i64 0), (.int .i64 0), (.int .i64 0), (.int .i64 0), (.int .i64 0), (.int .i64 0), (.int .i64 0), (.int .i64 0), (.bool false)]) fun t5 =>
  .op (.store 9 t5 t14) fun _ =>
  .done (e.upd 5 t5)
theorem c18_r4_run {CP : CProg} (e : Env) (h : Heap) (Q : Post) : RunR CP (c18_r4 e) h Q ↔ RunR CP (
  .op (.indexSl 9 (e 9) (e 11)) fun t13 =>
  .op (.load (some 9) t13) fun t14 =>
  .op (.alloc 24 [(.int .i64 0), (.int .i64 0), (.int .i64 0), (.int .i64 0), (.int .i64 0), (.int .i64 0), (.int .i64 0), (.int .i64 0), (.bool false)]) fun t5 =>
  .op (.store 9 t5 t14) fun _ =>
  .done (e.upd 5 t5)) h Q := Iff.rfl
def c18_r5 : Env → Reg := fun e =>
  .op (.build [(.int .i64 0), (.int .i64 0), (.int .i64 0)] [(0, 1, (.int .i64 1)), (1, 1, (.int .i64 3)), (2, 1, (.int .i64 4))]) fun t15 =>
  .op (.mv (.int .i64 0)) fun t16 =>
  .done ((e.upd 15 t15).upd 16 t16)
theorem c18_r5_run {CP : CProg} (e : Env) (h : Heap) (Q : Post) : RunR CP (c18_r5 e) h Q ↔ RunR CP (
  .op (.build [(.int .i64 0), (.int .i64 0), (.int .i64 0)] [(0, 1, (.int .i64 1)), (1, 1, (.int .i64 3)), (2, 1, (.int .i64 4))]) fun t15 =>
  .op (.mv (.int .i64 0)) fun t16 =>
  .done ((e.upd 15 t15).upd 16 t16)) h Q := Iff.rfl
def c18_r6 : Env → Reg := fun e =>
  .op (.bin .lss (e 16) (.int .i64 3)) fun t17 =>
  .done (e.upd 17 t17)
theorem c18_r6_run {CP : CProg} (e : Env) (h : Heap) (Q : Post) : RunR CP (c18_r6 e) h Q ↔ RunR CP (
  .op (.bin .lss (e 16) (.int .i64 3)) fun t17 =>
  .done (e.upd 17 t17)) h Q := Iff.rfl
def c18_r7 : Env → Reg := fun e =>
  .op (.indexAgg 3 1 none (e 15) (e 16)) fun t18 =>
  .op (.mv t18) fun t7 =>
  .done (e.upd 7 t7)
theorem c18_r7_run {CP : CProg} (e : Env) (h : Heap) (Q : Post) : RunR CP (c18_r7 e) h Q ↔ RunR CP (
  .op (.indexAgg 3 1 none (e 15) (e 16)) fun t18 =>
  .op (.mv t18) fun t7 =>
  .done (e.upd 7 t7)) h Q := Iff.rfl
def c18_r8 : Env → Reg := fun e =>
  .op (.mv (e 3)) fun t19 =>
  .op (.mv (e 7)) fun t20 =>
  .op (.fieldAddr 7 (e 5)) fun t21 =>
  .op (.load none t21) fun t22 =>
  .op (.build [(.int .i64 0), (.int .i64 0), (.int .u32 0), (.string ⟨#[]⟩), (.int .i64 0)] [(0, 1, t20), (4, 1, t22)]) fun t23 =>
  .op (.fieldAddr 7 (e 5)) fun t24 =>
  .op (.load none t24) fun t25 =>
  .op (.call 17 [t23, t25]) fun t26 =>
  .op (.minmax true [t19, t26]) fun t27 =>
  .op (.mv t27) fun t3 =>
  .done (e.upd 3 t3)
theorem c18_r8_run {CP : CProg} (e : Env) (h : Heap) (Q : Post) : RunR CP (c18_r8 e) h Q ↔ RunR CP (
  .op (.mv (e 3)) fun t19 =>
  .op (.mv (e 7)) fun t20 =>
  .op (.fieldAddr 7 (e 5)) fun t21 =>
  .op (.load none t21) fun t22 =>
  .op (.build [(.int .i64 0), (.int .i64 0), (.int .u32 0), (.string ⟨#[]⟩), (.int .i64 0)] [(0, 1, t20), (4, 1, t22)]) fun t23 =>
  .op (.fieldAddr 7 (e 5)) fun t24 =>
  .op (.load none t24) fun t25 =>
  .op (.call 17 [t23, t25]) fun t26 =>
  .op (.minmax true [t19, t26]) fun t27 =>
  .op (.mv t27) fun t3 =>
  .done (e.upd 3 t3)) h Q := Iff.rfl
def c18_r9 : Env → Reg := fun e =>
  .op (.bin .add (e 16) (.int .i64 1)) fun t28 =>
  .op (.mv t28) fun t16 =>
  .done (e.upd 16 t16)
theorem c18_r9_run {CP : CProg} (e : Env) (h : Heap) (Q : Post) : RunR CP (c18_r9 e) h Q ↔ RunR CP (
  .op (.bin .add (e 16) (.int .i64 1)) fun t28 =>
  .op (.mv t28) fun t16 =>
  .done (e.upd 16 t16)) h Q := Iff.rfl
def c18_l0 : CC := (.seq (.region c18_r6) (.seq (.cond (fun e => e 17) .skip (.exit 2)) (.seq (.block 3 (.seq (.region c18_r7) (.region c18_r8))) (.region c18_r9))))
def c18_r10 : Env → Reg := fun e =>
  .op (.bin .add (e 11) (.int .i64 1)) fun t29 =>
  .op (.mv t29) fun t11 =>
  .done (e.upd 11 t11)
theorem c18_r10_run {CP : CProg} (e : Env) (h : Heap) (Q : Post) : RunR CP (c18_r10 e) h Q ↔ RunR CP (
  .op (.bin .add (e 11) (.int .i64 1)) fun t29 =>
  .op (.mv t29) fun t11 =>
  .done (e.upd 11 t11)) h Q := Iff.rfl
def c18_l1 : CC := (.seq (.region c18_r3) (.seq (.cond (fun e => e 12) .skip (.exit 0)) (.seq (.block 1 (.seq (.region c18_r4) (.seq (.region c18_r5) (.block 2 (.loop c18_l0))))) (.region c18_r10))))
def c18_r11 : Env → Reg := fun e =>
  .op (.mv (e 3)) fun t30 =>
  .op (.mv t30) fun t2 =>
  .done (e.upd 2 t2)
theorem c18_r11_run {CP : CProg} (e : Env) (h : Heap) (Q : Post) : RunR CP (c18_r11 e) h Q ↔ RunR CP (
  .op (.mv (e 3)) fun t30 =>
  .op (.mv t30) fun t2 =>
  .done (e.upd 2 t2)) h Q := Iff.rfl
def c18 : CFn := ⟨(.seq (.region c18_r0) (.seq (.region c18_r1) (.seq (.seq (.region c18_r2) (.block 0 (.loop c18_l1))) (.seq (.region c18_r11) .ret)))), [.t 2]⟩
def p18 : Pers := ⟨8, [9, 10, 11, 12, 15, 16, 17], 31⟩
-- 19: weighbridge/config.Right
def c19_r0 : Env → Reg := fun e =>
  .op (.box 30 (e 0)) fun t1 =>
  .op (.mv (.bool false)) fun t2 =>
  .done ((e.upd 1 t1).upd 2 t2)
theorem c19_r0_run {CP : CProg} (e : Env) (h : Heap) (Q : Post) : RunR CP (c19_r0 e) h Q ↔ RunR CP (
  .op (.box 30 (e 0)) fun t1 =>
  .op (.mv (.bool false)) fun t2 =>
  .done ((e.upd 1 t1).upd 2 t2)) h Q := Iff.rfl
def c19_r1_c2 (e : Env) (t16 : Value) (t20 : Value) : Reg :=
  .op (.pick t16 (.bool true) t20) fun t21 =>
  .op (.mv t21) fun t22 =>
  .opg t22 false (.fieldAddr 2 (e 1)) fun t23 =>
  .opg t22 false (.load none t23) fun t24 =>
  .opg t22 false (.bin .gtr t24 (.int .i64 65536)) fun t25 =>
  .op (.pick t22 (.bool true) t25) fun t26 =>
  .done (e.upd 26 t26)
theorem c19_r1_c2_run {CP : CProg} (e : Env) (t16 : Value) (t20 : Value) (h : Heap) (Q : Post) : RunR CP (c19_r1_c2 e t16 t20) h Q ↔ RunR CP (
  .op (.pick t16 (.bool true) t20) fun t21 =>
  .op (.mv t21) fun t22 =>
  .opg t22 false (.fieldAddr 2 (e 1)) fun t23 =>
  .opg t22 false (.load none t23) fun t24 =>
  .opg t22 false (.bin .gtr t24 (.int .i64 65536)) fun t25 =>
  .op (.pick t22 (.bool true) t25) fun t26 =>
  .done (e.upd 26 t26)) h Q := Iff.rfl
def c19_r1_c1 (e : Env) (t9 : Value) (t12 : Value) : Reg :=
  .opg t9 false (.call 23 [t12, (.int .i64 8)]) fun t13 =>
  .opg t9 false (.un .not t13) fun t14 =>
  .op (.pick t9 (.bool true) t14) fun t15 =>
  .op (.mv t15) fun t16 =>
  .opg t16 false (.fieldAddr 0 (e 1)) fun t17 =>
  .opg t16 false (.load none t17) fun t18 =>
  .opg t16 false (.call 23 [t18, (.int .i64 4294967296)]) fun t19 =>
  .opg t16 false (.un .not t19) fun t20 =>
  c19_r1_c2 e t16 t20
theorem c19_r1_c1_run {CP : CProg} (e : Env) (t9 : Value) (t12 : Value) (h : Heap) (Q : Post) : RunR CP (c19_r1_c1 e t9 t12) h Q ↔ RunR CP (
  .opg t9 false (.call 23 [t12, (.int .i64 8)]) fun t13 =>
  .opg t9 false (.un .not t13) fun t14 =>
  .op (.pick t9 (.bool true) t14) fun t15 =>
  .op (.mv t15) fun t16 =>
  .opg t16 false (.fieldAddr 0 (e 1)) fun t17 =>
  .opg t16 false (.load none t17) fun t18 =>
  .opg t16 false (.call 23 [t18, (.int .i64 4294967296)]) fun t19 =>
  .opg t16 false (.un .not t19) fun t20 =>
  c19_r1_c2 e t16 t20) h Q := Iff.rfl
def c19_r1 : Env → Reg := fun e =>
  .op (.fieldAddr 1 (e 1)) fun t5 =>
  .op (.load none t5) fun t6 =>
  .op (.call 23 [t6, (.int .i64 16)]) fun t7 =>
  .op (.un .not t7) fun t8 =>
  .op (.mv t8) fun t9 =>
  .opg t9 false (.fieldAddr 3 (e 1)) fun t10 =>
  .opg t9 false (.load none t10) fun t11 =>
  .opg t9 false (.lenSl t11) fun t12 =>
  c19_r1_c1 e t9 t12
theorem c19_r1_run {CP : CProg} (e : Env) (h : Heap) (Q : Post) : RunR CP (c19_r1 e) h Q ↔ RunR CP (
  .op (.fieldAddr 1 (e 1)) fun t5 =>
  .op (.load none t5) fun t6 =>
  .op (.call 23 [t6, (.int .i64 16)]) fun t7 =>
  .op (.un .not t7) fun t8 =>
  .op (.mv t8) fun t9 =>
  .opg t9 false (.fieldAddr 3 (e 1)) fun t10 =>
  .opg t9 false (.load none t10) fun t11 =>
  .opg t9 false (.lenSl t11) fun t12 =>
  c19_r1_c1 e t9 t12) h Q := Iff.rfl
def c19_r2 : Env → Reg := fun e =>
  .op (.mv (.bool false)) fun t2 =>
  .done (e.upd 2 t2)
theorem c19_r2_run {CP : CProg} (e : Env) (h : Heap) (Q : Post) : RunR CP (c19_r2 e) h Q ↔ RunR CP (
  .op (.mv (.bool false)) fun t2 =>
  .done (e.upd 2 t2)) h Q := Iff.rfl
def c19_r3 : Env → Reg := fun e =>
  .op (.fieldAddr 3 (e 1)) fun t27 =>
  .op (.load none t27) fun t28 =>
  .op (.lenSl t28) fun t29 =>
  .op (.mv (.int .i64 0)) fun t30 =>
  .done (((e.upd 28 t28).upd 29 t29).upd 30 t30)
theorem c19_r3_run {CP : CProg} (e : Env) (h : Heap) (Q : Post) : RunR CP (c19_r3 e) h Q ↔ RunR CP (
  .op (.fieldAddr 3 (e 1)) fun t27 =>
  .op (.load none t27) fun t28 =>
  .op (.lenSl t28) fun t29 =>
  .op (.mv (.int .i64 0)) fun t30 =>
  .done (((e.upd 28 t28).upd 29 t29).upd 30 t30)) h Q := Iff.rfl
def c19_r4 : Env → Reg := fun e =>
  .op (.bin .lss (e 30) (e 29)) fun t31 =>
  .done (e.upd 31 t31)
theorem c19_r4_run {CP : CProg} (e : Env) (h : Heap) (Q : Post) : RunR CP (c19_r4 e) h Q ↔ RunR CP (
  .op (.bin .lss (e 30) (e 29)) fun t31 =>
  .done (e.upd 31 t31)) h Q := Iff.rfl
def c19_r5 : Env → Reg := fun e =>
  .op (.indexSl 9 (e 28) (e 30)) fun t32 =>
  .op (.load (some 9) t32) fun t33 =>
  .op (.alloc 24 [(.int .i64 0), (.int .i64 0), (.int .i64 0), (.int .i64 0), (.int .i64 0), (.int .i64 0), (.int .i64 0), (.int .i64 0), (.bool false)]) fun t4 =>
  .op (.store 9 t4 t33) fun _ =>
  .done (e.upd 4 t4)
theorem c19_r5_run {CP : CProg} (e : Env) (h : Heap) (Q : Post) : RunR CP (c19_r5 e) h Q ↔ RunR CP (
  .op (.indexSl 9 (e 28) (e 30)) fun t32 =>
  .op (.load (some 9) t32) fun t33 =>
  .op (.alloc 24 [(.int .i64 0), (.int .i64 0), (.int .i64 0), (.int .i64 0), (.int .i64 0), (.int .i64 0), (.int .i64 0), (.int .i64 0), (.bool false)]) fun t4 =>
  .op (.store 9 t4 t33) fun _ =>
  .done (e.upd 4 t4)) h Q := Iff.rfl
def c19_r6 : Env → Reg := fun e =>
  .op (.load (some 9) (e 4)) fun t34 =>
  .op (.call 11 [t34]) fun t35 =>
  .op (.un .not t35) fun t36 =>
  .done (e.upd 36 t36)
theorem c19_r6_run {CP : CProg} (e : Env) (h : Heap) (Q : Post) : RunR CP (c19_r6 e) h Q ↔ RunR CP (
  .op (.load (some 9) (e 4)) fun t34 =>
  .op (.call 11 [t34]) fun t35 =>
  .op (.un .not t35) fun t36 =>
  .done (e.upd 36 t36)) h Q := Iff.rfl
def c19_r7 : Env → Reg := fun e =>
  .op (.mv (.bool false)) fun t2 =>
  .done (e.upd 2 t2)
theorem c19_r7_run {CP : CProg} (e : Env) (h : Heap) (Q : Post) : RunR CP (c19_r7 e) h Q ↔ RunR CP (
  .op (.mv (.bool false)) fun t2 =>
  .done (e.upd 2 t2)) h Q := Iff.rfl
def c19_r8 : Env → Reg := fun e =>
  .op (.bin .add (e 30) (.int .i64 1)) fun t37 =>
  .op (.mv t37) fun t30 =>
  .done (e.upd 30 t30)
theorem c19_r8_run {CP : CProg} (e : Env) (h : Heap) (Q : Post) : RunR CP (c19_r8 e) h Q ↔ RunR CP (
  .op (.bin .add (e 30) (.int .i64 1)) fun t37 =>
  .op (.mv t37) fun t30 =>
  .done (e.upd 30 t30)) h Q := Iff.rfl
def c19_l0 : CC := (.seq (.region c19_r4) (.seq (.cond (fun e => e 31) .skip (.exit 0)) (.seq (.block 1 (.seq (.region c19_r5) (.seq (.region c19_r6) (.cond (fun e => e 36) (.seq (.region c19_r7) .ret) .skip)))) (.region c19_r8))))
def c19_r9_c1 (e : Env) (t43 : Value) : Reg :=
  .opg t43 true (.load (some 4) (e 1)) fun t44 =>
  .snap fun h7 =>
  .opg t43 true (.call 20 [t44]) fun t45 =>
  .opg t43 true (.fieldAddr 0 (e 1)) fun t46 =>
  .opg t43 true (.load none t46) fun t47 =>
  .chk (some (t43, true)) (some h7) (.load none t46) t47 <|
  .opg t43 true (.bin .leq t45 t47) fun t48 =>
  .op (.pick t43 t48 (.bool false)) fun t49 =>
  .op (.mv t49) fun t2 =>
  .done (e.upd 2 t2)
theorem c19_r9_c1_run {CP : CProg} (e : Env) (t43 : Value) (h : Heap) (Q : Post) : RunR CP (c19_r9_c1 e t43) h Q ↔ RunR CP (
  .opg t43 true (.load (some 4) (e 1)) fun t44 =>
  .snap fun h7 =>
  .opg t43 true (.call 20 [t44]) fun t45 =>
  .opg t43 true (.fieldAddr 0 (e 1)) fun t46 =>
  .opg t43 true (.load none t46) fun t47 =>
  .chk (some (t43, true)) (some h7) (.load none t46) t47 <|
  .opg t43 true (.bin .leq t45 t47) fun t48 =>
  .op (.pick t43 t48 (.bool false)) fun t49 =>
  .op (.mv t49) fun t2 =>
  .done (e.upd 2 t2)) h Q := Iff.rfl
def c19_r9 : Env → Reg := fun e =>
  .op (.fieldAddr 2 (e 1)) fun t38 =>
  .op (.load none t38) fun t39 =>
  .op (.load (some 4) (e 1)) fun t40 =>
  .snap fun h3 =>
  .op (.call 18 [t40]) fun t41 =>
  .chk none none (.load none t38) t39 <|
  .op (.bin .geq t39 t41) fun t42 =>
  .op (.mv t42) fun t43 =>
  c19_r9_c1 e t43
theorem c19_r9_run {CP : CProg} (e : Env) (h : Heap) (Q : Post) : RunR CP (c19_r9 e) h Q ↔ RunR CP (
  .op (.fieldAddr 2 (e 1)) fun t38 =>
  .op (.load none t38) fun t39 =>
  .op (.load (some 4) (e 1)) fun t40 =>
  .snap fun h3 =>
  .op (.call 18 [t40]) fun t41 =>
  .chk none none (.load none t38) t39 <|
  .op (.bin .geq t39 t41) fun t42 =>
  .op (.mv t42) fun t43 =>
  c19_r9_c1 e t43) h Q := Iff.rfl
def c19 : CFn := ⟨(.seq (.region c19_r0) (.seq (.seq (.region c19_r1) (.cond (fun e => e 26) (.seq (.region c19_r2) .ret) .skip)) (.seq (.seq (.region c19_r3) (.block 0 (.loop c19_l0))) (.seq (.region c19_r9) .ret)))), [.t 2]⟩
def p19 : Pers := ⟨5, [26, 28, 29, 30, 31, 36], 50⟩
-- 20: weighbridge/config.Footprint
def c20_r0 : Env → Reg := fun e =>
  .op (.box 30 (e 0)) fun t1 =>
  .op (.mv (.int .i64 0)) fun t2 =>
  .done ((e.upd 1 t1).upd 2 t2)
theorem c20_r0_run {CP : CProg} (e : Env) (h : Heap) (Q : Post) : RunR CP (c20_r0 e) h Q ↔ RunR CP (
  .op (.box 30 (e 0)) fun t1 =>
  .op (.mv (.int .i64 0)) fun t2 =>
  .done ((e.upd 1 t1).upd 2 t2)) h Q := Iff.rfl
def c20_r1 : Env → Reg := fun e =>
  .op (.fieldAddr 1 (e 1)) fun t6 =>
  .op (.load none t6) fun t7 =>
  .op (.fieldAddr 2 (e 1)) fun t8 =>
  .op (.load none t8) fun t9 =>
  .snap fun h4 =>
  .op (.call 29 [t9]) fun t10 =>
  .chk none none (.load none t6) t7 <|
  .op (.bin .mul t7 t10) fun t11 =>
  .op (.mv t11) fun t3 =>
  .done (e.upd 3 t3)
theorem c20_r1_run {CP : CProg} (e : Env) (h : Heap) (Q : Post) : RunR CP (c20_r1 e) h Q ↔ RunR CP (
  .op (.fieldAddr 1 (e 1)) fun t6 =>
  .op (.load none t6) fun t7 =>
  .op (.fieldAddr 2 (e 1)) fun t8 =>
  .op (.load none t8) fun t9 =>
  .snap fun h4 =>
  .op (.call 29 [t9]) fun t10 =>
  .chk none none (.load none t6) t7 <|
  .op (.bin .mul t7 t10) fun t11 =>
  .op (.mv t11) fun t3 =>
  .done (e.upd 3 t3)) h Q := Iff.rfl
def c20_r2 : Env → Reg := fun e =>
  .op (.fieldAddr 3 (e 1)) fun t12 =>
  .op (.load none t12) fun t13 =>
  .op (.lenSl t13) fun t14 =>
  .op (.mv (.int .i64 0)) fun t15 =>
  .done (((e.upd 13 t13).upd 14 t14).upd 15 t15)
theorem c20_r2_run {CP : CProg} (e : Env) (h : Heap) (Q : Post) : RunR CP (c20_r2 e) h Q ↔ RunR CP (
  .op (.fieldAddr 3 (e 1)) fun t12 =>
  .op (.load none t12) fun t13 =>
  .op (.lenSl t13) fun t14 =>
  .op (.mv (.int .i64 0)) fun t15 =>
  .done (((e.upd 13 t13).upd 14 t14).upd 15 t15)) h Q := Iff.rfl
def c20_r3 : Env → Reg := fun e =>
  .op (.bin .lss (e 15) (e 14)) fun t16 =>
  .done (e.upd 16 t16)
theorem c20_r3_run {CP : CProg} (e : Env) (h : Heap) (Q : Post) : RunR CP (c20_r3 e) h Q ↔ RunR CP (
  .op (.bin .lss (e 15) (e 14)) fun t16 =>
  .done (e.upd 16 t16)) h Q := Iff.rfl
def c20_r4 : Env → Reg := fun e =>
  .op (.indexSl 9 (e 13) (e 15)) fun t17 =>
  .op (.load (some 9) t17) fun t18 =>
  .op (.alloc 24 [(.int .i64 0), (.int .i64 0), (.int .i64 0), (.int .i64 0), (.int .i64 0), (.int .i64 0), (.int .i64 0), (.int .i64 0), (.bool false)]) fun t5 =>
  .op (.store 9 t5 t18) fun _ =>
  .done (e.upd 5 t5)
theorem c20_r4_run {CP : CProg} (e : Env) (h : Heap) (Q : Post) : RunR CP (c20_r4 e) h Q ↔ RunR CP (
  .op (.indexSl 9 (e 13) (e 15)) fun t17 =>
  .op (.load (some 9) t17) fun t18 =>
  .op (.alloc 24 [(.int .i64 0), (.int .i64 0), (.int .i64 0), (.int .i64 0), (.int .i64 0), (.int .i64 0), (.int .i64 0), (.int .i64 0), (.bool false)]) fun t5 =>
  .op (.store 9 t5 t18) fun _ =>
  .done (e.upd 5 t5)) h Q := Iff.rfl
def c20_r5 : Env → Reg := fun e =>
  .op (.mv (e 3)) fun t19 =>
  .op (.load (some 9) (e 5)) fun t20 =>
  .op (.call 13 [t20]) fun t21 =>
  .op (.bin .add t19 t21) fun t22 =>
  .op (.mv t22) fun t3 =>
  .done (e.upd 3 t3)
theorem c20_r5_run {CP : CProg} (e : Env) (h : Heap) (Q : Post) : RunR CP (c20_r5 e) h Q ↔ RunR CP (
  .op (.mv (e 3)) fun t19 =>
  .op (.load (some 9) (e 5)) fun t20 =>
  .op (.call 13 [t20]) fun t21 =>
  .op (.bin .add t19 t21) fun t22 =>
  .op (.mv t22) fun t3 =>
  .done (e.upd 3 t3)) h Q := Iff.rfl
def c20_r6 : Env → Reg := fun e =>
  .op (.bin .add (e 15) (.int .i64 1)) fun t23 =>
  .op (.mv t23) fun t15 =>
  .done (e.upd 15 t15)
theorem c20_r6_run {CP : CProg} (e : Env) (h : Heap) (Q : Post) : RunR CP (c20_r6 e) h Q ↔ RunR CP (
  .op (.bin .add (e 15) (.int .i64 1)) fun t23 =>
  .op (.mv t23) fun t15 =>
  .done (e.upd 15 t15)) h Q := Iff.rfl
def c20_l0 : CC := (.seq (.region c20_r3) (.seq (.cond (fun e => e 16) .skip (.exit 0)) (.seq (.block 1 (.seq (.region c20_r4) (.region c20_r5))) (.region c20_r6))))
def c20_r7 : Env → Reg := fun e =>
  .op (.mv (e 3)) fun t24 =>
  .op (.mv t24) fun t2 =>
  .done (e.upd 2 t2)
theorem c20_r7_run {CP : CProg} (e : Env) (h : Heap) (Q : Post) : RunR CP (c20_r7 e) h Q ↔ RunR CP (
  .op (.mv (e 3)) fun t24 =>
  .op (.mv t24) fun t2 =>
  .done (e.upd 2 t2)) h Q := Iff.rfl
def c20 : CFn := ⟨(.seq (.region c20_r0) (.seq (.region c20_r1) (.seq (.seq (.region c20_r2) (.block 0 (.loop c20_l0))) (.seq (.region c20_r7) .ret)))), [.t 2]⟩
def p20 : Pers := ⟨6, [13, 14, 15, 16], 25⟩
-- 21: weighbridge/config.Encode
def c21_r0 : Env → Reg := fun e =>
  .op (.box 30 (e 0)) fun t1 =>
  .op (.mv (.slice none 0 0)) fun t2 =>
  .done ((e.upd 1 t1).upd 2 t2)
theorem c21_r0_run {CP : CProg} (e : Env) (h : Heap) (Q : Post) : RunR CP (c21_r0 e) h Q ↔ RunR CP (
  .op (.box 30 (e 0)) fun t1 =>
  .op (.mv (.slice none 0 0)) fun t2 =>
  .done ((e.upd 1 t1).upd 2 t2)) h Q := Iff.rfl
def c21_r1_c1 (e : Env) (t8 : Value) (t10 : Value) (t12 : Value) (t14 : Value) : Reg :=
  .op (.lenSl t14) fun t15 =>
  .op (.buildSlice 2 4 [(.int .i64 0)] [(0, 1, t8), (1, 1, t10), (2, 1, t12), (3, 1, t15)]) fun t16 =>
  .op (.call 30 [(.slice none 0 0), t16]) fun t17 =>
  .op (.mv t17) fun t3 =>
  .done (e.upd 3 t3)
theorem c21_r1_c1_run {CP : CProg} (e : Env) (t8 : Value) (t10 : Value) (t12 : Value) (t14 : Value) (h : Heap) (Q : Post) : RunR CP (c21_r1_c1 e t8 t10 t12 t14) h Q ↔ RunR CP (
  .op (.lenSl t14) fun t15 =>
  .op (.buildSlice 2 4 [(.int .i64 0)] [(0, 1, t8), (1, 1, t10), (2, 1, t12), (3, 1, t15)]) fun t16 =>
  .op (.call 30 [(.slice none 0 0), t16]) fun t17 =>
  .op (.mv t17) fun t3 =>
  .done (e.upd 3 t3)) h Q := Iff.rfl
def c21_r1 : Env → Reg := fun e =>
  .op (.fieldAddr 0 (e 1)) fun t7 =>
  .op (.load none t7) fun t8 =>
  .op (.fieldAddr 1 (e 1)) fun t9 =>
  .op (.load none t9) fun t10 =>
  .op (.fieldAddr 2 (e 1)) fun t11 =>
  .op (.load none t11) fun t12 =>
  .op (.fieldAddr 3 (e 1)) fun t13 =>
  .op (.load none t13) fun t14 =>
  c21_r1_c1 e t8 t10 t12 t14
theorem c21_r1_run {CP : CProg} (e : Env) (h : Heap) (Q : Post) : RunR CP (c21_r1 e) h Q ↔ RunR CP (
  .op (.fieldAddr 0 (e 1)) fun t7 =>
  .op (.load none t7) fun t8 =>
  .op (.fieldAddr 1 (e 1)) fun t9 =>
  .op (.load none t9) fun t10 =>
  .op (.fieldAddr 2 (e 1)) fun t11 =>
  .op (.load none t11) fun t12 =>
  .op (.fieldAddr 3 (e 1)) fun t13 =>
  .op (.load none t13) fun t14 =>
  c21_r1_c1 e t8 t10 t12 t14) h Q := Iff.rfl
def c21_r2 : Env → Reg := fun e =>
  .op (.fieldAddr 3 (e 1)) fun t18 =>
  .op (.load none t18) fun t19 =>
  .op (.lenSl t19) fun t20 =>
  .op (.mv (.int .i64 0)) fun t21 =>
  .done (((e.upd 19 t19).upd 20 t20).upd 21 t21)
theorem c21_r2_run {CP : CProg} (e : Env) (h : Heap) (Q : Post) : RunR CP (c21_r2 e) h Q ↔ RunR CP (
  .op (.fieldAddr 3 (e 1)) fun t18 =>
  .op (.load none t18) fun t19 =>
  .op (.lenSl t19) fun t20 =>
  .op (.mv (.int .i64 0)) fun t21 =>
  .done (((e.upd 19 t19).upd 20 t20).upd 21 t21)) h Q := Iff.rfl
def c21_r3 : Env → Reg := fun e =>
  .op (.bin .lss (e 21) (e 20)) fun t22 =>
  .done (e.upd 22 t22)
theorem c21_r3_run {CP : CProg} (e : Env) (h : Heap) (Q : Post) : RunR CP (c21_r3 e) h Q ↔ RunR CP (
  .op (.bin .lss (e 21) (e 20)) fun t22 =>
  .done (e.upd 22 t22)) h Q := Iff.rfl
def c21_r4 : Env → Reg := fun e =>
  .op (.indexSl 9 (e 19) (e 21)) fun t23 =>
  .op (.load (some 9) t23) fun t24 =>
  .op (.alloc 24 [(.int .i64 0), (.int .i64 0), (.int .i64 0), (.int .i64 0), (.int .i64 0), (.int .i64 0), (.int .i64 0), (.int .i64 0), (.bool false)]) fun t5 =>
  .op (.store 9 t5 t24) fun _ =>
  .done (e.upd 5 t5)
theorem c21_r4_run {CP : CProg} (e : Env) (h : Heap) (Q : Post) : RunR CP (c21_r4 e) h Q ↔ RunR CP (
  .op (.indexSl 9 (e 19) (e 21)) fun t23 =>
  .op (.load (some 9) t23) fun t24 =>
  .op (.alloc 24 [(.int .i64 0), (.int .i64 0), (.int .i64 0), (.int .i64 0), (.int .i64 0), (.int .i64 0), (.int .i64 0), (.int .i64 0), (.bool false)]) fun t5 =>
  .op (.store 9 t5 t24) fun _ =>
  .done (e.upd 5 t5)) h Q := Iff.rfl
def c21_r5 : Env → Reg := fun e =>
  .op (.mv (.int .i64 0)) fun t6 =>
  .done (e.upd 6 t6)
theorem c21_r5_run {CP : CProg} (e : Env) (h : Heap) (Q : Post) : RunR CP (c21_r5 e) h Q ↔ RunR CP (
  .op (.mv (.int .i64 0)) fun t6 =>
  .done (e.upd 6 t6)) h Q := Iff.rfl
def c21_r6 : Env → Reg := fun e =>
  .op (.fieldAddr 8 (e 5)) fun t25 =>
  .op (.load none t25) fun t26 =>
  .done (e.upd 26 t26)
theorem c21_r6_run {CP : CProg} (e : Env) (h : Heap) (Q : Post) : RunR CP (c21_r6 e) h Q ↔ RunR CP (
  .op (.fieldAddr 8 (e 5)) fun t25 =>
  .op (.load none t25) fun t26 =>
  .done (e.upd 26 t26)) h Q := Iff.rfl
def c21_r7 : Env → Reg := fun e =>
  .op (.mv (.int .i64 1)) fun t6 =>
  .done (e.upd 6 t6)
theorem c21_r7_run {CP : CProg} (e : Env) (h : Heap) (Q : Post) : RunR CP (c21_r7 e) h Q ↔ RunR CP (
  .op (.mv (.int .i64 1)) fun t6 =>
  .done (e.upd 6 t6)) h Q := Iff.rfl
def c21_r8_c2 (e : Env) (t27 : Value) (t29 : Value) (t31 : Value) (t33 : Value) (t35 : Value) (t37 : Value) (t39 : Value) (t41 : Value) (t42 : Value) : Reg :=
  .op (.load none t42) fun t43 =>
  .op (.mv (e 6)) fun t44 =>
  .op (.buildSlice 2 9 [(.int .i64 0)] [(0, 1, t29), (1, 1, t31), (2, 1, t33), (3, 1, t35), (4, 1, t37), (5, 1, t39), (6, 1, t41), (7, 1, t43), (8, 1, t44)]) fun t45 =>
  .op (.call 30 [t27, t45]) fun t46 =>
  .op (.mv t46) fun t3 =>
  .done (e.upd 3 t3)
theorem c21_r8_c2_run {CP : CProg} (e : Env) (t27 : Value) (t29 : Value) (t31 : Value) (t33 : Value) (t35 : Value) (t37 : Value) (t39 : Value) (t41 : Value) (t42 : Value) (h : Heap) (Q : Post) : RunR CP (c21_r8_c2 e t27 t29 t31 t33 t35 t37 t39 t41 t42) h Q ↔ RunR CP (
  .op (.load none t42) fun t43 =>
  .op (.mv (e 6)) fun t44 =>
  .op (.buildSlice 2 9 [(.int .i64 0)] [(0, 1, t29), (1, 1, t31), (2, 1, t33), (3, 1, t35), (4, 1, t37), (5, 1, t39), (6, 1, t41), (7, 1, t43), (8, 1, t44)]) fun t45 =>
  .op (.call 30 [t27, t45]) fun t46 =>
  .op (.mv t46) fun t3 =>
  .done (e.upd 3 t3)) h Q := Iff.rfl
def c21_r8_c1 (e : Env) (t27 : Value) (t29 : Value) (t31 : Value) (t33 : Value) (t34 : Value) : Reg :=
  .op (.load none t34) fun t35 =>
  .op (.fieldAddr 4 (e 5)) fun t36 =>
  .op (.load none t36) fun t37 =>
  .op (.fieldAddr 5 (e 5)) fun t38 =>
  .op (.load none t38) fun t39 =>
  .op (.fieldAddr 6 (e 5)) fun t40 =>
  .op (.load none t40) fun t41 =>
  .op (.fieldAddr 7 (e 5)) fun t42 =>
  c21_r8_c2 e t27 t29 t31 t33 t35 t37 t39 t41 t42
theorem c21_r8_c1_run {CP : CProg} (e : Env) (t27 : Value) (t29 : Value) (t31 : Value) (t33 : Value) (t34 : Value) (h : Heap) (Q : Post) : RunR CP (c21_r8_c1 e t27 t29 t31 t33 t34) h Q ↔ RunR CP (
  .op (.load none t34) fun t35 =>
  .op (.fieldAddr 4 (e 5)) fun t36 =>
  .op (.load none t36) fun t37 =>
  .op (.fieldAddr 5 (e 5)) fun t38 =>
  .op (.load none t38) fun t39 =>
  .op (.fieldAddr 6 (e 5)) fun t40 =>
  .op (.load none t40) fun t41 =>
  .op (.fieldAddr 7 (e 5)) fun t42 =>
  c21_r8_c2 e t27 t29 t31 t33 t35 t37 t39 t41 t42) h Q := Iff.rfl
def c21_r8 : Env → Reg := fun e =>
  .op (.mv (e 3)) fun t27 =>
  .op (.fieldAddr 0 (e 5)) fun t28 =>
  .op (.load none t28) fun t29 =>
  .op (.fieldAddr 1 (e 5)) fun t30 =>
  .op (.load none t30) fun t31 =>
  .op (.fieldAddr 2 (e 5)) fun t32 =>
  .op (.load none t32) fun t33 =>
  .op (.fieldAddr 3 (e 5)) fun t34 =>
  c21_r8_c1 e t27 t29 t31 t33 t34
theorem c21_r8_run {CP : CProg} (e : Env) (h : Heap) (Q : Post) : RunR CP (c21_r8 e) h Q ↔ RunR CP (
  .op (.mv (e 3)) fun t27 =>
  .op (.fieldAddr 0 (e 5)) fun t28 =>
  .op (.load none t28) fun t29 =>
  .op (.fieldAddr 1 (e 5)) fun t30 =>
  .op (.load none t30) fun t31 =>
  .op (.fieldAddr 2 (e 5)) fun t32 =>
  .op (.load none t32) fun t33 =>
  .op (.fieldAddr 3 (e 5)) fun t34 =>
  c21_r8_c1 e t27 t29 t31 t33 t34) h Q := Iff.rfl
def c21_r9 : Env → Reg := fun e =>
  .op (.bin .add (e 21) (.int .i64 1)) fun t47 =>
  .op (.mv t47) fun t21 =>
  .done (e.upd 21 t21)
theorem c21_r9_run {CP : CProg} (e : Env) (h : Heap) (Q : Post) : RunR CP (c21_r9 e) h Q ↔ RunR CP (
  .op (.bin .add (e 21) (.int .i64 1)) fun t47 =>
  .op (.mv t47) fun t21 =>
  .done (e.upd 21 t21)) h Q := Iff.rfl
def c21_l0 : CC := (.seq (.region c21_r3) (.seq (.cond (fun e => e 22) .skip (.exit 0)) (.seq (.block 1 (.seq (.region c21_r4) (.seq (.region c21_r5) (.seq (.seq (.region c21_r6) (.cond (fun e => e 26) (.region c21_r7) .skip)) (.region c21_r8))))) (.region c21_r9))))
def c21_r10 : Env → Reg := fun e =>
  .op (.mv (e 3)) fun t48 =>
  .op (.mv t48) fun t2 =>
  .done (e.upd 2 t2)
theorem c21_r10_run {CP : CProg} (e : Env) (h : Heap) (Q : Post) : RunR CP (c21_r10 e) h Q ↔ RunR CP (
  .op (.mv (e 3)) fun t48 =>
  .op (.mv t48) fun t2 =>
  .done (e.upd 2 t2)) h Q := Iff.rfl
def c21 : CFn := ⟨(.seq (.region c21_r0) (.seq (.region c21_r1) (.seq (.seq (.region c21_r2) (.block 0 (.loop c21_l0))) (.seq (.region c21_r10) .ret)))), [.t 2]⟩
def p21 : Pers := ⟨7, [19, 20, 21, 22, 26], 49⟩
-- 22: weighbridge/config.Decode
def c22_r0 : Env → Reg := fun e =>
  .op (.box 40 (e 0)) fun t1 =>
  .op (.alloc 30 [(.int .i64 0), (.int .i64 0), (.int .i64 0), (.slice none 0 0)]) fun t2 =>
  .op (.mv (.int .i64 0)) fun t3 =>
  .done (((e.upd 1 t1).upd 2 t2).upd 3 t3)
theorem c22_r0_run {CP : CProg} (e : Env) (h : Heap) (Q : Post) : RunR CP (c22_r0 e) h Q ↔ RunR CP (
  .op (.box 40 (e 0)) fun t1 =>
  .op (.alloc 30 [(.int .i64 0), (.int .i64 0), (.int .i64 0), (.slice none 0 0)]) fun t2 =>
  .op (.mv (.int .i64 0)) fun t3 =>
  .done (((e.upd 1 t1).upd 2 t2).upd 3 t3)) h Q := Iff.rfl
def c22_r1_c1 (e : Env) (t12 : Value) (t16 : Value) : Reg :=
  .opg t12 false (.bin .neq t16 (.int .i64 0)) fun t17 =>
  .op (.pick t12 (.bool true) t17) fun t18 =>
  .op (.mv t18) fun t19 =>
  .opg t19 false (.load none (e 1)) fun t20 =>
  .opg t19 false (.lenSl t20) fun t21 =>
  .opg t19 false (.bin .gtr t21 (.int .i64 608)) fun t22 =>
  .op (.pick t19 (.bool true) t22) fun t23 =>
  .done (e.upd 23 t23)
theorem c22_r1_c1_run {CP : CProg} (e : Env) (t12 : Value) (t16 : Value) (h : Heap) (Q : Post) : RunR CP (c22_r1_c1 e t12 t16) h Q ↔ RunR CP (
  .opg t12 false (.bin .neq t16 (.int .i64 0)) fun t17 =>
  .op (.pick t12 (.bool true) t17) fun t18 =>
  .op (.mv t18) fun t19 =>
  .opg t19 false (.load none (e 1)) fun t20 =>
  .opg t19 false (.lenSl t20) fun t21 =>
  .opg t19 false (.bin .gtr t21 (.int .i64 608)) fun t22 =>
  .op (.pick t19 (.bool true) t22) fun t23 =>
  .done (e.upd 23 t23)) h Q := Iff.rfl
def c22_r1 : Env → Reg := fun e =>
  .op (.load none (e 1)) fun t9 =>
  .op (.lenSl t9) fun t10 =>
  .op (.bin .lss t10 (.int .i64 32)) fun t11 =>
  .op (.mv t11) fun t12 =>
  .opg t12 false (.load none (e 1)) fun t13 =>
  .opg t12 false (.lenSl t13) fun t14 =>
  .opg t12 false (.bin .sub t14 (.int .i64 32)) fun t15 =>
  .opg t12 false (.bin .rem t15 (.int .i64 72)) fun t16 =>
  c22_r1_c1 e t12 t16
theorem c22_r1_run {CP : CProg} (e : Env) (h : Heap) (Q : Post) : RunR CP (c22_r1 e) h Q ↔ RunR CP (
  .op (.load none (e 1)) fun t9 =>
  .op (.lenSl t9) fun t10 =>
  .op (.bin .lss t10 (.int .i64 32)) fun t11 =>
  .op (.mv t11) fun t12 =>
  .opg t12 false (.load none (e 1)) fun t13 =>
  .opg t12 false (.lenSl t13) fun t14 =>
  .opg t12 false (.bin .sub t14 (.int .i64 32)) fun t15 =>
  .opg t12 false (.bin .rem t15 (.int .i64 72)) fun t16 =>
  c22_r1_c1 e t12 t16) h Q := Iff.rfl
def c22_r2 : Env → Reg := fun e =>
  .op (.build [(.int .i64 0), (.int .i64 0), (.int .i64 0), (.slice none 0 0)] []) fun t24 =>
  .op (.store 4 (e 2) t24) fun _ =>
  .op (.mv (.int .i64 3)) fun t3 =>
  .done (e.upd 3 t3)
theorem c22_r2_run {CP : CProg} (e : Env) (h : Heap) (Q : Post) : RunR CP (c22_r2 e) h Q ↔ RunR CP (
  .op (.build [(.int .i64 0), (.int .i64 0), (.int .i64 0), (.slice none 0 0)] []) fun t24 =>
  .op (.store 4 (e 2) t24) fun _ =>
  .op (.mv (.int .i64 3)) fun t3 =>
  .done (e.upd 3 t3)) h Q := Iff.rfl
def c22_r3 : Env → Reg := fun e =>
  .op (.alloc 3 [(.int .i64 0)]) fun t4 =>
  .op (.store 1 t4 (.int .i64 0)) fun _ =>
  .done (e.upd 4 t4)
theorem c22_r3_run {CP : CProg} (e : Env) (h : Heap) (Q : Post) : RunR CP (c22_r3 e) h Q ↔ RunR CP (
  .op (.alloc 3 [(.int .i64 0)]) fun t4 =>
  .op (.store 1 t4 (.int .i64 0)) fun _ =>
  .done (e.upd 4 t4)) h Q := Iff.rfl
def c22_r4 : Env → Reg := fun e =>
  .op (.makeFunc 31 [] [(e 1), (e 4)]) fun t25 =>
  .op (.mv t25) fun t5 =>
  .done (e.upd 5 t5)
theorem c22_r4_run {CP : CProg} (e : Env) (h : Heap) (Q : Post) : RunR CP (c22_r4 e) h Q ↔ RunR CP (
  .op (.makeFunc 31 [] [(e 1), (e 4)]) fun t25 =>
  .op (.mv t25) fun t5 =>
  .done (e.upd 5 t5)) h Q := Iff.rfl
def c22_r5 : Env → Reg := fun e =>
  .op (.mv (e 5)) fun t26 =>
  .op (.callv t26 []) fun t27 =>
  .op (.mv (e 5)) fun t28 =>
  .op (.callv t28 []) fun t29 =>
  .op (.mv (e 5)) fun t30 =>
  .op (.callv t30 []) fun t31 =>
  .op (.build [(.int .i64 0), (.int .i64 0), (.int .i64 0), (.slice none 0 0)] [(0, 1, t27), (1, 1, t29), (2, 1, t31)]) fun t32 =>
  .op (.alloc 30 [(.int .i64 0), (.int .i64 0), (.int .i64 0), (.slice none 0 0)]) fun t6 =>
  .op (.store 4 t6 t32) fun _ =>
  .done (e.upd 6 t6)
theorem c22_r5_run {CP : CProg} (e : Env) (h : Heap) (Q : Post) : RunR CP (c22_r5 e) h Q ↔ RunR CP (
  .op (.mv (e 5)) fun t26 =>
  .op (.callv t26 []) fun t27 =>
  .op (.mv (e 5)) fun t28 =>
  .op (.callv t28 []) fun t29 =>
  .op (.mv (e 5)) fun t30 =>
  .op (.callv t30 []) fun t31 =>
  .op (.build [(.int .i64 0), (.int .i64 0), (.int .i64 0), (.slice none 0 0)] [(0, 1, t27), (1, 1, t29), (2, 1, t31)]) fun t32 =>
  .op (.alloc 30 [(.int .i64 0), (.int .i64 0), (.int .i64 0), (.slice none 0 0)]) fun t6 =>
  .op (.store 4 t6 t32) fun _ =>
  .done (e.upd 6 t6)) h Q := Iff.rfl
def c22_r6 : Env → Reg := fun e =>
  .op (.mv (e 5)) fun t33 =>
  .snap fun h1 =>
  .op (.callv t33 []) fun t34 =>
  .op (.load none (e 1)) fun t35 =>
  .chk none (some h1) (.load none (e 1)) t35 <|
  .op (.lenSl t35) fun t36 =>
  .op (.bin .sub t36 (.int .i64 32)) fun t37 =>
  .op (.bin .quo t37 (.int .i64 72)) fun t38 =>
  .op (.bin .neq t34 t38) fun t39 =>
  .done (e.upd 39 t39)
theorem c22_r6_run {CP : CProg} (e : Env) (h : Heap) (Q : Post) : RunR CP (c22_r6 e) h Q ↔ RunR CP (
  .op (.mv (e 5)) fun t33 =>
  .snap fun h1 =>
  .op (.callv t33 []) fun t34 =>
  .op (.load none (e 1)) fun t35 =>
  .chk none (some h1) (.load none (e 1)) t35 <|
  .op (.lenSl t35) fun t36 =>
  .op (.bin .sub t36 (.int .i64 32)) fun t37 =>
  .op (.bin .quo t37 (.int .i64 72)) fun t38 =>
  .op (.bin .neq t34 t38) fun t39 =>
  .done (e.upd 39 t39)) h Q := Iff.rfl
def c22_r7 : Env → Reg := fun e =>
  .op (.build [(.int .i64 0), (.int .i64 0), (.int .i64 0), (.slice none 0 0)] []) fun t40 =>
  .op (.store 4 (e 2) t40) fun _ =>
  .op (.mv (.int .i64 3)) fun t3 =>
  .done (e.upd 3 t3)
theorem c22_r7_run {CP : CProg} (e : Env) (h : Heap) (Q : Post) : RunR CP (c22_r7 e) h Q ↔ RunR CP (
  .op (.build [(.int .i64 0), (.int .i64 0), (.int .i64 0), (.slice none 0 0)] []) fun t40 =>
  .op (.store 4 (e 2) t40) fun _ =>
  .op (.mv (.int .i64 3)) fun t3 =>
  .done (e.upd 3 t3)) h Q := Iff.rfl
def c22_r8 : Env → Reg := fun e =>
  .op (.load none (e 4)) fun t41 =>
  .op (.load none (e 1)) fun t42 =>
  .op (.lenSl t42) fun t43 =>
  .op (.bin .lss t41 t43) fun t44 =>
  .done (e.upd 44 t44)
theorem c22_r8_run {CP : CProg} (e : Env) (h : Heap) (Q : Post) : RunR CP (c22_r8 e) h Q ↔ RunR CP (
  .op (.load none (e 4)) fun t41 =>
  .op (.load none (e 1)) fun t42 =>
  .op (.lenSl t42) fun t43 =>
  .op (.bin .lss t41 t43) fun t44 =>
  .done (e.upd 44 t44)) h Q := Iff.rfl
def c22_r9_c2 (e : Env) (t46 : Value) (t48 : Value) (t50 : Value) (t52 : Value) (t54 : Value) (t56 : Value) (t58 : Value) (t60 : Value) : Reg :=
  .op (.build [(.int .i64 0), (.int .i64 0), (.int .i64 0), (.int .i64 0), (.int .i64 0), (.int .i64 0), (.int .i64 0), (.int .i64 0), (.bool false)] [(0, 1, t46), (1, 1, t48), (2, 1, t50), (3, 1, t52), (4, 1, t54), (5, 1, t56), (6, 1, t58), (7, 1, t60)]) fun t61 =>
  .op (.alloc 24 [(.int .i64 0), (.int .i64 0), (.int .i64 0), (.int .i64 0), (.int .i64 0), (.int .i64 0), (.int .i64 0), (.int .i64 0), (.bool false)]) fun t7 =>
  .op (.store 9 t7 t61) fun _ =>
  .done (e.upd 7 t7)
theorem c22_r9_c2_run {CP : CProg} (e : Env) (t46 : Value) (t48 : Value) (t50 : Value) (t52 : Value) (t54 : Value) (t56 : Value) (t58 : Value) (t60 : Value) (h : Heap) (Q : Post) : RunR CP (c22_r9_c2 e t46 t48 t50 t52 t54 t56 t58 t60) h Q ↔ RunR CP (
  .op (.build [(.int .i64 0), (.int .i64 0), (.int .i64 0), (.int .i64 0), (.int .i64 0), (.int .i64 0), (.int .i64 0), (.int .i64 0), (.bool false)] [(0, 1, t46), (1, 1, t48), (2, 1, t50), (3, 1, t52), (4, 1, t54), (5, 1, t56), (6, 1, t58), (7, 1, t60)]) fun t61 =>
  .op (.alloc 24 [(.int .i64 0), (.int .i64 0), (.int .i64 0), (.int .i64 0), (.int .i64 0), (.int .i64 0), (.int .i64 0), (.int .i64 0), (.bool false)]) fun t7 =>
  .op (.store 9 t7 t61) fun _ =>
  .done (e.upd 7 t7)) h Q := Iff.rfl
def c22_r9_c1 (e : Env) (t46 : Value) (t48 : Value) (t50 : Value) (t52 : Value) : Reg :=
  .op (.mv (e 5)) fun t53 =>
  .op (.callv t53 []) fun t54 =>
  .op (.mv (e 5)) fun t55 =>
  .op (.callv t55 []) fun t56 =>
  .op (.mv (e 5)) fun t57 =>
  .op (.callv t57 []) fun t58 =>
  .op (.mv (e 5)) fun t59 =>
  .op (.callv t59 []) fun t60 =>
  c22_r9_c2 e t46 t48 t50 t52 t54 t56 t58 t60
theorem c22_r9_c1_run {CP : CProg} (e : Env) (t46 : Value) (t48 : Value) (t50 : Value) (t52 : Value) (h : Heap) (Q : Post) : RunR CP (c22_r9_c1 e t46 t48 t50 t52) h Q ↔ RunR CP (
  .op (.mv (e 5)) fun t53 =>
  .op (.callv t53 []) fun t54 =>
  .op (.mv (e 5)) fun t55 =>
  .op (.callv t55 []) fun t56 =>
  .op (.mv (e 5)) fun t57 =>
  .op (.callv t57 []) fun t58 =>
  .op (.mv (e 5)) fun t59 =>
  .op (.callv t59 []) fun t60 =>
  c22_r9_c2 e t46 t48 t50 t52 t54 t56 t58 t60) h Q := Iff.rfl
def c22_r9 : Env → Reg := fun e =>
  .op (.mv (e 5)) fun t45 =>
  .op (.callv t45 []) fun t46 =>
  .op (.mv (e 5)) fun t47 =>
  .op (.callv t47 []) fun t48 =>
  .op (.mv (e 5)) fun t49 =>
  .op (.callv t49 []) fun t50 =>
  .op (.mv (e 5)) fun t51 =>
  .op (.callv t51 []) fun t52 =>
  c22_r9_c1 e t46 t48 t50 t52
theorem c22_r9_run {CP : CProg} (e : Env) (h : Heap) (Q : Post) : RunR CP (c22_r9 e) h Q ↔ RunR CP (
  .op (.mv (e 5)) fun t45 =>
  .op (.callv t45 []) fun t46 =>
  .op (.mv (e 5)) fun t47 =>
  .op (.callv t47 []) fun t48 =>
  .op (.mv (e 5)) fun t49 =>
  .op (.callv t49 []) fun t50 =>
  .op (.mv (e 5)) fun t51 =>
  .op (.callv t51 []) fun t52 =>
  c22_r9_c1 e t46 t48 t50 t52) h Q := Iff.rfl
def c22_r10 : Env → Reg := fun e =>
  .op (.mv (e 5)) fun t62 =>
  .op (.callv t62 []) fun t63 =>
  .op (.mv t63) fun t8 =>
  .done (e.upd 8 t8)
theorem c22_r10_run {CP : CProg} (e : Env) (h : Heap) (Q : Post) : RunR CP (c22_r10 e) h Q ↔ RunR CP (
  .op (.mv (e 5)) fun t62 =>
  .op (.callv t62 []) fun t63 =>
  .op (.mv t63) fun t8 =>
  .done (e.upd 8 t8)) h Q := Iff.rfl
def c22_r11 : Env → Reg := fun e =>
  .op (.mv (e 8)) fun t64 =>
  .op (.bin .neq t64 (.int .i64 0)) fun t65 =>
  .op (.mv t65) fun t66 =>
  .opg t66 true (.mv (e 8)) fun t67 =>
  .opg t66 true (.bin .neq t67 (.int .i64 1)) fun t68 =>
  .op (.pick t66 t68 (.bool false)) fun t69 =>
  .done (e.upd 69 t69)
theorem c22_r11_run {CP : CProg} (e : Env) (h : Heap) (Q : Post) : RunR CP (c22_r11 e) h Q ↔ RunR CP (
  .op (.mv (e 8)) fun t64 =>
  .op (.bin .neq t64 (.int .i64 0)) fun t65 =>
  .op (.mv t65) fun t66 =>
  .opg t66 true (.mv (e 8)) fun t67 =>
  .opg t66 true (.bin .neq t67 (.int .i64 1)) fun t68 =>
  .op (.pick t66 t68 (.bool false)) fun t69 =>
  .done (e.upd 69 t69)) h Q := Iff.rfl
def c22_r12 : Env → Reg := fun e =>
  .op (.build [(.int .i64 0), (.int .i64 0), (.int .i64 0), (.slice none 0 0)] []) fun t70 =>
  .op (.store 4 (e 2) t70) fun _ =>
  .op (.mv (.int .i64 3)) fun t3 =>
  .done (e.upd 3 t3)
theorem c22_r12_run {CP : CProg} (e : Env) (h : Heap) (Q : Post) : RunR CP (c22_r12 e) h Q ↔ RunR CP (
  .op (.build [(.int .i64 0), (.int .i64 0), (.int .i64 0), (.slice none 0 0)] []) fun t70 =>
  .op (.store 4 (e 2) t70) fun _ =>
  .op (.mv (.int .i64 3)) fun t3 =>
  .done (e.upd 3 t3)) h Q := Iff.rfl
def c22_r13 : Env → Reg := fun e =>
  .op (.mv (e 8)) fun t71 =>
  .op (.bin .eql t71 (.int .i64 1)) fun t72 =>
  .op (.fieldAddr 8 (e 7)) fun t73 =>
  .op (.store 1 t73 t72) fun _ =>
  .done e
theorem c22_r13_run {CP : CProg} (e : Env) (h : Heap) (Q : Post) : RunR CP (c22_r13 e) h Q ↔ RunR CP (
  .op (.mv (e 8)) fun t71 =>
  .op (.bin .eql t71 (.int .i64 1)) fun t72 =>
  .op (.fieldAddr 8 (e 7)) fun t73 =>
  .op (.store 1 t73 t72) fun _ =>
  .done e) h Q := Iff.rfl
def c22_r14 : Env → Reg := fun e =>
  .op (.fieldAddr 3 (e 6)) fun t74 =>
  .op (.load none t74) fun t75 =>
  .op (.load (some 9) (e 7)) fun t76 =>
  .op (.buildSlice 24 1 [(.int .i64 0), (.int .i64 0), (.int .i64 0), (.int .i64 0), (.int .i64 0), (.int .i64 0), (.int .i64 0), (.int .i64 0), (.bool false)] [(0, 9, t76)]) fun t77 =>
  .op (.append 24 9 72 t75 t77) fun t78 =>
  .op (.fieldAddr 3 (e 6)) fun t79 =>
  .op (.store 1 t79 t78) fun _ =>
  .done e
theorem c22_r14_run {CP : CProg} (e : Env) (h : Heap) (Q : Post) : RunR CP (c22_r14 e) h Q ↔ RunR CP (
  .op (.fieldAddr 3 (e 6)) fun t74 =>
  .op (.load none t74) fun t75 =>
  .op (.load (some 9) (e 7)) fun t76 =>
  .op (.buildSlice 24 1 [(.int .i64 0), (.int .i64 0), (.int .i64 0), (.int .i64 0), (.int .i64 0), (.int .i64 0), (.int .i64 0), (.int .i64 0), (.bool false)] [(0, 9, t76)]) fun t77 =>
  .op (.append 24 9 72 t75 t77) fun t78 =>
  .op (.fieldAddr 3 (e 6)) fun t79 =>
  .op (.store 1 t79 t78) fun _ =>
  .done e) h Q := Iff.rfl
def c22_l0 : CC := (.seq (.seq (.region c22_r8) (.cond (fun e => e 44) .skip (.exit 0))) (.block 1 (.seq (.region c22_r9) (.seq (.region c22_r10) (.seq (.seq (.region c22_r11) (.cond (fun e => e 69) (.seq (.region c22_r12) .ret) .skip)) (.seq (.region c22_r13) (.region c22_r14)))))))
def c22_r15 : Env → Reg := fun e =>
  .op (.load (some 4) (e 6)) fun t80 =>
  .op (.call 19 [t80]) fun t81 =>
  .op (.un .not t81) fun t82 =>
  .done (e.upd 82 t82)
theorem c22_r15_run {CP : CProg} (e : Env) (h : Heap) (Q : Post) : RunR CP (c22_r15 e) h Q ↔ RunR CP (
  .op (.load (some 4) (e 6)) fun t80 =>
  .op (.call 19 [t80]) fun t81 =>
  .op (.un .not t81) fun t82 =>
  .done (e.upd 82 t82)) h Q := Iff.rfl
def c22_r16 : Env → Reg := fun e =>
  .op (.build [(.int .i64 0), (.int .i64 0), (.int .i64 0), (.slice none 0 0)] []) fun t83 =>
  .op (.store 4 (e 2) t83) fun _ =>
  .op (.mv (.int .i64 3)) fun t3 =>
  .done (e.upd 3 t3)
theorem c22_r16_run {CP : CProg} (e : Env) (h : Heap) (Q : Post) : RunR CP (c22_r16 e) h Q ↔ RunR CP (
  .op (.build [(.int .i64 0), (.int .i64 0), (.int .i64 0), (.slice none 0 0)] []) fun t83 =>
  .op (.store 4 (e 2) t83) fun _ =>
  .op (.mv (.int .i64 3)) fun t3 =>
  .done (e.upd 3 t3)) h Q := Iff.rfl
def c22_r17 : Env → Reg := fun e =>
  .op (.load (some 4) (e 6)) fun t84 =>
  .op (.store 4 (e 2) t84) fun _ =>
  .op (.mv (.int .i64 0)) fun t3 =>
  .done (e.upd 3 t3)
theorem c22_r17_run {CP : CProg} (e : Env) (h : Heap) (Q : Post) : RunR CP (c22_r17 e) h Q ↔ RunR CP (
  .op (.load (some 4) (e 6)) fun t84 =>
  .op (.store 4 (e 2) t84) fun _ =>
  .op (.mv (.int .i64 0)) fun t3 =>
  .done (e.upd 3 t3)) h Q := Iff.rfl
def c22 : CFn := ⟨(.seq (.region c22_r0) (.seq (.seq (.region c22_r1) (.cond (fun e => e 23) (.seq (.region c22_r2) .ret) .skip)) (.seq (.region c22_r3) (.seq (.region c22_r4) (.seq (.region c22_r5) (.seq (.seq (.region c22_r6) (.cond (fun e => e 39) (.seq (.region c22_r7) .ret) .skip)) (.seq (.block 0 (.loop c22_l0)) (.seq (.seq (.region c22_r15) (.cond (fun e => e 82) (.seq (.region c22_r16) .ret) .skip)) (.seq (.region c22_r17) .ret))))))))), [.c 2 (some 4), .t 3]⟩
def p22 : Pers := ⟨9, [23, 39, 44, 69, 82], 85⟩
-- 23: weighbridge/config.within
def c23_r0 : Env → Reg := fun e =>
  .op (.mv (.bool false)) fun t4 =>
  .done (e.upd 4 t4)
theorem c23_r0_run {CP : CProg} (e : Env) (h : Heap) (Q : Post) : RunR CP (c23_r0 e) h Q ↔ RunR CP (
  .op (.mv (.bool false)) fun t4 =>
  .done (e.upd 4 t4)) h Q := Iff.rfl
def c23_r1 : Env → Reg := fun e =>
  .op (.mv (e 0)) fun t5 =>
  .op (.bin .geq t5 (.int .i64 1)) fun t6 =>
  .op (.mv t6) fun t7 =>
  .opg t7 true (.mv (e 0)) fun t8 =>
  .opg t7 true (.mv (e 1)) fun t9 =>
  .opg t7 true (.bin .leq t8 t9) fun t10 =>
  .op (.pick t7 t10 (.bool false)) fun t11 =>
  .op (.mv t11) fun t4 =>
  .done (e.upd 4 t4)
theorem c23_r1_run {CP : CProg} (e : Env) (h : Heap) (Q : Post) : RunR CP (c23_r1 e) h Q ↔ RunR CP (
  .op (.mv (e 0)) fun t5 =>
  .op (.bin .geq t5 (.int .i64 1)) fun t6 =>
  .op (.mv t6) fun t7 =>
  .opg t7 true (.mv (e 0)) fun t8 =>
  .opg t7 true (.mv (e 1)) fun t9 =>
  .opg t7 true (.bin .leq t8 t9) fun t10 =>
  .op (.pick t7 t10 (.bool false)) fun t11 =>
  .op (.mv t11) fun t4 =>
  .done (e.upd 4 t4)) h Q := Iff.rfl
def c23 : CFn := ⟨(.seq (.region c23_r0) (.seq (.region c23_r1) .ret)), [.t 4]⟩
def p23 : Pers := ⟨5, [], 12⟩
-- 24: weighbridge/arith.Mul
def c24_r0 : Env → Reg := fun e =>
  .op (.mv (.int .i64 0)) fun t4 =>
  .op (.mv (.bool false)) fun t5 =>
  .done ((e.upd 4 t4).upd 5 t5)
theorem c24_r0_run {CP : CProg} (e : Env) (h : Heap) (Q : Post) : RunR CP (c24_r0 e) h Q ↔ RunR CP (
  .op (.mv (.int .i64 0)) fun t4 =>
  .op (.mv (.bool false)) fun t5 =>
  .done ((e.upd 4 t4).upd 5 t5)) h Q := Iff.rfl
def c24_r1 : Env → Reg := fun e =>
  .op (.mv (e 0)) fun t10 =>
  .op (.conv .u64 t10) fun t11 =>
  .op (.mv (e 1)) fun t12 =>
  .op (.conv .u64 t12) fun t13 =>
  .op (.call 32 [t11, t13]) fun t14 =>
  .op (.mv t14) fun t9 =>
  .op (.extract t9 0) fun t15 =>
  .op (.extract t9 1) fun t16 =>
  .op (.mv t15) fun t6 =>
  .op (.mv t16) fun t7 =>
  .done ((e.upd 6 t6).upd 7 t7)
theorem c24_r1_run {CP : CProg} (e : Env) (h : Heap) (Q : Post) : RunR CP (c24_r1 e) h Q ↔ RunR CP (
  .op (.mv (e 0)) fun t10 =>
  .op (.conv .u64 t10) fun t11 =>
  .op (.mv (e 1)) fun t12 =>
  .op (.conv .u64 t12) fun t13 =>
  .op (.call 32 [t11, t13]) fun t14 =>
  .op (.mv t14) fun t9 =>
  .op (.extract t9 0) fun t15 =>
  .op (.extract t9 1) fun t16 =>
  .op (.mv t15) fun t6 =>
  .op (.mv t16) fun t7 =>
  .done ((e.upd 6 t6).upd 7 t7)) h Q := Iff.rfl
def c24_r2 : Env → Reg := fun e =>
  .op (.mv (e 6)) fun t17 =>
  .op (.conv .i64 t17) fun t18 =>
  .op (.mv t18) fun t8 =>
  .done (e.upd 8 t8)
theorem c24_r2_run {CP : CProg} (e : Env) (h : Heap) (Q : Post) : RunR CP (c24_r2 e) h Q ↔ RunR CP (
  .op (.mv (e 6)) fun t17 =>
  .op (.conv .i64 t17) fun t18 =>
  .op (.mv t18) fun t8 =>
  .done (e.upd 8 t8)) h Q := Iff.rfl
def c24_r3 : Env → Reg := fun e =>
  .op (.mv (e 0)) fun t19 =>
  .op (.bin .lss t19 (.int .i64 0)) fun t20 =>
  .done (e.upd 20 t20)
theorem c24_r3_run {CP : CProg} (e : Env) (h : Heap) (Q : Post) : RunR CP (c24_r3 e) h Q ↔ RunR CP (
  .op (.mv (e 0)) fun t19 =>
  .op (.bin .lss t19 (.int .i64 0)) fun t20 =>
  .done (e.upd 20 t20)) h Q := Iff.rfl
def c24_r4 : Env → Reg := fun e =>
  .op (.mv (e 8)) fun t21 =>
  .op (.mv (e 1)) fun t22 =>
  .op (.bin .sub t21 t22) fun t23 =>
  .op (.mv t23) fun t8 =>
  .done (e.upd 8 t8)
theorem c24_r4_run {CP : CProg} (e : Env) (h : Heap) (Q : Post) : RunR CP (c24_r4 e) h Q ↔ RunR CP (
  .op (.mv (e 8)) fun t21 =>
  .op (.mv (e 1)) fun t22 =>
  .op (.bin .sub t21 t22) fun t23 =>
  .op (.mv t23) fun t8 =>
  .done (e.upd 8 t8)) h Q := Iff.rfl
def c24_r5 : Env → Reg := fun e =>
  .op (.mv (e 1)) fun t24 =>
  .op (.bin .lss t24 (.int .i64 0)) fun t25 =>
  .done (e.upd 25 t25)
theorem c24_r5_run {CP : CProg} (e : Env) (h : Heap) (Q : Post) : RunR CP (c24_r5 e) h Q ↔ RunR CP (
  .op (.mv (e 1)) fun t24 =>
  .op (.bin .lss t24 (.int .i64 0)) fun t25 =>
  .done (e.upd 25 t25)) h Q := Iff.rfl
def c24_r6 : Env → Reg := fun e =>
  .op (.mv (e 8)) fun t26 =>
  .op (.mv (e 0)) fun t27 =>
  .op (.bin .sub t26 t27) fun t28 =>
  .op (.mv t28) fun t8 =>
  .done (e.upd 8 t8)
theorem c24_r6_run {CP : CProg} (e : Env) (h : Heap) (Q : Post) : RunR CP (c24_r6 e) h Q ↔ RunR CP (
  .op (.mv (e 8)) fun t26 =>
  .op (.mv (e 0)) fun t27 =>
  .op (.bin .sub t26 t27) fun t28 =>
  .op (.mv t28) fun t8 =>
  .done (e.upd 8 t8)) h Q := Iff.rfl
def c24_r7 : Env → Reg := fun e =>
  .op (.mv (e 7)) fun t29 =>
  .op (.conv .i64 t29) fun t30 =>
  .op (.mv (e 8)) fun t31 =>
  .op (.mv (e 7)) fun t32 =>
  .op (.conv .i64 t32) fun t33 =>
  .op (.bin .shr t33 (.int .u64 63)) fun t34 =>
  .op (.bin .eql t31 t34) fun t35 =>
  .op (.mv t30) fun t4 =>
  .op (.mv t35) fun t5 =>
  .done ((e.upd 4 t4).upd 5 t5)
theorem c24_r7_run {CP : CProg} (e : Env) (h : Heap) (Q : Post) : RunR CP (c24_r7 e) h Q ↔ RunR CP (
  .op (.mv (e 7)) fun t29 =>
  .op (.conv .i64 t29) fun t30 =>
  .op (.mv (e 8)) fun t31 =>
  .op (.mv (e 7)) fun t32 =>
  .op (.conv .i64 t32) fun t33 =>
  .op (.bin .shr t33 (.int .u64 63)) fun t34 =>
  .op (.bin .eql t31 t34) fun t35 =>
  .op (.mv t30) fun t4 =>
  .op (.mv t35) fun t5 =>
  .done ((e.upd 4 t4).upd 5 t5)) h Q := Iff.rfl
def c24 : CFn := ⟨(.seq (.region c24_r0) (.seq (.region c24_r1) (.seq (.region c24_r2) (.seq (.seq (.region c24_r3) (.cond (fun e => e 20) (.region c24_r4) .skip)) (.seq (.seq (.region c24_r5) (.cond (fun e => e 25) (.region c24_r6) .skip)) (.seq (.region c24_r7) .ret)))))), [.t 4, .t 5]⟩
def p24 : Pers := ⟨9, [20, 25], 36⟩
-- 25: weighbridge/arith.Ceil
def c25_r0 : Env → Reg := fun e =>
  .op (.mv (.int .i64 0)) fun t4 =>
  .done (e.upd 4 t4)
theorem c25_r0_run {CP : CProg} (e : Env) (h : Heap) (Q : Post) : RunR CP (c25_r0 e) h Q ↔ RunR CP (
  .op (.mv (.int .i64 0)) fun t4 =>
  .done (e.upd 4 t4)) h Q := Iff.rfl
def c25_r1 : Env → Reg := fun e =>
  .op (.mv (e 0)) fun t6 =>
  .op (.bin .lss t6 (.int .i64 0)) fun t7 =>
  .op (.mv t7) fun t8 =>
  .opg t8 false (.mv (e 1)) fun t9 =>
  .opg t8 false (.bin .lss t9 (.int .i64 1)) fun t10 =>
  .op (.pick t8 (.bool true) t10) fun t11 =>
  .done (e.upd 11 t11)
theorem c25_r1_run {CP : CProg} (e : Env) (h : Heap) (Q : Post) : RunR CP (c25_r1 e) h Q ↔ RunR CP (
  .op (.mv (e 0)) fun t6 =>
  .op (.bin .lss t6 (.int .i64 0)) fun t7 =>
  .op (.mv t7) fun t8 =>
  .opg t8 false (.mv (e 1)) fun t9 =>
  .opg t8 false (.bin .lss t9 (.int .i64 1)) fun t10 =>
  .op (.pick t8 (.bool true) t10) fun t11 =>
  .done (e.upd 11 t11)) h Q := Iff.rfl
def c25_r2 : Env → Reg := fun e =>
  .op (.mv (.int .i64 0)) fun t4 =>
  .done (e.upd 4 t4)
theorem c25_r2_run {CP : CProg} (e : Env) (h : Heap) (Q : Post) : RunR CP (c25_r2 e) h Q ↔ RunR CP (
  .op (.mv (.int .i64 0)) fun t4 =>
  .done (e.upd 4 t4)) h Q := Iff.rfl
def c25_r3 : Env → Reg := fun e =>
  .op (.mv (e 0)) fun t12 =>
  .op (.mv (e 1)) fun t13 =>
  .op (.bin .quo t12 t13) fun t14 =>
  .op (.mv t14) fun t5 =>
  .done (e.upd 5 t5)
theorem c25_r3_run {CP : CProg} (e : Env) (h : Heap) (Q : Post) : RunR CP (c25_r3 e) h Q ↔ RunR CP (
  .op (.mv (e 0)) fun t12 =>
  .op (.mv (e 1)) fun t13 =>
  .op (.bin .quo t12 t13) fun t14 =>
  .op (.mv t14) fun t5 =>
  .done (e.upd 5 t5)) h Q := Iff.rfl
def c25_r4 : Env → Reg := fun e =>
  .op (.mv (e 0)) fun t15 =>
  .op (.mv (e 1)) fun t16 =>
  .op (.bin .rem t15 t16) fun t17 =>
  .op (.bin .gtr t17 (.int .i64 0)) fun t18 =>
  .done (e.upd 18 t18)
theorem c25_r4_run {CP : CProg} (e : Env) (h : Heap) (Q : Post) : RunR CP (c25_r4 e) h Q ↔ RunR CP (
  .op (.mv (e 0)) fun t15 =>
  .op (.mv (e 1)) fun t16 =>
  .op (.bin .rem t15 t16) fun t17 =>
  .op (.bin .gtr t17 (.int .i64 0)) fun t18 =>
  .done (e.upd 18 t18)) h Q := Iff.rfl
def c25_r5 : Env → Reg := fun e =>
  .op (.mv (e 5)) fun t19 =>
  .op (.bin .add t19 (.int .i64 1)) fun t20 =>
  .op (.mv t20) fun t5 =>
  .done (e.upd 5 t5)
theorem c25_r5_run {CP : CProg} (e : Env) (h : Heap) (Q : Post) : RunR CP (c25_r5 e) h Q ↔ RunR CP (
  .op (.mv (e 5)) fun t19 =>
  .op (.bin .add t19 (.int .i64 1)) fun t20 =>
  .op (.mv t20) fun t5 =>
  .done (e.upd 5 t5)) h Q := Iff.rfl
def c25_r6 : Env → Reg := fun e =>
  .op (.mv (e 5)) fun t21 =>
  .op (.mv t21) fun t4 =>
  .done (e.upd 4 t4)
theorem c25_r6_run {CP : CProg} (e : Env) (h : Heap) (Q : Post) : RunR CP (c25_r6 e) h Q ↔ RunR CP (
  .op (.mv (e 5)) fun t21 =>
  .op (.mv t21) fun t4 =>
  .done (e.upd 4 t4)) h Q := Iff.rfl
def c25 : CFn := ⟨(.seq (.region c25_r0) (.seq (.seq (.region c25_r1) (.cond (fun e => e 11) (.seq (.region c25_r2) .ret) .skip)) (.seq (.region c25_r3) (.seq (.seq (.region c25_r4) (.cond (fun e => e 18) (.region c25_r5) .skip)) (.seq (.region c25_r6) .ret))))), [.t 4]⟩
def p25 : Pers := ⟨6, [11, 18], 22⟩
-- 26: weighbridge/pool.Bytes
def c26_r0 : Env → Reg := fun e =>
  .op (.mv (.int .i64 0)) fun t2 =>
  .done (e.upd 2 t2)
theorem c26_r0_run {CP : CProg} (e : Env) (h : Heap) (Q : Post) : RunR CP (c26_r0 e) h Q ↔ RunR CP (
  .op (.mv (.int .i64 0)) fun t2 =>
  .done (e.upd 2 t2)) h Q := Iff.rfl
def c26_r1 : Env → Reg := fun e =>
  .op (.mv (e 0)) fun t3 =>
  .op (.call 33 [t3]) fun t4 =>
  .op (.mv (e 0)) fun t5 =>
  .op (.call 34 [t5]) fun t6 =>
  .op (.bin .add t4 t6) fun t7 =>
  .op (.mv (e 0)) fun t8 =>
  .op (.bin .mul (.int .i64 32) t8) fun t9 =>
  .op (.bin .add t7 t9) fun t10 =>
  .op (.mv t10) fun t2 =>
  .done (e.upd 2 t2)
theorem c26_r1_run {CP : CProg} (e : Env) (h : Heap) (Q : Post) : RunR CP (c26_r1 e) h Q ↔ RunR CP (
  .op (.mv (e 0)) fun t3 =>
  .op (.call 33 [t3]) fun t4 =>
  .op (.mv (e 0)) fun t5 =>
  .op (.call 34 [t5]) fun t6 =>
  .op (.bin .add t4 t6) fun t7 =>
  .op (.mv (e 0)) fun t8 =>
  .op (.bin .mul (.int .i64 32) t8) fun t9 =>
  .op (.bin .add t7 t9) fun t10 =>
  .op (.mv t10) fun t2 =>
  .done (e.upd 2 t2)) h Q := Iff.rfl
def c26 : CFn := ⟨(.seq (.region c26_r0) (.seq (.region c26_r1) .ret)), [.t 2]⟩
def p26 : Pers := ⟨3, [], 11⟩
-- 27: weighbridge/ring.Bytes
def c27_r0 : Env → Reg := fun e =>
  .op (.box 24 (e 0)) fun t1 =>
  .op (.mv (.int .i64 0)) fun t2 =>
  .done ((e.upd 1 t1).upd 2 t2)
theorem c27_r0_run {CP : CProg} (e : Env) (h : Heap) (Q : Post) : RunR CP (c27_r0 e) h Q ↔ RunR CP (
  .op (.box 24 (e 0)) fun t1 =>
  .op (.mv (.int .i64 0)) fun t2 =>
  .done ((e.upd 1 t1).upd 2 t2)) h Q := Iff.rfl
def c27_r1 : Env → Reg := fun e =>
  .op (.fieldAddr 3 (e 1)) fun t4 =>
  .op (.load none t4) fun t5 =>
  .op (.bin .add t5 (.int .i64 1)) fun t6 =>
  .op (.mv t6) fun t3 =>
  .done (e.upd 3 t3)
theorem c27_r1_run {CP : CProg} (e : Env) (h : Heap) (Q : Post) : RunR CP (c27_r1 e) h Q ↔ RunR CP (
  .op (.fieldAddr 3 (e 1)) fun t4 =>
  .op (.load none t4) fun t5 =>
  .op (.bin .add t5 (.int .i64 1)) fun t6 =>
  .op (.mv t6) fun t3 =>
  .done (e.upd 3 t3)) h Q := Iff.rfl
def c27_r2 : Env → Reg := fun e =>
  .op (.mv (e 3)) fun t7 =>
  .op (.fieldAddr 5 (e 1)) fun t8 =>
  .op (.load none t8) fun t9 =>
  .op (.fieldAddr 6 (e 1)) fun t10 =>
  .op (.load none t10) fun t11 =>
  .op (.call 35 [t9, t11]) fun t12 =>
  .op (.bin .add (.int .i64 16) t12) fun t13 =>
  .op (.bin .mul t7 t13) fun t14 =>
  .op (.mv t14) fun t2 =>
  .done (e.upd 2 t2)
theorem c27_r2_run {CP : CProg} (e : Env) (h : Heap) (Q : Post) : RunR CP (c27_r2 e) h Q ↔ RunR CP (
  .op (.mv (e 3)) fun t7 =>
  .op (.fieldAddr 5 (e 1)) fun t8 =>
  .op (.load none t8) fun t9 =>
  .op (.fieldAddr 6 (e 1)) fun t10 =>
  .op (.load none t10) fun t11 =>
  .op (.call 35 [t9, t11]) fun t12 =>
  .op (.bin .add (.int .i64 16) t12) fun t13 =>
  .op (.bin .mul t7 t13) fun t14 =>
  .op (.mv t14) fun t2 =>
  .done (e.upd 2 t2)) h Q := Iff.rfl
def c27 : CFn := ⟨(.seq (.region c27_r0) (.seq (.region c27_r1) (.seq (.region c27_r2) .ret))), [.t 2]⟩
def p27 : Pers := ⟨4, [], 15⟩
-- 28: weighbridge/summary.Bytes
def c28_r0 : Env → Reg := fun e =>
  .op (.mv (.int .i64 0)) fun t2 =>
  .done (e.upd 2 t2)
theorem c28_r0_run {CP : CProg} (e : Env) (h : Heap) (Q : Post) : RunR CP (c28_r0 e) h Q ↔ RunR CP (
  .op (.mv (.int .i64 0)) fun t2 =>
  .done (e.upd 2 t2)) h Q := Iff.rfl
def c28_r1 : Env → Reg := fun e =>
  .op (.mv (e 0)) fun t3 =>
  .op (.call 33 [t3]) fun t4 =>
  .op (.mv (e 0)) fun t5 =>
  .op (.call 34 [t5]) fun t6 =>
  .op (.bin .add t4 t6) fun t7 =>
  .op (.mv (e 0)) fun t8 =>
  .op (.bin .mul t8 (.int .i64 24)) fun t9 =>
  .op (.bin .add t7 t9) fun t10 =>
  .op (.mv t10) fun t2 =>
  .done (e.upd 2 t2)
theorem c28_r1_run {CP : CProg} (e : Env) (h : Heap) (Q : Post) : RunR CP (c28_r1 e) h Q ↔ RunR CP (
  .op (.mv (e 0)) fun t3 =>
  .op (.call 33 [t3]) fun t4 =>
  .op (.mv (e 0)) fun t5 =>
  .op (.call 34 [t5]) fun t6 =>
  .op (.bin .add t4 t6) fun t7 =>
  .op (.mv (e 0)) fun t8 =>
  .op (.bin .mul t8 (.int .i64 24)) fun t9 =>
  .op (.bin .add t7 t9) fun t10 =>
  .op (.mv t10) fun t2 =>
  .done (e.upd 2 t2)) h Q := Iff.rfl
def c28 : CFn := ⟨(.seq (.region c28_r0) (.seq (.region c28_r1) .ret)), [.t 2]⟩
def p28 : Pers := ⟨3, [], 11⟩
-- 29: weighbridge/conn.Bytes
def c29_r0 : Env → Reg := fun e =>
  .op (.mv (.int .i64 0)) fun t2 =>
  .done (e.upd 2 t2)
theorem c29_r0_run {CP : CProg} (e : Env) (h : Heap) (Q : Post) : RunR CP (c29_r0 e) h Q ↔ RunR CP (
  .op (.mv (.int .i64 0)) fun t2 =>
  .done (e.upd 2 t2)) h Q := Iff.rfl
def c29_r1 : Env → Reg := fun e =>
  .op (.mv (e 0)) fun t3 =>
  .op (.mv t3) fun t2 =>
  .done (e.upd 2 t2)
theorem c29_r1_run {CP : CProg} (e : Env) (h : Heap) (Q : Post) : RunR CP (c29_r1 e) h Q ↔ RunR CP (
  .op (.mv (e 0)) fun t3 =>
  .op (.mv t3) fun t2 =>
  .done (e.upd 2 t2)) h Q := Iff.rfl
def c29 : CFn := ⟨(.seq (.region c29_r0) (.seq (.region c29_r1) .ret)), [.t 2]⟩
def p29 : Pers := ⟨3, [], 4⟩
-- 30: weighbridge/config.put
def c30_r0 : Env → Reg := fun e =>
  .op (.mv (.slice none 0 0)) fun t4 =>
  .done (e.upd 4 t4)
theorem c30_r0_run {CP : CProg} (e : Env) (h : Heap) (Q : Post) : RunR CP (c30_r0 e) h Q ↔ RunR CP (
  .op (.mv (.slice none 0 0)) fun t4 =>
  .done (e.upd 4 t4)) h Q := Iff.rfl
def c30_r1 : Env → Reg := fun e =>
  .op (.mv (e 1)) fun t8 =>
  .op (.lenSl t8) fun t9 =>
  .op (.mv (.int .i64 0)) fun t10 =>
  .done (((e.upd 8 t8).upd 9 t9).upd 10 t10)
theorem c30_r1_run {CP : CProg} (e : Env) (h : Heap) (Q : Post) : RunR CP (c30_r1 e) h Q ↔ RunR CP (
  .op (.mv (e 1)) fun t8 =>
  .op (.lenSl t8) fun t9 =>
  .op (.mv (.int .i64 0)) fun t10 =>
  .done (((e.upd 8 t8).upd 9 t9).upd 10 t10)) h Q := Iff.rfl
def c30_r2 : Env → Reg := fun e =>
  .op (.bin .lss (e 10) (e 9)) fun t11 =>
  .done (e.upd 11 t11)
theorem c30_r2_run {CP : CProg} (e : Env) (h : Heap) (Q : Post) : RunR CP (c30_r2 e) h Q ↔ RunR CP (
  .op (.bin .lss (e 10) (e 9)) fun t11 =>
  .done (e.upd 11 t11)) h Q := Iff.rfl
def c30_r3 : Env → Reg := fun e =>
  .op (.indexSl 1 (e 8) (e 10)) fun t12 =>
  .op (.load none t12) fun t13 =>
  .op (.mv t13) fun t6 =>
  .done (e.upd 6 t6)
theorem c30_r3_run {CP : CProg} (e : Env) (h : Heap) (Q : Post) : RunR CP (c30_r3 e) h Q ↔ RunR CP (
  .op (.indexSl 1 (e 8) (e 10)) fun t12 =>
  .op (.load none t12) fun t13 =>
  .op (.mv t13) fun t6 =>
  .done (e.upd 6 t6)) h Q := Iff.rfl
def c30_r4 : Env → Reg := fun e =>
  .op (.mv (.int .i64 56)) fun t7 =>
  .done (e.upd 7 t7)
theorem c30_r4_run {CP : CProg} (e : Env) (h : Heap) (Q : Post) : RunR CP (c30_r4 e) h Q ↔ RunR CP (
  .op (.mv (.int .i64 56)) fun t7 =>
  .done (e.upd 7 t7)) h Q := Iff.rfl
def c30_r5 : Env → Reg := fun e =>
  .op (.mv (e 7)) fun t14 =>
  .op (.bin .geq t14 (.int .i64 0)) fun t15 =>
  .done (e.upd 15 t15)
theorem c30_r5_run {CP : CProg} (e : Env) (h : Heap) (Q : Post) : RunR CP (c30_r5 e) h Q ↔ RunR CP (
  .op (.mv (e 7)) fun t14 =>
  .op (.bin .geq t14 (.int .i64 0)) fun t15 =>
  .done (e.upd 15 t15)) h Q := Iff.rfl
def c30_r7 : Env → Reg := fun e =>
  .op (.mv (e 0)) fun t18 =>
  .op (.mv (e 6)) fun t19 =>
  .op (.conv .u64 t19) fun t20 =>
  .op (.mv (e 7)) fun t21 =>
  .op (.bin .shr t20 t21) fun t22 =>
  .op (.conv .u8 t22) fun t23 =>
  .op (.buildSlice 5 1 [(.int .u8 0)] [(0, 1, t23)]) fun t24 =>
  .op (.append 5 1 1 t18 t24) fun t25 =>
  .op (.mv t25) fun t0 =>
  .done (e.upd 0 t0)
theorem c30_r7_run {CP : CProg} (e : Env) (h : Heap) (Q : Post) : RunR CP (c30_r7 e) h Q ↔ RunR CP (
  .op (.mv (e 0)) fun t18 =>
  .op (.mv (e 6)) fun t19 =>
  .op (.conv .u64 t19) fun t20 =>
  .op (.mv (e 7)) fun t21 =>
  .op (.bin .shr t20 t21) fun t22 =>
  .op (.conv .u8 t22) fun t23 =>
  .op (.buildSlice 5 1 [(.int .u8 0)] [(0, 1, t23)]) fun t24 =>
  .op (.append 5 1 1 t18 t24) fun t25 =>
  .op (.mv t25) fun t0 =>
  .done (e.upd 0 t0)) h Q := Iff.rfl
def c30_r6 : Env → Reg := fun e =>
  .op (.mv (e 7)) fun t16 =>
  .op (.bin .sub t16 (.int .i64 8)) fun t17 =>
  .op (.mv t17) fun t7 =>
  .done (e.upd 7 t7)
theorem c30_r6_run {CP : CProg} (e : Env) (h : Heap) (Q : Post) : RunR CP (c30_r6 e) h Q ↔ RunR CP (
  .op (.mv (e 7)) fun t16 =>
  .op (.bin .sub t16 (.int .i64 8)) fun t17 =>
  .op (.mv t17) fun t7 =>
  .done (e.upd 7 t7)) h Q := Iff.rfl
def c30_l0 : CC := (.seq (.seq (.region c30_r5) (.cond (fun e => e 15) .skip (.exit 2))) (.seq (.block 3 (.region c30_r7)) (.region c30_r6)))
def c30_r8 : Env → Reg := fun e =>
  .op (.bin .add (e 10) (.int .i64 1)) fun t26 =>
  .op (.mv t26) fun t10 =>
  .done (e.upd 10 t10)
theorem c30_r8_run {CP : CProg} (e : Env) (h : Heap) (Q : Post) : RunR CP (c30_r8 e) h Q ↔ RunR CP (
  .op (.bin .add (e 10) (.int .i64 1)) fun t26 =>
  .op (.mv t26) fun t10 =>
  .done (e.upd 10 t10)) h Q := Iff.rfl
def c30_l1 : CC := (.seq (.region c30_r2) (.seq (.cond (fun e => e 11) .skip (.exit 0)) (.seq (.block 1 (.seq (.region c30_r3) (.seq (.region c30_r4) (.block 2 (.loop c30_l0))))) (.region c30_r8))))
def c30_r9 : Env → Reg := fun e =>
  .op (.mv (e 0)) fun t27 =>
  .op (.mv t27) fun t4 =>
  .done (e.upd 4 t4)
theorem c30_r9_run {CP : CProg} (e : Env) (h : Heap) (Q : Post) : RunR CP (c30_r9 e) h Q ↔ RunR CP (
  .op (.mv (e 0)) fun t27 =>
  .op (.mv t27) fun t4 =>
  .done (e.upd 4 t4)) h Q := Iff.rfl
def c30 : CFn := ⟨(.seq (.region c30_r0) (.seq (.seq (.region c30_r1) (.block 0 (.loop c30_l1))) (.seq (.region c30_r9) .ret))), [.t 4]⟩
def p30 : Pers := ⟨8, [8, 9, 10, 11, 15], 28⟩
-- 31: weighbridge/config.Decode$1
def c31_r0 : Env → Reg := fun e =>
  .op (.mv (.int .i64 0)) fun t2 =>
  .done (e.upd 2 t2)
theorem c31_r0_run {CP : CProg} (e : Env) (h : Heap) (Q : Post) : RunR CP (c31_r0 e) h Q ↔ RunR CP (
  .op (.mv (.int .i64 0)) fun t2 =>
  .done (e.upd 2 t2)) h Q := Iff.rfl
def c31_r1 : Env → Reg := fun e =>
  .op (.mv (.int .u64 0)) fun t3 =>
  .done (e.upd 3 t3)
theorem c31_r1_run {CP : CProg} (e : Env) (h : Heap) (Q : Post) : RunR CP (c31_r1 e) h Q ↔ RunR CP (
  .op (.mv (.int .u64 0)) fun t3 =>
  .done (e.upd 3 t3)) h Q := Iff.rfl
def c31_r2 : Env → Reg := fun e =>
  .op (.load none (e 0)) fun t6 =>
  .op (.load none (e 1)) fun t7 =>
  .op (.load none (e 1)) fun t8 =>
  .op (.bin .add t8 (.int .i64 8)) fun t9 =>
  .op (.slice 5 1 t6 (some t7) (some t9)) fun t10 =>
  .op (.lenSl t10) fun t11 =>
  .op (.mv (.int .i64 0)) fun t12 =>
  .done (((e.upd 10 t10).upd 11 t11).upd 12 t12)
theorem c31_r2_run {CP : CProg} (e : Env) (h : Heap) (Q : Post) : RunR CP (c31_r2 e) h Q ↔ RunR CP (
  .op (.load none (e 0)) fun t6 =>
  .op (.load none (e 1)) fun t7 =>
  .op (.load none (e 1)) fun t8 =>
  .op (.bin .add t8 (.int .i64 8)) fun t9 =>
  .op (.slice 5 1 t6 (some t7) (some t9)) fun t10 =>
  .op (.lenSl t10) fun t11 =>
  .op (.mv (.int .i64 0)) fun t12 =>
  .done (((e.upd 10 t10).upd 11 t11).upd 12 t12)) h Q := Iff.rfl
def c31_r3 : Env → Reg := fun e =>
  .op (.bin .lss (e 12) (e 11)) fun t13 =>
  .done (e.upd 13 t13)
theorem c31_r3_run {CP : CProg} (e : Env) (h : Heap) (Q : Post) : RunR CP (c31_r3 e) h Q ↔ RunR CP (
  .op (.bin .lss (e 12) (e 11)) fun t13 =>
  .done (e.upd 13 t13)) h Q := Iff.rfl
def c31_r4 : Env → Reg := fun e =>
  .op (.indexSl 1 (e 10) (e 12)) fun t14 =>
  .op (.load none t14) fun t15 =>
  .op (.mv t15) fun t5 =>
  .done (e.upd 5 t5)
theorem c31_r4_run {CP : CProg} (e : Env) (h : Heap) (Q : Post) : RunR CP (c31_r4 e) h Q ↔ RunR CP (
  .op (.indexSl 1 (e 10) (e 12)) fun t14 =>
  .op (.load none t14) fun t15 =>
  .op (.mv t15) fun t5 =>
  .done (e.upd 5 t5)) h Q := Iff.rfl
def c31_r5 : Env → Reg := fun e =>
  .op (.mv (e 3)) fun t16 =>
  .op (.bin .shl t16 (.int .u64 8)) fun t17 =>
  .op (.mv (e 5)) fun t18 =>
  .op (.conv .u64 t18) fun t19 =>
  .op (.bin .or t17 t19) fun t20 =>
  .op (.mv t20) fun t3 =>
  .done (e.upd 3 t3)
theorem c31_r5_run {CP : CProg} (e : Env) (h : Heap) (Q : Post) : RunR CP (c31_r5 e) h Q ↔ RunR CP (
  .op (.mv (e 3)) fun t16 =>
  .op (.bin .shl t16 (.int .u64 8)) fun t17 =>
  .op (.mv (e 5)) fun t18 =>
  .op (.conv .u64 t18) fun t19 =>
  .op (.bin .or t17 t19) fun t20 =>
  .op (.mv t20) fun t3 =>
  .done (e.upd 3 t3)) h Q := Iff.rfl
def c31_r6 : Env → Reg := fun e =>
  .op (.bin .add (e 12) (.int .i64 1)) fun t21 =>
  .op (.mv t21) fun t12 =>
  .done (e.upd 12 t12)
theorem c31_r6_run {CP : CProg} (e : Env) (h : Heap) (Q : Post) : RunR CP (c31_r6 e) h Q ↔ RunR CP (
  .op (.bin .add (e 12) (.int .i64 1)) fun t21 =>
  .op (.mv t21) fun t12 =>
  .done (e.upd 12 t12)) h Q := Iff.rfl
def c31_l0 : CC := (.seq (.region c31_r3) (.seq (.cond (fun e => e 13) .skip (.exit 0)) (.seq (.block 1 (.seq (.region c31_r4) (.region c31_r5))) (.region c31_r6))))
def c31_r7 : Env → Reg := fun e =>
  .op (.load none (e 1)) fun t22 =>
  .op (.bin .add t22 (.int .i64 8)) fun t23 =>
  .op (.store 1 (e 1) t23) fun _ =>
  .done e
theorem c31_r7_run {CP : CProg} (e : Env) (h : Heap) (Q : Post) : RunR CP (c31_r7 e) h Q ↔ RunR CP (
  .op (.load none (e 1)) fun t22 =>
  .op (.bin .add t22 (.int .i64 8)) fun t23 =>
  .op (.store 1 (e 1) t23) fun _ =>
  .done e) h Q := Iff.rfl
def c31_r8 : Env → Reg := fun e =>
  .op (.mv (e 3)) fun t24 =>
  .op (.conv .i64 t24) fun t25 =>
  .op (.mv t25) fun t2 =>
  .done (e.upd 2 t2)
theorem c31_r8_run {CP : CProg} (e : Env) (h : Heap) (Q : Post) : RunR CP (c31_r8 e) h Q ↔ RunR CP (
  .op (.mv (e 3)) fun t24 =>
  .op (.conv .i64 t24) fun t25 =>
  .op (.mv t25) fun t2 =>
  .done (e.upd 2 t2)) h Q := Iff.rfl
def c31 : CFn := ⟨(.seq (.region c31_r0) (.seq (.region c31_r1) (.seq (.seq (.region c31_r2) (.block 0 (.loop c31_l0))) (.seq (.region c31_r7) (.seq (.region c31_r8) .ret))))), [.t 2]⟩
def p31 : Pers := ⟨6, [10, 11, 12, 13], 26⟩
-- 32: math/bits.Mul64
def c32_r0 : Env → Reg := fun e =>
  .op (.mv (.int .u64 0)) fun t4 =>
  .op (.mv (.int .u64 0)) fun t5 =>
  .done ((e.upd 4 t4).upd 5 t5)
theorem c32_r0_run {CP : CProg} (e : Env) (h : Heap) (Q : Post) : RunR CP (c32_r0 e) h Q ↔ RunR CP (
  .op (.mv (.int .u64 0)) fun t4 =>
  .op (.mv (.int .u64 0)) fun t5 =>
  .done ((e.upd 4 t4).upd 5 t5)) h Q := Iff.rfl
def c32_r1 : Env → Reg := fun e =>
  .op (.mv (e 0)) fun t14 =>
  .op (.bin .and t14 (.int .u64 4294967295)) fun t15 =>
  .op (.mv t15) fun t6 =>
  .done (e.upd 6 t6)
theorem c32_r1_run {CP : CProg} (e : Env) (h : Heap) (Q : Post) : RunR CP (c32_r1 e) h Q ↔ RunR CP (
  .op (.mv (e 0)) fun t14 =>
  .op (.bin .and t14 (.int .u64 4294967295)) fun t15 =>
  .op (.mv t15) fun t6 =>
  .done (e.upd 6 t6)) h Q := Iff.rfl
def c32_r2 : Env → Reg := fun e =>
  .op (.mv (e 0)) fun t16 =>
  .op (.bin .shr t16 (.int .u64 32)) fun t17 =>
  .op (.mv t17) fun t7 =>
  .done (e.upd 7 t7)
theorem c32_r2_run {CP : CProg} (e : Env) (h : Heap) (Q : Post) : RunR CP (c32_r2 e) h Q ↔ RunR CP (
  .op (.mv (e 0)) fun t16 =>
  .op (.bin .shr t16 (.int .u64 32)) fun t17 =>
  .op (.mv t17) fun t7 =>
  .done (e.upd 7 t7)) h Q := Iff.rfl
def c32_r3 : Env → Reg := fun e =>
  .op (.mv (e 1)) fun t18 =>
  .op (.bin .and t18 (.int .u64 4294967295)) fun t19 =>
  .op (.mv t19) fun t8 =>
  .done (e.upd 8 t8)
theorem c32_r3_run {CP : CProg} (e : Env) (h : Heap) (Q : Post) : RunR CP (c32_r3 e) h Q ↔ RunR CP (
  .op (.mv (e 1)) fun t18 =>
  .op (.bin .and t18 (.int .u64 4294967295)) fun t19 =>
  .op (.mv t19) fun t8 =>
  .done (e.upd 8 t8)) h Q := Iff.rfl
def c32_r4 : Env → Reg := fun e =>
  .op (.mv (e 1)) fun t20 =>
  .op (.bin .shr t20 (.int .u64 32)) fun t21 =>
  .op (.mv t21) fun t9 =>
  .done (e.upd 9 t9)
theorem c32_r4_run {CP : CProg} (e : Env) (h : Heap) (Q : Post) : RunR CP (c32_r4 e) h Q ↔ RunR CP (
  .op (.mv (e 1)) fun t20 =>
  .op (.bin .shr t20 (.int .u64 32)) fun t21 =>
  .op (.mv t21) fun t9 =>
  .done (e.upd 9 t9)) h Q := Iff.rfl
def c32_r5 : Env → Reg := fun e =>
  .op (.mv (e 6)) fun t22 =>
  .op (.mv (e 8)) fun t23 =>
  .op (.bin .mul t22 t23) fun t24 =>
  .op (.mv t24) fun t10 =>
  .done (e.upd 10 t10)
theorem c32_r5_run {CP : CProg} (e : Env) (h : Heap) (Q : Post) : RunR CP (c32_r5 e) h Q ↔ RunR CP (
  .op (.mv (e 6)) fun t22 =>
  .op (.mv (e 8)) fun t23 =>
  .op (.bin .mul t22 t23) fun t24 =>
  .op (.mv t24) fun t10 =>
  .done (e.upd 10 t10)) h Q := Iff.rfl
def c32_r6 : Env → Reg := fun e =>
  .op (.mv (e 7)) fun t25 =>
  .op (.mv (e 8)) fun t26 =>
  .op (.bin .mul t25 t26) fun t27 =>
  .op (.mv (e 10)) fun t28 =>
  .op (.bin .shr t28 (.int .u64 32)) fun t29 =>
  .op (.bin .add t27 t29) fun t30 =>
  .op (.mv t30) fun t11 =>
  .done (e.upd 11 t11)
theorem c32_r6_run {CP : CProg} (e : Env) (h : Heap) (Q : Post) : RunR CP (c32_r6 e) h Q ↔ RunR CP (
  .op (.mv (e 7)) fun t25 =>
  .op (.mv (e 8)) fun t26 =>
  .op (.bin .mul t25 t26) fun t27 =>
  .op (.mv (e 10)) fun t28 =>
  .op (.bin .shr t28 (.int .u64 32)) fun t29 =>
  .op (.bin .add t27 t29) fun t30 =>
  .op (.mv t30) fun t11 =>
  .done (e.upd 11 t11)) h Q := Iff.rfl
def c32_r7 : Env → Reg := fun e =>
  .op (.mv (e 11)) fun t31 =>
  .op (.bin .and t31 (.int .u64 4294967295)) fun t32 =>
  .op (.mv t32) fun t12 =>
  .done (e.upd 12 t12)
theorem c32_r7_run {CP : CProg} (e : Env) (h : Heap) (Q : Post) : RunR CP (c32_r7 e) h Q ↔ RunR CP (
  .op (.mv (e 11)) fun t31 =>
  .op (.bin .and t31 (.int .u64 4294967295)) fun t32 =>
  .op (.mv t32) fun t12 =>
  .done (e.upd 12 t12)) h Q := Iff.rfl
def c32_r8 : Env → Reg := fun e =>
  .op (.mv (e 11)) fun t33 =>
  .op (.bin .shr t33 (.int .u64 32)) fun t34 =>
  .op (.mv t34) fun t13 =>
  .done (e.upd 13 t13)
theorem c32_r8_run {CP : CProg} (e : Env) (h : Heap) (Q : Post) : RunR CP (c32_r8 e) h Q ↔ RunR CP (
  .op (.mv (e 11)) fun t33 =>
  .op (.bin .shr t33 (.int .u64 32)) fun t34 =>
  .op (.mv t34) fun t13 =>
  .done (e.upd 13 t13)) h Q := Iff.rfl
def c32_r9 : Env → Reg := fun e =>
  .op (.mv (e 12)) fun t35 =>
  .op (.mv (e 6)) fun t36 =>
  .op (.mv (e 9)) fun t37 =>
  .op (.bin .mul t36 t37) fun t38 =>
  .op (.bin .add t35 t38) fun t39 =>
  .op (.mv t39) fun t12 =>
  .done (e.upd 12 t12)
theorem c32_r9_run {CP : CProg} (e : Env) (h : Heap) (Q : Post) : RunR CP (c32_r9 e) h Q ↔ RunR CP (
  .op (.mv (e 12)) fun t35 =>
  .op (.mv (e 6)) fun t36 =>
  .op (.mv (e 9)) fun t37 =>
  .op (.bin .mul t36 t37) fun t38 =>
  .op (.bin .add t35 t38) fun t39 =>
  .op (.mv t39) fun t12 =>
  .done (e.upd 12 t12)) h Q := Iff.rfl
def c32_r10 : Env → Reg := fun e =>
  .op (.mv (e 7)) fun t40 =>
  .op (.mv (e 9)) fun t41 =>
  .op (.bin .mul t40 t41) fun t42 =>
  .op (.mv (e 13)) fun t43 =>
  .op (.bin .add t42 t43) fun t44 =>
  .op (.mv (e 12)) fun t45 =>
  .op (.bin .shr t45 (.int .u64 32)) fun t46 =>
  .op (.bin .add t44 t46) fun t47 =>
  .op (.mv t47) fun t4 =>
  .done (e.upd 4 t4)
theorem c32_r10_run {CP : CProg} (e : Env) (h : Heap) (Q : Post) : RunR CP (c32_r10 e) h Q ↔ RunR CP (
  .op (.mv (e 7)) fun t40 =>
  .op (.mv (e 9)) fun t41 =>
  .op (.bin .mul t40 t41) fun t42 =>
  .op (.mv (e 13)) fun t43 =>
  .op (.bin .add t42 t43) fun t44 =>
  .op (.mv (e 12)) fun t45 =>
  .op (.bin .shr t45 (.int .u64 32)) fun t46 =>
  .op (.bin .add t44 t46) fun t47 =>
  .op (.mv t47) fun t4 =>
  .done (e.upd 4 t4)) h Q := Iff.rfl
def c32_r11 : Env → Reg := fun e =>
  .op (.mv (e 0)) fun t48 =>
  .op (.mv (e 1)) fun t49 =>
  .op (.bin .mul t48 t49) fun t50 =>
  .op (.mv t50) fun t5 =>
  .done (e.upd 5 t5)
theorem c32_r11_run {CP : CProg} (e : Env) (h : Heap) (Q : Post) : RunR CP (c32_r11 e) h Q ↔ RunR CP (
  .op (.mv (e 0)) fun t48 =>
  .op (.mv (e 1)) fun t49 =>
  .op (.bin .mul t48 t49) fun t50 =>
  .op (.mv t50) fun t5 =>
  .done (e.upd 5 t5)) h Q := Iff.rfl
def c32 : CFn := ⟨(.seq (.region c32_r0) (.seq (.region c32_r1) (.seq (.region c32_r2) (.seq (.region c32_r3) (.seq (.region c32_r4) (.seq (.region c32_r5) (.seq (.region c32_r6) (.seq (.region c32_r7) (.seq (.region c32_r8) (.seq (.region c32_r9) (.seq (.region c32_r10) (.seq (.region c32_r11) .ret)))))))))))), [.t 4, .t 5]⟩
def p32 : Pers := ⟨14, [], 51⟩
-- 33: weighbridge/keys.Bytes
def c33_r0 : Env → Reg := fun e =>
  .op (.mv (.int .i64 0)) fun t2 =>
  .done (e.upd 2 t2)
theorem c33_r0_run {CP : CProg} (e : Env) (h : Heap) (Q : Post) : RunR CP (c33_r0 e) h Q ↔ RunR CP (
  .op (.mv (.int .i64 0)) fun t2 =>
  .done (e.upd 2 t2)) h Q := Iff.rfl
def c33_r1 : Env → Reg := fun e =>
  .op (.mv (e 0)) fun t3 =>
  .op (.bin .mul t3 (.int .i64 69)) fun t4 =>
  .op (.mv t4) fun t2 =>
  .done (e.upd 2 t2)
theorem c33_r1_run {CP : CProg} (e : Env) (h : Heap) (Q : Post) : RunR CP (c33_r1 e) h Q ↔ RunR CP (
  .op (.mv (e 0)) fun t3 =>
  .op (.bin .mul t3 (.int .i64 69)) fun t4 =>
  .op (.mv t4) fun t2 =>
  .done (e.upd 2 t2)) h Q := Iff.rfl
def c33 : CFn := ⟨(.seq (.region c33_r0) (.seq (.region c33_r1) .ret)), [.t 2]⟩
def p33 : Pers := ⟨3, [], 5⟩
-- 34: weighbridge/index.Bytes
def c34_r0 : Env → Reg := fun e =>
  .op (.mv (.int .i64 0)) fun t2 =>
  .done (e.upd 2 t2)
theorem c34_r0_run {CP : CProg} (e : Env) (h : Heap) (Q : Post) : RunR CP (c34_r0 e) h Q ↔ RunR CP (
  .op (.mv (.int .i64 0)) fun t2 =>
  .done (e.upd 2 t2)) h Q := Iff.rfl
def c34_r1 : Env → Reg := fun e =>
  .op (.mv (e 0)) fun t3 =>
  .op (.call 36 [t3]) fun t4 =>
  .op (.bin .mul (.int .i64 4) t4) fun t5 =>
  .op (.mv t5) fun t2 =>
  .done (e.upd 2 t2)
theorem c34_r1_run {CP : CProg} (e : Env) (h : Heap) (Q : Post) : RunR CP (c34_r1 e) h Q ↔ RunR CP (
  .op (.mv (e 0)) fun t3 =>
  .op (.call 36 [t3]) fun t4 =>
  .op (.bin .mul (.int .i64 4) t4) fun t5 =>
  .op (.mv t5) fun t2 =>
  .done (e.upd 2 t2)) h Q := Iff.rfl
def c34 : CFn := ⟨(.seq (.region c34_r0) (.seq (.region c34_r1) .ret)), [.t 2]⟩
def p34 : Pers := ⟨3, [], 6⟩
-- 35: weighbridge/slot.Bytes
def c35_r0 : Env → Reg := fun e =>
  .op (.mv (.int .i64 0)) fun t4 =>
  .done (e.upd 4 t4)
theorem c35_r0_run {CP : CProg} (e : Env) (h : Heap) (Q : Post) : RunR CP (c35_r0 e) h Q ↔ RunR CP (
  .op (.mv (.int .i64 0)) fun t4 =>
  .done (e.upd 4 t4)) h Q := Iff.rfl
def c35_r1 : Env → Reg := fun e =>
  .op (.mv (e 0)) fun t5 =>
  .op (.bin .mul (.int .i64 8) t5) fun t6 =>
  .op (.mv (e 1)) fun t7 =>
  .op (.bin .mul t6 t7) fun t8 =>
  .op (.mv t8) fun t4 =>
  .done (e.upd 4 t4)
theorem c35_r1_run {CP : CProg} (e : Env) (h : Heap) (Q : Post) : RunR CP (c35_r1 e) h Q ↔ RunR CP (
  .op (.mv (e 0)) fun t5 =>
  .op (.bin .mul (.int .i64 8) t5) fun t6 =>
  .op (.mv (e 1)) fun t7 =>
  .op (.bin .mul t6 t7) fun t8 =>
  .op (.mv t8) fun t4 =>
  .done (e.upd 4 t4)) h Q := Iff.rfl
def c35 : CFn := ⟨(.seq (.region c35_r0) (.seq (.region c35_r1) .ret)), [.t 4]⟩
def p35 : Pers := ⟨5, [], 9⟩
-- 36: weighbridge/index.Size
def c36_r0 : Env → Reg := fun e =>
  .op (.mv (.int .i64 0)) fun t2 =>
  .done (e.upd 2 t2)
theorem c36_r0_run {CP : CProg} (e : Env) (h : Heap) (Q : Post) : RunR CP (c36_r0 e) h Q ↔ RunR CP (
  .op (.mv (.int .i64 0)) fun t2 =>
  .done (e.upd 2 t2)) h Q := Iff.rfl
def c36_r1 : Env → Reg := fun e =>
  .op (.mv (e 0)) fun t3 =>
  .op (.bin .mul (.int .i64 2) t3) fun t4 =>
  .op (.bin .add t4 (.int .i64 1)) fun t5 =>
  .op (.mv t5) fun t2 =>
  .done (e.upd 2 t2)
theorem c36_r1_run {CP : CProg} (e : Env) (h : Heap) (Q : Post) : RunR CP (c36_r1 e) h Q ↔ RunR CP (
  .op (.mv (e 0)) fun t3 =>
  .op (.bin .mul (.int .i64 2) t3) fun t4 =>
  .op (.bin .add t4 (.int .i64 1)) fun t5 =>
  .op (.mv t5) fun t2 =>
  .done (e.upd 2 t2)) h Q := Iff.rfl
def c36 : CFn := ⟨(.seq (.region c36_r0) (.seq (.region c36_r1) .ret)), [.t 2]⟩
def p36 : Pers := ⟨3, [], 6⟩
def cp : CProg
  | 3 => some c3
  | 4 => some c4
  | 5 => some c5
  | 6 => some c6
  | 7 => some c7
  | 8 => some c8
  | 9 => some c9
  | 10 => some c10
  | 11 => some c11
  | 12 => some c12
  | 13 => some c13
  | 14 => some c14
  | 15 => some c15
  | 16 => some c16
  | 17 => some c17
  | 18 => some c18
  | 19 => some c19
  | 20 => some c20
  | 21 => some c21
  | 22 => some c22
  | 23 => some c23
  | 24 => some c24
  | 25 => some c25
  | 26 => some c26
  | 27 => some c27
  | 28 => some c28
  | 29 => some c29
  | 30 => some c30
  | 31 => some c31
  | 32 => some c32
  | 33 => some c33
  | 34 => some c34
  | 35 => some c35
  | 36 => some c36
  | _ => none
theorem cp3 : cp 3 = some c3 := rfl
theorem cp4 : cp 4 = some c4 := rfl
theorem cp5 : cp 5 = some c5 := rfl
theorem cp6 : cp 6 = some c6 := rfl
theorem cp7 : cp 7 = some c7 := rfl
theorem cp8 : cp 8 = some c8 := rfl
theorem cp9 : cp 9 = some c9 := rfl
theorem cp10 : cp 10 = some c10 := rfl
theorem cp11 : cp 11 = some c11 := rfl
theorem cp12 : cp 12 = some c12 := rfl
theorem cp13 : cp 13 = some c13 := rfl
theorem cp14 : cp 14 = some c14 := rfl
theorem cp15 : cp 15 = some c15 := rfl
theorem cp16 : cp 16 = some c16 := rfl
theorem cp17 : cp 17 = some c17 := rfl
theorem cp18 : cp 18 = some c18 := rfl
theorem cp19 : cp 19 = some c19 := rfl
theorem cp20 : cp 20 = some c20 := rfl
theorem cp21 : cp 21 = some c21 := rfl
theorem cp22 : cp 22 = some c22 := rfl
theorem cp23 : cp 23 = some c23 := rfl
theorem cp24 : cp 24 = some c24 := rfl
theorem cp25 : cp 25 = some c25 := rfl
theorem cp26 : cp 26 = some c26 := rfl
theorem cp27 : cp 27 = some c27 := rfl
theorem cp28 : cp 28 = some c28 := rfl
theorem cp29 : cp 29 = some c29 := rfl
theorem cp30 : cp 30 = some c30 := rfl
theorem cp31 : cp 31 = some c31 := rfl
theorem cp32 : cp 32 = some c32 := rfl
theorem cp33 : cp 33 = some c33 := rfl
theorem cp34 : cp 34 = some c34 := rfl
theorem cp35 : cp 35 = some c35 := rfl
theorem cp36 : cp 36 = some c36 := rfl
end Go.Proofs.Ytgmhgpcfkkfolaa.Can
