/- The canonical code of functions that go through maps, written by a program of this session (wip/can/dres.py). No condition. -/
import Derived.Test.YtekojjilbchkgaaCanDem
import Derived.Test.YtekojjilbchkgaaCAll
namespace Go.Proofs.Ytekojjilbchkgaa.Can
open Go
set_option linter.unusedVariables false
def dset : FuncId → Bool := fun f => Nat.beq f 13 || Nat.beq f 15
-- 4: weighbridge/weighbridgelaw20.AuditSums
def d4_r0 : Env → Reg := fun e =>
  .op (.mv (.bool false)) fun t6 =>
  .done (e.upd 6 t6)
theorem d4_r0_run {CP : CProg} (e : Env) (h : Heap) (Q : Post) : RunR CP (d4_r0 e) h Q ↔ RunR CP (
  .op (.mv (.bool false)) fun t6 =>
  .done (e.upd 6 t6)) h Q := Iff.rfl
def d4_r1 : Env → Reg := fun e =>
  .op (.call 7 []) fun t15 =>
  .op (.un .not t15) fun t16 =>
  .done (e.upd 16 t16)
theorem d4_r1_run {CP : CProg} (e : Env) (h : Heap) (Q : Post) : RunR CP (d4_r1 e) h Q ↔ RunR CP (
  .op (.call 7 []) fun t15 =>
  .op (.un .not t15) fun t16 =>
  .done (e.upd 16 t16)) h Q := Iff.rfl
def d4_r2 : Env → Reg := fun e =>
  .op (.mv (.bool false)) fun t6 =>
  .done (e.upd 6 t6)
theorem d4_r2_run {CP : CProg} (e : Env) (h : Heap) (Q : Post) : RunR CP (d4_r2 e) h Q ↔ RunR CP (
  .op (.mv (.bool false)) fun t6 =>
  .done (e.upd 6 t6)) h Q := Iff.rfl
def d4_r3 : Env → Reg := fun e =>
  .op (.mv (e 0)) fun t17 =>
  .op (.lenSl t17) fun t18 =>
  .op (.bin .gtr t18 (.int .i64 200)) fun t19 =>
  .done (e.upd 19 t19)
theorem d4_r3_run {CP : CProg} (e : Env) (h : Heap) (Q : Post) : RunR CP (d4_r3 e) h Q ↔ RunR CP (
  .op (.mv (e 0)) fun t17 =>
  .op (.lenSl t17) fun t18 =>
  .op (.bin .gtr t18 (.int .i64 200)) fun t19 =>
  .done (e.upd 19 t19)) h Q := Iff.rfl
def d4_r4 : Env → Reg := fun e =>
  .op (.mv (.bool true)) fun t6 =>
  .done (e.upd 6 t6)
theorem d4_r4_run {CP : CProg} (e : Env) (h : Heap) (Q : Post) : RunR CP (d4_r4 e) h Q ↔ RunR CP (
  .op (.mv (.bool true)) fun t6 =>
  .done (e.upd 6 t6)) h Q := Iff.rfl
def d4_r5 : Env → Reg := fun e =>
  .op (.mv (e 0)) fun t20 =>
  .op (.call 8 [t20]) fun t21 =>
  .op (.mv t21) fun t0 =>
  .done (e.upd 0 t0)
theorem d4_r5_run {CP : CProg} (e : Env) (h : Heap) (Q : Post) : RunR CP (d4_r5 e) h Q ↔ RunR CP (
  .op (.mv (e 0)) fun t20 =>
  .op (.call 8 [t20]) fun t21 =>
  .op (.mv t21) fun t0 =>
  .done (e.upd 0 t0)) h Q := Iff.rfl
def d4_r6 : Env → Reg := fun e =>
  .op (.mv (e 1)) fun t22 =>
  .op (.bin .and t22 (.int .i64 1023)) fun t23 =>
  .op (.mv (e 2)) fun t24 =>
  .op (.bin .and t24 (.int .i64 1023)) fun t25 =>
  .op (.mv t23) fun t1 =>
  .op (.mv t25) fun t2 =>
  .done ((e.upd 1 t1).upd 2 t2)
theorem d4_r6_run {CP : CProg} (e : Env) (h : Heap) (Q : Post) : RunR CP (d4_r6 e) h Q ↔ RunR CP (
  .op (.mv (e 1)) fun t22 =>
  .op (.bin .and t22 (.int .i64 1023)) fun t23 =>
  .op (.mv (e 2)) fun t24 =>
  .op (.bin .and t24 (.int .i64 1023)) fun t25 =>
  .op (.mv t23) fun t1 =>
  .op (.mv t25) fun t2 =>
  .done ((e.upd 1 t1).upd 2 t2)) h Q := Iff.rfl
def d4_r7 : Env → Reg := fun e =>
  .op (.call 9 []) fun t26 =>
  .op (.mv t26) fun t7 =>
  .done (e.upd 7 t7)
theorem d4_r7_run {CP : CProg} (e : Env) (h : Heap) (Q : Post) : RunR CP (d4_r7 e) h Q ↔ RunR CP (
  .op (.call 9 []) fun t26 =>
  .op (.mv t26) fun t7 =>
  .done (e.upd 7 t7)) h Q := Iff.rfl
def d4_r8 : Env → Reg := fun e =>
  .op (.makeMap) fun t27 =>
  .op (.mv t27) fun t8 =>
  .done (e.upd 8 t8)
theorem d4_r8_run {CP : CProg} (e : Env) (h : Heap) (Q : Post) : RunR CP (d4_r8 e) h Q ↔ RunR CP (
  .op (.makeMap) fun t27 =>
  .op (.mv t27) fun t8 =>
  .done (e.upd 8 t8)) h Q := Iff.rfl
def d4_r9 : Env → Reg := fun e =>
  .op (.mv (e 0)) fun t28 =>
  .op (.lenSl t28) fun t29 =>
  .op (.mv (.int .i64 0)) fun t30 =>
  .done (((e.upd 28 t28).upd 29 t29).upd 30 t30)
theorem d4_r9_run {CP : CProg} (e : Env) (h : Heap) (Q : Post) : RunR CP (d4_r9 e) h Q ↔ RunR CP (
  .op (.mv (e 0)) fun t28 =>
  .op (.lenSl t28) fun t29 =>
  .op (.mv (.int .i64 0)) fun t30 =>
  .done (((e.upd 28 t28).upd 29 t29).upd 30 t30)) h Q := Iff.rfl
def d4_r10 : Env → Reg := fun e =>
  .op (.bin .lss (e 30) (e 29)) fun t31 =>
  .done (e.upd 31 t31)
theorem d4_r10_run {CP : CProg} (e : Env) (h : Heap) (Q : Post) : RunR CP (d4_r10 e) h Q ↔ RunR CP (
  .op (.bin .lss (e 30) (e 29)) fun t31 =>
  .done (e.upd 31 t31)) h Q := Iff.rfl
def d4_r11 : Env → Reg := fun e =>
  .op (.indexSl 4 (e 28) (e 30)) fun t32 =>
  .op (.load (some 4) t32) fun t33 =>
  .op (.alloc 24 [(.int .i64 0), (.string ⟨#[]⟩), (.int .i64 0), (.int .i64 0)]) fun t10 =>
  .op (.store 4 t10 t33) fun _ =>
  .done (e.upd 10 t10)
theorem d4_r11_run {CP : CProg} (e : Env) (h : Heap) (Q : Post) : RunR CP (d4_r11 e) h Q ↔ RunR CP (
  .op (.indexSl 4 (e 28) (e 30)) fun t32 =>
  .op (.load (some 4) t32) fun t33 =>
  .op (.alloc 24 [(.int .i64 0), (.string ⟨#[]⟩), (.int .i64 0), (.int .i64 0)]) fun t10 =>
  .op (.store 4 t10 t33) fun _ =>
  .done (e.upd 10 t10)) h Q := Iff.rfl
def d4_r12 : Env → Reg := fun e =>
  .op (.fieldAddr 0 (e 10)) fun t34 =>
  .op (.load none t34) fun t35 =>
  .op (.fieldAddr 1 (e 10)) fun t36 =>
  .op (.load none t36) fun t37 =>
  .op (.build [(.int .i64 0), (.string ⟨#[]⟩)] [(0, 1, t35), (1, 1, t37)]) fun t38 =>
  .op (.alloc 30 [(.int .i64 0), (.string ⟨#[]⟩)]) fun t11 =>
  .op (.store 2 t11 t38) fun _ =>
  .done (e.upd 11 t11)
theorem d4_r12_run {CP : CProg} (e : Env) (h : Heap) (Q : Post) : RunR CP (d4_r12 e) h Q ↔ RunR CP (
  .op (.fieldAddr 0 (e 10)) fun t34 =>
  .op (.load none t34) fun t35 =>
  .op (.fieldAddr 1 (e 10)) fun t36 =>
  .op (.load none t36) fun t37 =>
  .op (.build [(.int .i64 0), (.string ⟨#[]⟩)] [(0, 1, t35), (1, 1, t37)]) fun t38 =>
  .op (.alloc 30 [(.int .i64 0), (.string ⟨#[]⟩)]) fun t11 =>
  .op (.store 2 t11 t38) fun _ =>
  .done (e.upd 11 t11)) h Q := Iff.rfl
def d4_r13 : Env → Reg := fun e =>
  .op (.mv (e 7)) fun t39 =>
  .op (.load (some 2) (e 11)) fun t40 =>
  .op (.fieldAddr 2 (e 10)) fun t41 =>
  .op (.load none t41) fun t42 =>
  .op (.fieldAddr 3 (e 10)) fun t43 =>
  .op (.load none t43) fun t44 =>
  .op (.call 10 [t39, t40, t42, t44]) fun t45 =>
  .done e
theorem d4_r13_run {CP : CProg} (e : Env) (h : Heap) (Q : Post) : RunR CP (d4_r13 e) h Q ↔ RunR CP (
  .op (.mv (e 7)) fun t39 =>
  .op (.load (some 2) (e 11)) fun t40 =>
  .op (.fieldAddr 2 (e 10)) fun t41 =>
  .op (.load none t41) fun t42 =>
  .op (.fieldAddr 3 (e 10)) fun t43 =>
  .op (.load none t43) fun t44 =>
  .op (.call 10 [t39, t40, t42, t44]) fun t45 =>
  .done e) h Q := Iff.rfl
def d4_r14 : Env → Reg := fun e =>
  .op (.mv (e 8)) fun t46 =>
  .op (.load (some 2) (e 11)) fun t47 =>
  .op (.lookup (.agg [.int, .str]) (.int .i64 0) false t46 t47) fun t48 =>
  .op (.bin .add t48 (.int .i64 0)) fun t49 =>
  .snap fun h4 =>
  .op (.mapEntry (.agg [.int, .str]) (.int .i64 0) t46 t47) fun t50 =>
  .chk none none (.lookup (.agg [.int, .str]) (.int .i64 0) false t46 t47) t48 <|
  .op (.extract t50 1) fun t51 =>
  .snap fun h6 =>
  .op (.entryStore t46 t51 t49) fun _ =>
  .done e
theorem d4_r14_run {CP : CProg} (e : Env) (h : Heap) (Q : Post) : RunR CP (d4_r14 e) h Q ↔ RunR CP (
  .op (.mv (e 8)) fun t46 =>
  .op (.load (some 2) (e 11)) fun t47 =>
  .op (.lookup (.agg [.int, .str]) (.int .i64 0) false t46 t47) fun t48 =>
  .op (.bin .add t48 (.int .i64 0)) fun t49 =>
  .snap fun h4 =>
  .op (.mapEntry (.agg [.int, .str]) (.int .i64 0) t46 t47) fun t50 =>
  .chk none none (.lookup (.agg [.int, .str]) (.int .i64 0) false t46 t47) t48 <|
  .op (.extract t50 1) fun t51 =>
  .snap fun h6 =>
  .op (.entryStore t46 t51 t49) fun _ =>
  .done e) h Q := Iff.rfl
def d4_r15 : Env → Reg := fun e =>
  .op (.fieldAddr 2 (e 10)) fun t52 =>
  .op (.load none t52) fun t53 =>
  .op (.mv (e 1)) fun t54 =>
  .op (.bin .geq t53 t54) fun t55 =>
  .op (.mv t55) fun t56 =>
  .opg t56 true (.fieldAddr 2 (e 10)) fun t57 =>
  .opg t56 true (.load none t57) fun t58 =>
  .opg t56 true (.mv (e 2)) fun t59 =>
  .opg t56 true (.bin .lss t58 t59) fun t60 =>
  .op (.pick t56 t60 (.bool false)) fun t61 =>
  .done (e.upd 61 t61)
theorem d4_r15_run {CP : CProg} (e : Env) (h : Heap) (Q : Post) : RunR CP (d4_r15 e) h Q ↔ RunR CP (
  .op (.fieldAddr 2 (e 10)) fun t52 =>
  .op (.load none t52) fun t53 =>
  .op (.mv (e 1)) fun t54 =>
  .op (.bin .geq t53 t54) fun t55 =>
  .op (.mv t55) fun t56 =>
  .opg t56 true (.fieldAddr 2 (e 10)) fun t57 =>
  .opg t56 true (.load none t57) fun t58 =>
  .opg t56 true (.mv (e 2)) fun t59 =>
  .opg t56 true (.bin .lss t58 t59) fun t60 =>
  .op (.pick t56 t60 (.bool false)) fun t61 =>
  .done (e.upd 61 t61)) h Q := Iff.rfl
def d4_r16_c1 (e : Env) (t62 : Value) (t63 : Value) (t64 : Value) (t67 : Value) (t68 : Value) : Reg :=
  .chk none none (.lookup (.agg [.int, .str]) (.int .i64 0) false t62 t63) t64 <|
  .op (.extract t68 1) fun t69 =>
  .snap fun h8 =>
  .op (.entryStore t62 t69 t67) fun _ =>
  .done e
theorem d4_r16_c1_run {CP : CProg} (e : Env) (t62 : Value) (t63 : Value) (t64 : Value) (t67 : Value) (t68 : Value) (h : Heap) (Q : Post) : RunR CP (d4_r16_c1 e t62 t63 t64 t67 t68) h Q ↔ RunR CP (
  .chk none none (.lookup (.agg [.int, .str]) (.int .i64 0) false t62 t63) t64 <|
  .op (.extract t68 1) fun t69 =>
  .snap fun h8 =>
  .op (.entryStore t62 t69 t67) fun _ =>
  .done e) h Q := Iff.rfl
def d4_r16 : Env → Reg := fun e =>
  .op (.mv (e 8)) fun t62 =>
  .op (.load (some 2) (e 11)) fun t63 =>
  .op (.lookup (.agg [.int, .str]) (.int .i64 0) false t62 t63) fun t64 =>
  .op (.fieldAddr 3 (e 10)) fun t65 =>
  .op (.load none t65) fun t66 =>
  .op (.bin .add t64 t66) fun t67 =>
  .snap fun h6 =>
  .op (.mapEntry (.agg [.int, .str]) (.int .i64 0) t62 t63) fun t68 =>
  d4_r16_c1 e t62 t63 t64 t67 t68
theorem d4_r16_run {CP : CProg} (e : Env) (h : Heap) (Q : Post) : RunR CP (d4_r16 e) h Q ↔ RunR CP (
  .op (.mv (e 8)) fun t62 =>
  .op (.load (some 2) (e 11)) fun t63 =>
  .op (.lookup (.agg [.int, .str]) (.int .i64 0) false t62 t63) fun t64 =>
  .op (.fieldAddr 3 (e 10)) fun t65 =>
  .op (.load none t65) fun t66 =>
  .op (.bin .add t64 t66) fun t67 =>
  .snap fun h6 =>
  .op (.mapEntry (.agg [.int, .str]) (.int .i64 0) t62 t63) fun t68 =>
  d4_r16_c1 e t62 t63 t64 t67 t68) h Q := Iff.rfl
def d4_r17 : Env → Reg := fun e =>
  .op (.bin .add (e 30) (.int .i64 1)) fun t70 =>
  .op (.mv t70) fun t30 =>
  .done (e.upd 30 t30)
theorem d4_r17_run {CP : CProg} (e : Env) (h : Heap) (Q : Post) : RunR CP (d4_r17 e) h Q ↔ RunR CP (
  .op (.bin .add (e 30) (.int .i64 1)) fun t70 =>
  .op (.mv t70) fun t30 =>
  .done (e.upd 30 t30)) h Q := Iff.rfl
def d4_l0 : CD := (.seq (.lift (.region d4_r10)) (.seq (.cond (fun e => e 31) (.lift .skip) (.lift (.exit 0))) (.seq (.block 1 (.seq (.lift (.region d4_r11)) (.seq (.lift (.region d4_r12)) (.seq (.lift (.region d4_r13)) (.seq (.lift (.region d4_r14)) (.seq (.lift (.region d4_r15)) (.cond (fun e => e 61) (.lift (.region d4_r16)) (.lift .skip)))))))) (.lift (.region d4_r17)))))
def d4_r18 : Env → RD := fun e =>
  .op (.mv (e 7)) fun t71 =>
  .dcall 13 [t71] fun t72 =>
  .op (.mv t72) fun t12 =>
  .done (e.upd 12 t12)
theorem d4_r18_run {CP : CProg} {DS : DSem} (e : Env) (h : Heap) (Q : Post) : runRD CP DS (d4_r18 e) h Q ↔ runRD CP DS (
  .op (.mv (e 7)) fun t71 =>
  .dcall 13 [t71] fun t72 =>
  .op (.mv t72) fun t12 =>
  .done (e.upd 12 t12)) h Q := Iff.rfl
def d4_r19 : Env → Reg := fun e =>
  .op (.mv (e 12)) fun t73 =>
  .op (.lenSl t73) fun t74 =>
  .op (.mv (e 8)) fun t75 =>
  .op (.lenMap t75) fun t76 =>
  .op (.bin .neq t74 t76) fun t77 =>
  .done (e.upd 77 t77)
theorem d4_r19_run {CP : CProg} (e : Env) (h : Heap) (Q : Post) : RunR CP (d4_r19 e) h Q ↔ RunR CP (
  .op (.mv (e 12)) fun t73 =>
  .op (.lenSl t73) fun t74 =>
  .op (.mv (e 8)) fun t75 =>
  .op (.lenMap t75) fun t76 =>
  .op (.bin .neq t74 t76) fun t77 =>
  .done (e.upd 77 t77)) h Q := Iff.rfl
def d4_r20 : Env → Reg := fun e =>
  .op (.mv (.bool false)) fun t6 =>
  .done (e.upd 6 t6)
theorem d4_r20_run {CP : CProg} (e : Env) (h : Heap) (Q : Post) : RunR CP (d4_r20 e) h Q ↔ RunR CP (
  .op (.mv (.bool false)) fun t6 =>
  .done (e.upd 6 t6)) h Q := Iff.rfl
def d4_r21 : Env → Reg := fun e =>
  .op (.mv (e 12)) fun t78 =>
  .op (.lenSl t78) fun t79 =>
  .op (.mv (.int .i64 0)) fun t80 =>
  .done (((e.upd 78 t78).upd 79 t79).upd 80 t80)
theorem d4_r21_run {CP : CProg} (e : Env) (h : Heap) (Q : Post) : RunR CP (d4_r21 e) h Q ↔ RunR CP (
  .op (.mv (e 12)) fun t78 =>
  .op (.lenSl t78) fun t79 =>
  .op (.mv (.int .i64 0)) fun t80 =>
  .done (((e.upd 78 t78).upd 79 t79).upd 80 t80)) h Q := Iff.rfl
def d4_r22 : Env → Reg := fun e =>
  .op (.bin .lss (e 80) (e 79)) fun t81 =>
  .done (e.upd 81 t81)
theorem d4_r22_run {CP : CProg} (e : Env) (h : Heap) (Q : Post) : RunR CP (d4_r22 e) h Q ↔ RunR CP (
  .op (.bin .lss (e 80) (e 79)) fun t81 =>
  .done (e.upd 81 t81)) h Q := Iff.rfl
def d4_r23 : Env → Reg := fun e =>
  .op (.mv (e 80)) fun t82 =>
  .op (.indexSl 2 (e 78) (e 80)) fun t83 =>
  .op (.load (some 2) t83) fun t84 =>
  .op (.alloc 30 [(.int .i64 0), (.string ⟨#[]⟩)]) fun t14 =>
  .op (.mv t82) fun t13 =>
  .op (.store 2 t14 t84) fun _ =>
  .done ((e.upd 14 t14).upd 13 t13)
theorem d4_r23_run {CP : CProg} (e : Env) (h : Heap) (Q : Post) : RunR CP (d4_r23 e) h Q ↔ RunR CP (
  .op (.mv (e 80)) fun t82 =>
  .op (.indexSl 2 (e 78) (e 80)) fun t83 =>
  .op (.load (some 2) t83) fun t84 =>
  .op (.alloc 30 [(.int .i64 0), (.string ⟨#[]⟩)]) fun t14 =>
  .op (.mv t82) fun t13 =>
  .op (.store 2 t14 t84) fun _ =>
  .done ((e.upd 14 t14).upd 13 t13)) h Q := Iff.rfl
def d4_r24_c5 (e : Env) (t94 : Value) (t97 : Value) (t107 : Value) (t117 : Value) (t121 : Value) : Reg :=
  .opg t117 true (.fieldAddr 1 t121) fun t122 =>
  .opg t117 true (.load none t122) fun t123 =>
  .opg t117 true (.fieldAddr 1 (e 14)) fun t124 =>
  .opg t117 true (.load none t124) fun t125 =>
  .opg t117 true (.bin .geq t123 t125) fun t126 =>
  .opg t107 false (.pick t117 t126 (.bool false)) fun t127 =>
  .opg t97 true (.pick t107 (.bool true) t127) fun t128 =>
  .opg t94 false (.pick t97 t128 (.bool false)) fun t129 =>
  .op (.pick t94 (.bool true) t129) fun t130 =>
  .done (e.upd 130 t130)
theorem d4_r24_c5_run {CP : CProg} (e : Env) (t94 : Value) (t97 : Value) (t107 : Value) (t117 : Value) (t121 : Value) (h : Heap) (Q : Post) : RunR CP (d4_r24_c5 e t94 t97 t107 t117 t121) h Q ↔ RunR CP (
  .opg t117 true (.fieldAddr 1 t121) fun t122 =>
  .opg t117 true (.load none t122) fun t123 =>
  .opg t117 true (.fieldAddr 1 (e 14)) fun t124 =>
  .opg t117 true (.load none t124) fun t125 =>
  .opg t117 true (.bin .geq t123 t125) fun t126 =>
  .opg t107 false (.pick t117 t126 (.bool false)) fun t127 =>
  .opg t97 true (.pick t107 (.bool true) t127) fun t128 =>
  .opg t94 false (.pick t97 t128 (.bool false)) fun t129 =>
  .op (.pick t94 (.bool true) t129) fun t130 =>
  .done (e.upd 130 t130)) h Q := Iff.rfl
def d4_r24_c4 (e : Env) (t94 : Value) (t97 : Value) (t107 : Value) (t113 : Value) : Reg :=
  .opg t107 false (.fieldAddr 0 (e 14)) fun t114 =>
  .opg t107 false (.load none t114) fun t115 =>
  .opg t107 false (.bin .eql t113 t115) fun t116 =>
  .opg t107 false (.mv t116) fun t117 =>
  .opg t117 true (.mv (e 12)) fun t118 =>
  .opg t117 true (.mv (e 13)) fun t119 =>
  .opg t117 true (.bin .sub t119 (.int .i64 1)) fun t120 =>
  .opg t117 true (.indexSl 2 t118 t120) fun t121 =>
  d4_r24_c5 e t94 t97 t107 t117 t121
theorem d4_r24_c4_run {CP : CProg} (e : Env) (t94 : Value) (t97 : Value) (t107 : Value) (t113 : Value) (h : Heap) (Q : Post) : RunR CP (d4_r24_c4 e t94 t97 t107 t113) h Q ↔ RunR CP (
  .opg t107 false (.fieldAddr 0 (e 14)) fun t114 =>
  .opg t107 false (.load none t114) fun t115 =>
  .opg t107 false (.bin .eql t113 t115) fun t116 =>
  .opg t107 false (.mv t116) fun t117 =>
  .opg t117 true (.mv (e 12)) fun t118 =>
  .opg t117 true (.mv (e 13)) fun t119 =>
  .opg t117 true (.bin .sub t119 (.int .i64 1)) fun t120 =>
  .opg t117 true (.indexSl 2 t118 t120) fun t121 =>
  d4_r24_c5 e t94 t97 t107 t117 t121) h Q := Iff.rfl
def d4_r24_c3 (e : Env) (t94 : Value) (t97 : Value) (t103 : Value) (t105 : Value) : Reg :=
  .opg t97 true (.bin .gtr t103 t105) fun t106 =>
  .opg t97 true (.mv t106) fun t107 =>
  .opg t107 false (.mv (e 12)) fun t108 =>
  .opg t107 false (.mv (e 13)) fun t109 =>
  .opg t107 false (.bin .sub t109 (.int .i64 1)) fun t110 =>
  .opg t107 false (.indexSl 2 t108 t110) fun t111 =>
  .opg t107 false (.fieldAddr 0 t111) fun t112 =>
  .opg t107 false (.load none t112) fun t113 =>
  d4_r24_c4 e t94 t97 t107 t113
theorem d4_r24_c3_run {CP : CProg} (e : Env) (t94 : Value) (t97 : Value) (t103 : Value) (t105 : Value) (h : Heap) (Q : Post) : RunR CP (d4_r24_c3 e t94 t97 t103 t105) h Q ↔ RunR CP (
  .opg t97 true (.bin .gtr t103 t105) fun t106 =>
  .opg t97 true (.mv t106) fun t107 =>
  .opg t107 false (.mv (e 12)) fun t108 =>
  .opg t107 false (.mv (e 13)) fun t109 =>
  .opg t107 false (.bin .sub t109 (.int .i64 1)) fun t110 =>
  .opg t107 false (.indexSl 2 t108 t110) fun t111 =>
  .opg t107 false (.fieldAddr 0 t111) fun t112 =>
  .opg t107 false (.load none t112) fun t113 =>
  d4_r24_c4 e t94 t97 t107 t113) h Q := Iff.rfl
def d4_r24_c2 (e : Env) (t94 : Value) (t97 : Value) : Reg :=
  .opg t97 true (.mv (e 12)) fun t98 =>
  .opg t97 true (.mv (e 13)) fun t99 =>
  .opg t97 true (.bin .sub t99 (.int .i64 1)) fun t100 =>
  .opg t97 true (.indexSl 2 t98 t100) fun t101 =>
  .opg t97 true (.fieldAddr 0 t101) fun t102 =>
  .opg t97 true (.load none t102) fun t103 =>
  .opg t97 true (.fieldAddr 0 (e 14)) fun t104 =>
  .opg t97 true (.load none t104) fun t105 =>
  d4_r24_c3 e t94 t97 t103 t105
theorem d4_r24_c2_run {CP : CProg} (e : Env) (t94 : Value) (t97 : Value) (h : Heap) (Q : Post) : RunR CP (d4_r24_c2 e t94 t97) h Q ↔ RunR CP (
  .opg t97 true (.mv (e 12)) fun t98 =>
  .opg t97 true (.mv (e 13)) fun t99 =>
  .opg t97 true (.bin .sub t99 (.int .i64 1)) fun t100 =>
  .opg t97 true (.indexSl 2 t98 t100) fun t101 =>
  .opg t97 true (.fieldAddr 0 t101) fun t102 =>
  .opg t97 true (.load none t102) fun t103 =>
  .opg t97 true (.fieldAddr 0 (e 14)) fun t104 =>
  .opg t97 true (.load none t104) fun t105 =>
  d4_r24_c3 e t94 t97 t103 t105) h Q := Iff.rfl
def d4_r24_c1 (e : Env) (h4 : Heap) (t89 : Value) (t90 : Value) (t91 : Value) : Reg :=
  .chk none (some h4) (.load (some 2) (e 14)) t91 <|
  .op (.lookup (.agg [.int, .str]) (.int .i64 0) false t90 t91) fun t92 =>
  .chk none (some h4) (.lookup (.agg [.int, .str]) (.int .i64 0) false t90 t91) t92 <|
  .op (.bin .neq t89 t92) fun t93 =>
  .op (.mv t93) fun t94 =>
  .opg t94 false (.mv (e 13)) fun t95 =>
  .opg t94 false (.bin .gtr t95 (.int .i64 0)) fun t96 =>
  .opg t94 false (.mv t96) fun t97 =>
  d4_r24_c2 e t94 t97
theorem d4_r24_c1_run {CP : CProg} (e : Env) (h4 : Heap) (t89 : Value) (t90 : Value) (t91 : Value) (h : Heap) (Q : Post) : RunR CP (d4_r24_c1 e h4 t89 t90 t91) h Q ↔ RunR CP (
  .chk none (some h4) (.load (some 2) (e 14)) t91 <|
  .op (.lookup (.agg [.int, .str]) (.int .i64 0) false t90 t91) fun t92 =>
  .chk none (some h4) (.lookup (.agg [.int, .str]) (.int .i64 0) false t90 t91) t92 <|
  .op (.bin .neq t89 t92) fun t93 =>
  .op (.mv t93) fun t94 =>
  .opg t94 false (.mv (e 13)) fun t95 =>
  .opg t94 false (.bin .gtr t95 (.int .i64 0)) fun t96 =>
  .opg t94 false (.mv t96) fun t97 =>
  d4_r24_c2 e t94 t97) h Q := Iff.rfl
def d4_r24 : Env → Reg := fun e =>
  .op (.mv (e 7)) fun t85 =>
  .op (.load (some 2) (e 14)) fun t86 =>
  .op (.mv (e 1)) fun t87 =>
  .op (.mv (e 2)) fun t88 =>
  .snap fun h4 =>
  .op (.call 12 [t85, t86, t87, t88]) fun t89 =>
  .op (.mv (e 8)) fun t90 =>
  .op (.load (some 2) (e 14)) fun t91 =>
  d4_r24_c1 e h4 t89 t90 t91
theorem d4_r24_run {CP : CProg} (e : Env) (h : Heap) (Q : Post) : RunR CP (d4_r24 e) h Q ↔ RunR CP (
  .op (.mv (e 7)) fun t85 =>
  .op (.load (some 2) (e 14)) fun t86 =>
  .op (.mv (e 1)) fun t87 =>
  .op (.mv (e 2)) fun t88 =>
  .snap fun h4 =>
  .op (.call 12 [t85, t86, t87, t88]) fun t89 =>
  .op (.mv (e 8)) fun t90 =>
  .op (.load (some 2) (e 14)) fun t91 =>
  d4_r24_c1 e h4 t89 t90 t91) h Q := Iff.rfl
def d4_r25 : Env → Reg := fun e =>
  .op (.mv (.bool false)) fun t6 =>
  .done (e.upd 6 t6)
theorem d4_r25_run {CP : CProg} (e : Env) (h : Heap) (Q : Post) : RunR CP (d4_r25 e) h Q ↔ RunR CP (
  .op (.mv (.bool false)) fun t6 =>
  .done (e.upd 6 t6)) h Q := Iff.rfl
def d4_r26 : Env → Reg := fun e =>
  .op (.bin .add (e 80) (.int .i64 1)) fun t131 =>
  .op (.mv t131) fun t80 =>
  .done (e.upd 80 t80)
theorem d4_r26_run {CP : CProg} (e : Env) (h : Heap) (Q : Post) : RunR CP (d4_r26 e) h Q ↔ RunR CP (
  .op (.bin .add (e 80) (.int .i64 1)) fun t131 =>
  .op (.mv t131) fun t80 =>
  .done (e.upd 80 t80)) h Q := Iff.rfl
def d4_l1 : CD := (.seq (.lift (.region d4_r22)) (.seq (.cond (fun e => e 81) (.lift .skip) (.lift (.exit 2))) (.seq (.block 3 (.seq (.lift (.region d4_r23)) (.seq (.lift (.region d4_r24)) (.cond (fun e => e 130) (.seq (.lift (.region d4_r25)) (.lift .ret)) (.lift .skip))))) (.lift (.region d4_r26)))))
def d4_r27 : Env → Reg := fun e =>
  .op (.mv (e 7)) fun t132 =>
  .op (.build [(.int .i64 0), (.string ⟨#[]⟩)] [(0, 1, (.int .i64 9))]) fun t133 =>
  .op (.call 12 [t132, t133, (.int .i64 0), (.int .i64 2000)]) fun t134 =>
  .op (.bin .eql t134 (.int .i64 0)) fun t135 =>
  .op (.mv t135) fun t6 =>
  .done (e.upd 6 t6)
theorem d4_r27_run {CP : CProg} (e : Env) (h : Heap) (Q : Post) : RunR CP (d4_r27 e) h Q ↔ RunR CP (
  .op (.mv (e 7)) fun t132 =>
  .op (.build [(.int .i64 0), (.string ⟨#[]⟩)] [(0, 1, (.int .i64 9))]) fun t133 =>
  .op (.call 12 [t132, t133, (.int .i64 0), (.int .i64 2000)]) fun t134 =>
  .op (.bin .eql t134 (.int .i64 0)) fun t135 =>
  .op (.mv t135) fun t6 =>
  .done (e.upd 6 t6)) h Q := Iff.rfl
def d4 : DFn := ⟨(.seq (.lift (.region d4_r0)) (.seq (.seq (.lift (.region d4_r1)) (.cond (fun e => e 16) (.seq (.lift (.region d4_r2)) (.lift .ret)) (.lift .skip))) (.seq (.seq (.lift (.region d4_r3)) (.cond (fun e => e 19) (.seq (.lift (.region d4_r4)) (.lift .ret)) (.lift .skip))) (.seq (.lift (.region d4_r5)) (.seq (.lift (.region d4_r6)) (.seq (.lift (.region d4_r7)) (.seq (.lift (.region d4_r8)) (.seq (.seq (.lift (.region d4_r9)) (.block 0 (.loop d4_l0))) (.seq (.rd d4_r18) (.seq (.seq (.lift (.region d4_r19)) (.cond (fun e => e 77) (.seq (.lift (.region d4_r20)) (.lift .ret)) (.lift .skip))) (.seq (.seq (.lift (.region d4_r21)) (.block 2 (.loop d4_l1))) (.seq (.lift (.region d4_r27)) (.lift .ret))))))))))))), [.t 6]⟩
-- 6: weighbridge/weighbridgelaw20.AuditTurned
def d6_r0 : Env → Reg := fun e =>
  .op (.mv (.bool false)) fun t4 =>
  .done (e.upd 4 t4)
theorem d6_r0_run {CP : CProg} (e : Env) (h : Heap) (Q : Post) : RunR CP (d6_r0 e) h Q ↔ RunR CP (
  .op (.mv (.bool false)) fun t4 =>
  .done (e.upd 4 t4)) h Q := Iff.rfl
def d6_r1 : Env → Reg := fun e =>
  .op (.call 7 []) fun t14 =>
  .op (.un .not t14) fun t15 =>
  .done (e.upd 15 t15)
theorem d6_r1_run {CP : CProg} (e : Env) (h : Heap) (Q : Post) : RunR CP (d6_r1 e) h Q ↔ RunR CP (
  .op (.call 7 []) fun t14 =>
  .op (.un .not t14) fun t15 =>
  .done (e.upd 15 t15)) h Q := Iff.rfl
def d6_r2 : Env → Reg := fun e =>
  .op (.mv (.bool false)) fun t4 =>
  .done (e.upd 4 t4)
theorem d6_r2_run {CP : CProg} (e : Env) (h : Heap) (Q : Post) : RunR CP (d6_r2 e) h Q ↔ RunR CP (
  .op (.mv (.bool false)) fun t4 =>
  .done (e.upd 4 t4)) h Q := Iff.rfl
def d6_r3 : Env → Reg := fun e =>
  .op (.mv (e 0)) fun t16 =>
  .op (.lenSl t16) fun t17 =>
  .op (.bin .gtr t17 (.int .i64 80)) fun t18 =>
  .done (e.upd 18 t18)
theorem d6_r3_run {CP : CProg} (e : Env) (h : Heap) (Q : Post) : RunR CP (d6_r3 e) h Q ↔ RunR CP (
  .op (.mv (e 0)) fun t16 =>
  .op (.lenSl t16) fun t17 =>
  .op (.bin .gtr t17 (.int .i64 80)) fun t18 =>
  .done (e.upd 18 t18)) h Q := Iff.rfl
def d6_r4 : Env → Reg := fun e =>
  .op (.mv (.bool true)) fun t4 =>
  .done (e.upd 4 t4)
theorem d6_r4_run {CP : CProg} (e : Env) (h : Heap) (Q : Post) : RunR CP (d6_r4 e) h Q ↔ RunR CP (
  .op (.mv (.bool true)) fun t4 =>
  .done (e.upd 4 t4)) h Q := Iff.rfl
def d6_r5 : Env → Reg := fun e =>
  .op (.mv (e 0)) fun t19 =>
  .op (.call 8 [t19]) fun t20 =>
  .op (.mv t20) fun t0 =>
  .done (e.upd 0 t0)
theorem d6_r5_run {CP : CProg} (e : Env) (h : Heap) (Q : Post) : RunR CP (d6_r5 e) h Q ↔ RunR CP (
  .op (.mv (e 0)) fun t19 =>
  .op (.call 8 [t19]) fun t20 =>
  .op (.mv t20) fun t0 =>
  .done (e.upd 0 t0)) h Q := Iff.rfl
def d6_r6 : Env → Reg := fun e =>
  .op (.mv (e 1)) fun t21 =>
  .op (.bin .and t21 (.int .i64 255)) fun t22 =>
  .op (.mv t22) fun t1 =>
  .done (e.upd 1 t1)
theorem d6_r6_run {CP : CProg} (e : Env) (h : Heap) (Q : Post) : RunR CP (d6_r6 e) h Q ↔ RunR CP (
  .op (.mv (e 1)) fun t21 =>
  .op (.bin .and t21 (.int .i64 255)) fun t22 =>
  .op (.mv t22) fun t1 =>
  .done (e.upd 1 t1)) h Q := Iff.rfl
def d6_r7 : Env → Reg := fun e =>
  .op (.call 9 []) fun t23 =>
  .op (.call 9 []) fun t24 =>
  .op (.mv t23) fun t5 =>
  .op (.mv t24) fun t6 =>
  .done ((e.upd 5 t5).upd 6 t6)
theorem d6_r7_run {CP : CProg} (e : Env) (h : Heap) (Q : Post) : RunR CP (d6_r7 e) h Q ↔ RunR CP (
  .op (.call 9 []) fun t23 =>
  .op (.call 9 []) fun t24 =>
  .op (.mv t23) fun t5 =>
  .op (.mv t24) fun t6 =>
  .done ((e.upd 5 t5).upd 6 t6)) h Q := Iff.rfl
def d6_r8 : Env → Reg := fun e =>
  .op (.mv (e 0)) fun t25 =>
  .op (.lenSl t25) fun t26 =>
  .op (.mv (.int .i64 0)) fun t27 =>
  .done (((e.upd 25 t25).upd 26 t26).upd 27 t27)
theorem d6_r8_run {CP : CProg} (e : Env) (h : Heap) (Q : Post) : RunR CP (d6_r8 e) h Q ↔ RunR CP (
  .op (.mv (e 0)) fun t25 =>
  .op (.lenSl t25) fun t26 =>
  .op (.mv (.int .i64 0)) fun t27 =>
  .done (((e.upd 25 t25).upd 26 t26).upd 27 t27)) h Q := Iff.rfl
def d6_r9 : Env → Reg := fun e =>
  .op (.bin .lss (e 27) (e 26)) fun t28 =>
  .done (e.upd 28 t28)
theorem d6_r9_run {CP : CProg} (e : Env) (h : Heap) (Q : Post) : RunR CP (d6_r9 e) h Q ↔ RunR CP (
  .op (.bin .lss (e 27) (e 26)) fun t28 =>
  .done (e.upd 28 t28)) h Q := Iff.rfl
def d6_r10 : Env → Reg := fun e =>
  .op (.mv (e 27)) fun t29 =>
  .op (.indexSl 4 (e 25) (e 27)) fun t30 =>
  .op (.load (some 4) t30) fun t31 =>
  .op (.alloc 24 [(.int .i64 0), (.string ⟨#[]⟩), (.int .i64 0), (.int .i64 0)]) fun t8 =>
  .op (.mv t29) fun t7 =>
  .op (.store 4 t8 t31) fun _ =>
  .done ((e.upd 8 t8).upd 7 t7)
theorem d6_r10_run {CP : CProg} (e : Env) (h : Heap) (Q : Post) : RunR CP (d6_r10 e) h Q ↔ RunR CP (
  .op (.mv (e 27)) fun t29 =>
  .op (.indexSl 4 (e 25) (e 27)) fun t30 =>
  .op (.load (some 4) t30) fun t31 =>
  .op (.alloc 24 [(.int .i64 0), (.string ⟨#[]⟩), (.int .i64 0), (.int .i64 0)]) fun t8 =>
  .op (.mv t29) fun t7 =>
  .op (.store 4 t8 t31) fun _ =>
  .done ((e.upd 8 t8).upd 7 t7)) h Q := Iff.rfl
def d6_r11_c1 (e : Env) (t32 : Value) (t37 : Value) (t39 : Value) : Reg :=
  .op (.fieldAddr 3 (e 8)) fun t40 =>
  .op (.load none t40) fun t41 =>
  .op (.call 10 [t32, t37, t39, t41]) fun t42 =>
  .done e
theorem d6_r11_c1_run {CP : CProg} (e : Env) (t32 : Value) (t37 : Value) (t39 : Value) (h : Heap) (Q : Post) : RunR CP (d6_r11_c1 e t32 t37 t39) h Q ↔ RunR CP (
  .op (.fieldAddr 3 (e 8)) fun t40 =>
  .op (.load none t40) fun t41 =>
  .op (.call 10 [t32, t37, t39, t41]) fun t42 =>
  .done e) h Q := Iff.rfl
def d6_r11 : Env → Reg := fun e =>
  .op (.mv (e 5)) fun t32 =>
  .op (.fieldAddr 0 (e 8)) fun t33 =>
  .op (.load none t33) fun t34 =>
  .op (.fieldAddr 1 (e 8)) fun t35 =>
  .op (.load none t35) fun t36 =>
  .op (.build [(.int .i64 0), (.string ⟨#[]⟩)] [(0, 1, t34), (1, 1, t36)]) fun t37 =>
  .op (.fieldAddr 2 (e 8)) fun t38 =>
  .op (.load none t38) fun t39 =>
  d6_r11_c1 e t32 t37 t39
theorem d6_r11_run {CP : CProg} (e : Env) (h : Heap) (Q : Post) : RunR CP (d6_r11 e) h Q ↔ RunR CP (
  .op (.mv (e 5)) fun t32 =>
  .op (.fieldAddr 0 (e 8)) fun t33 =>
  .op (.load none t33) fun t34 =>
  .op (.fieldAddr 1 (e 8)) fun t35 =>
  .op (.load none t35) fun t36 =>
  .op (.build [(.int .i64 0), (.string ⟨#[]⟩)] [(0, 1, t34), (1, 1, t36)]) fun t37 =>
  .op (.fieldAddr 2 (e 8)) fun t38 =>
  .op (.load none t38) fun t39 =>
  d6_r11_c1 e t32 t37 t39) h Q := Iff.rfl
def d6_r12 : Env → Reg := fun e =>
  .op (.mv (e 0)) fun t43 =>
  .op (.mv (e 0)) fun t44 =>
  .op (.lenSl t44) fun t45 =>
  .op (.bin .sub t45 (.int .i64 1)) fun t46 =>
  .op (.mv (e 7)) fun t47 =>
  .op (.bin .sub t46 t47) fun t48 =>
  .op (.indexSl 4 t43 t48) fun t49 =>
  .op (.load (some 4) t49) fun t50 =>
  .op (.alloc 24 [(.int .i64 0), (.string ⟨#[]⟩), (.int .i64 0), (.int .i64 0)]) fun t9 =>
  .op (.store 4 t9 t50) fun _ =>
  .done (e.upd 9 t9)
theorem d6_r12_run {CP : CProg} (e : Env) (h : Heap) (Q : Post) : RunR CP (d6_r12 e) h Q ↔ RunR CP (
  .op (.mv (e 0)) fun t43 =>
  .op (.mv (e 0)) fun t44 =>
  .op (.lenSl t44) fun t45 =>
  .op (.bin .sub t45 (.int .i64 1)) fun t46 =>
  .op (.mv (e 7)) fun t47 =>
  .op (.bin .sub t46 t47) fun t48 =>
  .op (.indexSl 4 t43 t48) fun t49 =>
  .op (.load (some 4) t49) fun t50 =>
  .op (.alloc 24 [(.int .i64 0), (.string ⟨#[]⟩), (.int .i64 0), (.int .i64 0)]) fun t9 =>
  .op (.store 4 t9 t50) fun _ =>
  .done (e.upd 9 t9)) h Q := Iff.rfl
def d6_r13_c1 (e : Env) (t51 : Value) (t56 : Value) (t58 : Value) : Reg :=
  .op (.fieldAddr 3 (e 9)) fun t59 =>
  .op (.load none t59) fun t60 =>
  .op (.call 10 [t51, t56, t58, t60]) fun t61 =>
  .done e
theorem d6_r13_c1_run {CP : CProg} (e : Env) (t51 : Value) (t56 : Value) (t58 : Value) (h : Heap) (Q : Post) : RunR CP (d6_r13_c1 e t51 t56 t58) h Q ↔ RunR CP (
  .op (.fieldAddr 3 (e 9)) fun t59 =>
  .op (.load none t59) fun t60 =>
  .op (.call 10 [t51, t56, t58, t60]) fun t61 =>
  .done e) h Q := Iff.rfl
def d6_r13 : Env → Reg := fun e =>
  .op (.mv (e 6)) fun t51 =>
  .op (.fieldAddr 0 (e 9)) fun t52 =>
  .op (.load none t52) fun t53 =>
  .op (.fieldAddr 1 (e 9)) fun t54 =>
  .op (.load none t54) fun t55 =>
  .op (.build [(.int .i64 0), (.string ⟨#[]⟩)] [(0, 1, t53), (1, 1, t55)]) fun t56 =>
  .op (.fieldAddr 2 (e 9)) fun t57 =>
  .op (.load none t57) fun t58 =>
  d6_r13_c1 e t51 t56 t58
theorem d6_r13_run {CP : CProg} (e : Env) (h : Heap) (Q : Post) : RunR CP (d6_r13 e) h Q ↔ RunR CP (
  .op (.mv (e 6)) fun t51 =>
  .op (.fieldAddr 0 (e 9)) fun t52 =>
  .op (.load none t52) fun t53 =>
  .op (.fieldAddr 1 (e 9)) fun t54 =>
  .op (.load none t54) fun t55 =>
  .op (.build [(.int .i64 0), (.string ⟨#[]⟩)] [(0, 1, t53), (1, 1, t55)]) fun t56 =>
  .op (.fieldAddr 2 (e 9)) fun t57 =>
  .op (.load none t57) fun t58 =>
  d6_r13_c1 e t51 t56 t58) h Q := Iff.rfl
def d6_r14 : Env → Reg := fun e =>
  .op (.bin .add (e 27) (.int .i64 1)) fun t62 =>
  .op (.mv t62) fun t27 =>
  .done (e.upd 27 t27)
theorem d6_r14_run {CP : CProg} (e : Env) (h : Heap) (Q : Post) : RunR CP (d6_r14 e) h Q ↔ RunR CP (
  .op (.bin .add (e 27) (.int .i64 1)) fun t62 =>
  .op (.mv t62) fun t27 =>
  .done (e.upd 27 t27)) h Q := Iff.rfl
def d6_l0 : CD := (.seq (.lift (.region d6_r9)) (.seq (.cond (fun e => e 28) (.lift .skip) (.lift (.exit 0))) (.seq (.block 1 (.seq (.lift (.region d6_r10)) (.seq (.lift (.region d6_r11)) (.seq (.lift (.region d6_r12)) (.lift (.region d6_r13)))))) (.lift (.region d6_r14)))))
def d6_r15 : Env → RD := fun e =>
  .op (.mv (e 5)) fun t63 =>
  .dcall 13 [t63] fun t64 =>
  .op (.mv (e 6)) fun t65 =>
  .dcall 13 [t65] fun t66 =>
  .op (.mv t64) fun t10 =>
  .op (.mv t66) fun t11 =>
  .done ((e.upd 10 t10).upd 11 t11)
theorem d6_r15_run {CP : CProg} {DS : DSem} (e : Env) (h : Heap) (Q : Post) : runRD CP DS (d6_r15 e) h Q ↔ runRD CP DS (
  .op (.mv (e 5)) fun t63 =>
  .dcall 13 [t63] fun t64 =>
  .op (.mv (e 6)) fun t65 =>
  .dcall 13 [t65] fun t66 =>
  .op (.mv t64) fun t10 =>
  .op (.mv t66) fun t11 =>
  .done ((e.upd 10 t10).upd 11 t11)) h Q := Iff.rfl
def d6_r16 : Env → Reg := fun e =>
  .op (.mv (e 10)) fun t67 =>
  .op (.lenSl t67) fun t68 =>
  .op (.mv (e 11)) fun t69 =>
  .op (.lenSl t69) fun t70 =>
  .op (.bin .neq t68 t70) fun t71 =>
  .done (e.upd 71 t71)
theorem d6_r16_run {CP : CProg} (e : Env) (h : Heap) (Q : Post) : RunR CP (d6_r16 e) h Q ↔ RunR CP (
  .op (.mv (e 10)) fun t67 =>
  .op (.lenSl t67) fun t68 =>
  .op (.mv (e 11)) fun t69 =>
  .op (.lenSl t69) fun t70 =>
  .op (.bin .neq t68 t70) fun t71 =>
  .done (e.upd 71 t71)) h Q := Iff.rfl
def d6_r17 : Env → Reg := fun e =>
  .op (.mv (.bool false)) fun t4 =>
  .done (e.upd 4 t4)
theorem d6_r17_run {CP : CProg} (e : Env) (h : Heap) (Q : Post) : RunR CP (d6_r17 e) h Q ↔ RunR CP (
  .op (.mv (.bool false)) fun t4 =>
  .done (e.upd 4 t4)) h Q := Iff.rfl
def d6_r18 : Env → Reg := fun e =>
  .op (.mv (e 10)) fun t72 =>
  .op (.lenSl t72) fun t73 =>
  .op (.mv (.int .i64 0)) fun t74 =>
  .done (((e.upd 72 t72).upd 73 t73).upd 74 t74)
theorem d6_r18_run {CP : CProg} (e : Env) (h : Heap) (Q : Post) : RunR CP (d6_r18 e) h Q ↔ RunR CP (
  .op (.mv (e 10)) fun t72 =>
  .op (.lenSl t72) fun t73 =>
  .op (.mv (.int .i64 0)) fun t74 =>
  .done (((e.upd 72 t72).upd 73 t73).upd 74 t74)) h Q := Iff.rfl
def d6_r19 : Env → Reg := fun e =>
  .op (.bin .lss (e 74) (e 73)) fun t75 =>
  .done (e.upd 75 t75)
theorem d6_r19_run {CP : CProg} (e : Env) (h : Heap) (Q : Post) : RunR CP (d6_r19 e) h Q ↔ RunR CP (
  .op (.bin .lss (e 74) (e 73)) fun t75 =>
  .done (e.upd 75 t75)) h Q := Iff.rfl
def d6_r20 : Env → Reg := fun e =>
  .op (.mv (e 74)) fun t76 =>
  .op (.indexSl 2 (e 72) (e 74)) fun t77 =>
  .op (.load (some 2) t77) fun t78 =>
  .op (.alloc 30 [(.int .i64 0), (.string ⟨#[]⟩)]) fun t13 =>
  .op (.mv t76) fun t12 =>
  .op (.store 2 t13 t78) fun _ =>
  .done ((e.upd 13 t13).upd 12 t12)
theorem d6_r20_run {CP : CProg} (e : Env) (h : Heap) (Q : Post) : RunR CP (d6_r20 e) h Q ↔ RunR CP (
  .op (.mv (e 74)) fun t76 =>
  .op (.indexSl 2 (e 72) (e 74)) fun t77 =>
  .op (.load (some 2) t77) fun t78 =>
  .op (.alloc 30 [(.int .i64 0), (.string ⟨#[]⟩)]) fun t13 =>
  .op (.mv t76) fun t12 =>
  .op (.store 2 t13 t78) fun _ =>
  .done ((e.upd 13 t13).upd 12 t12)) h Q := Iff.rfl
def d6_r21_c3 (e : Env) (t96 : Value) (t97 : Value) (t98 : Value) (h20 : Heap) : Reg :=
  .opg t96 false (.call 12 [t97, t98, (.int .i64 10), (.int .i64 300)]) fun t99 =>
  .opg t96 false (.mv (e 6)) fun t100 =>
  .opg t96 false (.load (some 2) (e 13)) fun t101 =>
  .chk (some (t96, false)) (some h20) (.load (some 2) (e 13)) t101 <|
  .snap fun h23 =>
  .opg t96 false (.call 12 [t100, t101, (.int .i64 10), (.int .i64 300)]) fun t102 =>
  .opg t96 false (.bin .neq t99 t102) fun t103 =>
  .op (.pick t96 (.bool true) t103) fun t104 =>
  .done (e.upd 104 t104)
theorem d6_r21_c3_run {CP : CProg} (e : Env) (t96 : Value) (t97 : Value) (t98 : Value) (h20 : Heap) (h : Heap) (Q : Post) : RunR CP (d6_r21_c3 e t96 t97 t98 h20) h Q ↔ RunR CP (
  .opg t96 false (.call 12 [t97, t98, (.int .i64 10), (.int .i64 300)]) fun t99 =>
  .opg t96 false (.mv (e 6)) fun t100 =>
  .opg t96 false (.load (some 2) (e 13)) fun t101 =>
  .chk (some (t96, false)) (some h20) (.load (some 2) (e 13)) t101 <|
  .snap fun h23 =>
  .opg t96 false (.call 12 [t100, t101, (.int .i64 10), (.int .i64 300)]) fun t102 =>
  .opg t96 false (.bin .neq t99 t102) fun t103 =>
  .op (.pick t96 (.bool true) t103) fun t104 =>
  .done (e.upd 104 t104)) h Q := Iff.rfl
def d6_r21_c2 (e : Env) (t85 : Value) (t89 : Value) (t90 : Value) (t91 : Value) (t92 : Value) : Reg :=
  .snap fun h14 =>
  .opg t85 false (.call 11 [t90, t91, t92]) fun t93 =>
  .opg t85 false (.bin .neq t89 t93) fun t94 =>
  .op (.pick t85 (.bool true) t94) fun t95 =>
  .op (.mv t95) fun t96 =>
  .opg t96 false (.mv (e 5)) fun t97 =>
  .opg t96 false (.load (some 2) (e 13)) fun t98 =>
  .snap fun h20 =>
  d6_r21_c3 e t96 t97 t98 h20
theorem d6_r21_c2_run {CP : CProg} (e : Env) (t85 : Value) (t89 : Value) (t90 : Value) (t91 : Value) (t92 : Value) (h : Heap) (Q : Post) : RunR CP (d6_r21_c2 e t85 t89 t90 t91 t92) h Q ↔ RunR CP (
  .snap fun h14 =>
  .opg t85 false (.call 11 [t90, t91, t92]) fun t93 =>
  .opg t85 false (.bin .neq t89 t93) fun t94 =>
  .op (.pick t85 (.bool true) t94) fun t95 =>
  .op (.mv t95) fun t96 =>
  .opg t96 false (.mv (e 5)) fun t97 =>
  .opg t96 false (.load (some 2) (e 13)) fun t98 =>
  .snap fun h20 =>
  d6_r21_c3 e t96 t97 t98 h20) h Q := Iff.rfl
def d6_r21_c1 (e : Env) (t85 : Value) (t86 : Value) : Reg :=
  .opg t85 false (.load (some 2) (e 13)) fun t87 =>
  .opg t85 false (.mv (e 1)) fun t88 =>
  .snap fun h10 =>
  .opg t85 false (.call 11 [t86, t87, t88]) fun t89 =>
  .opg t85 false (.mv (e 6)) fun t90 =>
  .opg t85 false (.load (some 2) (e 13)) fun t91 =>
  .chk (some (t85, false)) (some h10) (.load (some 2) (e 13)) t91 <|
  .opg t85 false (.mv (e 1)) fun t92 =>
  d6_r21_c2 e t85 t89 t90 t91 t92
theorem d6_r21_c1_run {CP : CProg} (e : Env) (t85 : Value) (t86 : Value) (h : Heap) (Q : Post) : RunR CP (d6_r21_c1 e t85 t86) h Q ↔ RunR CP (
  .opg t85 false (.load (some 2) (e 13)) fun t87 =>
  .opg t85 false (.mv (e 1)) fun t88 =>
  .snap fun h10 =>
  .opg t85 false (.call 11 [t86, t87, t88]) fun t89 =>
  .opg t85 false (.mv (e 6)) fun t90 =>
  .opg t85 false (.load (some 2) (e 13)) fun t91 =>
  .chk (some (t85, false)) (some h10) (.load (some 2) (e 13)) t91 <|
  .opg t85 false (.mv (e 1)) fun t92 =>
  d6_r21_c2 e t85 t89 t90 t91 t92) h Q := Iff.rfl
def d6_r21 : Env → Reg := fun e =>
  .op (.mv (e 11)) fun t79 =>
  .op (.mv (e 12)) fun t80 =>
  .op (.indexSl 2 t79 t80) fun t81 =>
  .op (.load (some 2) t81) fun t82 =>
  .op (.load (some 2) (e 13)) fun t83 =>
  .op (.eqAgg true [.int, .str] t82 t83) fun t84 =>
  .op (.mv t84) fun t85 =>
  .opg t85 false (.mv (e 5)) fun t86 =>
  d6_r21_c1 e t85 t86
theorem d6_r21_run {CP : CProg} (e : Env) (h : Heap) (Q : Post) : RunR CP (d6_r21 e) h Q ↔ RunR CP (
  .op (.mv (e 11)) fun t79 =>
  .op (.mv (e 12)) fun t80 =>
  .op (.indexSl 2 t79 t80) fun t81 =>
  .op (.load (some 2) t81) fun t82 =>
  .op (.load (some 2) (e 13)) fun t83 =>
  .op (.eqAgg true [.int, .str] t82 t83) fun t84 =>
  .op (.mv t84) fun t85 =>
  .opg t85 false (.mv (e 5)) fun t86 =>
  d6_r21_c1 e t85 t86) h Q := Iff.rfl
def d6_r22 : Env → Reg := fun e =>
  .op (.mv (.bool false)) fun t4 =>
  .done (e.upd 4 t4)
theorem d6_r22_run {CP : CProg} (e : Env) (h : Heap) (Q : Post) : RunR CP (d6_r22 e) h Q ↔ RunR CP (
  .op (.mv (.bool false)) fun t4 =>
  .done (e.upd 4 t4)) h Q := Iff.rfl
def d6_r23 : Env → Reg := fun e =>
  .op (.bin .add (e 74) (.int .i64 1)) fun t105 =>
  .op (.mv t105) fun t74 =>
  .done (e.upd 74 t74)
theorem d6_r23_run {CP : CProg} (e : Env) (h : Heap) (Q : Post) : RunR CP (d6_r23 e) h Q ↔ RunR CP (
  .op (.bin .add (e 74) (.int .i64 1)) fun t105 =>
  .op (.mv t105) fun t74 =>
  .done (e.upd 74 t74)) h Q := Iff.rfl
def d6_l1 : CD := (.seq (.lift (.region d6_r19)) (.seq (.cond (fun e => e 75) (.lift .skip) (.lift (.exit 2))) (.seq (.block 3 (.seq (.lift (.region d6_r20)) (.seq (.lift (.region d6_r21)) (.cond (fun e => e 104) (.seq (.lift (.region d6_r22)) (.lift .ret)) (.lift .skip))))) (.lift (.region d6_r23)))))
def d6_r24 : Env → Reg := fun e =>
  .op (.mv (.bool true)) fun t4 =>
  .done (e.upd 4 t4)
theorem d6_r24_run {CP : CProg} (e : Env) (h : Heap) (Q : Post) : RunR CP (d6_r24 e) h Q ↔ RunR CP (
  .op (.mv (.bool true)) fun t4 =>
  .done (e.upd 4 t4)) h Q := Iff.rfl
def d6 : DFn := ⟨(.seq (.lift (.region d6_r0)) (.seq (.seq (.lift (.region d6_r1)) (.cond (fun e => e 15) (.seq (.lift (.region d6_r2)) (.lift .ret)) (.lift .skip))) (.seq (.seq (.lift (.region d6_r3)) (.cond (fun e => e 18) (.seq (.lift (.region d6_r4)) (.lift .ret)) (.lift .skip))) (.seq (.lift (.region d6_r5)) (.seq (.lift (.region d6_r6)) (.seq (.lift (.region d6_r7)) (.seq (.seq (.lift (.region d6_r8)) (.block 0 (.loop d6_l0))) (.seq (.rd d6_r15) (.seq (.seq (.lift (.region d6_r16)) (.cond (fun e => e 71) (.seq (.lift (.region d6_r17)) (.lift .ret)) (.lift .skip))) (.seq (.seq (.lift (.region d6_r18)) (.block 2 (.loop d6_l1))) (.seq (.lift (.region d6_r24)) (.lift .ret)))))))))))), [.t 4]⟩
-- 13: (*weighbridge/audit.Ledger).All
def d13_r0 : Env → Reg := fun e =>
  .op (.mv (.slice none 0 0)) fun t2 =>
  .done (e.upd 2 t2)
theorem d13_r0_run {CP : CProg} (e : Env) (h : Heap) (Q : Post) : RunR CP (d13_r0 e) h Q ↔ RunR CP (
  .op (.mv (.slice none 0 0)) fun t2 =>
  .done (e.upd 2 t2)) h Q := Iff.rfl
def d13_r1 : Env → Reg := fun e =>
  .op (.mv (.slice none 0 0)) fun t3 =>
  .done (e.upd 3 t3)
theorem d13_r1_run {CP : CProg} (e : Env) (h : Heap) (Q : Post) : RunR CP (d13_r1 e) h Q ↔ RunR CP (
  .op (.mv (.slice none 0 0)) fun t3 =>
  .done (e.upd 3 t3)) h Q := Iff.rfl
def d13_r2 : Env → Reg := fun e =>
  .op (.mv (e 0)) fun t5 =>
  .op (.eqK .ptr false t5 (.pointer none)) fun t6 =>
  .done (e.upd 6 t6)
theorem d13_r2_run {CP : CProg} (e : Env) (h : Heap) (Q : Post) : RunR CP (d13_r2 e) h Q ↔ RunR CP (
  .op (.mv (e 0)) fun t5 =>
  .op (.eqK .ptr false t5 (.pointer none)) fun t6 =>
  .done (e.upd 6 t6)) h Q := Iff.rfl
def d13_r3 : Env → Reg := fun e =>
  .op (.mv (.slice none 0 0)) fun t2 =>
  .done (e.upd 2 t2)
theorem d13_r3_run {CP : CProg} (e : Env) (h : Heap) (Q : Post) : RunR CP (d13_r3 e) h Q ↔ RunR CP (
  .op (.mv (.slice none 0 0)) fun t2 =>
  .done (e.upd 2 t2)) h Q := Iff.rfl
def d13_r4 : Env → Reg := fun e =>
  .op (.mv (e 0)) fun t7 =>
  .op (.nilCheck t7) fun t8 =>
  .op (.fieldAddr 0 t8) fun t9 =>
  .op (.load none t9) fun t10 =>
  .op (.rangeMap t10) fun t11 =>
  .done (e.upd 11 t11)
theorem d13_r4_run {CP : CProg} (e : Env) (h : Heap) (Q : Post) : RunR CP (d13_r4 e) h Q ↔ RunR CP (
  .op (.mv (e 0)) fun t7 =>
  .op (.nilCheck t7) fun t8 =>
  .op (.fieldAddr 0 t8) fun t9 =>
  .op (.load none t9) fun t10 =>
  .op (.rangeMap t10) fun t11 =>
  .done (e.upd 11 t11)) h Q := Iff.rfl
def d13_r5 : Env → Value → Reg := fun e v =>
  .op (.extract v 0) fun t13 =>
  .done (e.upd 13 t13)
theorem d13_r5_run {CP : CProg} (e : Env) (v : Value) (h : Heap) (Q : Post) : RunR CP (d13_r5 e v) h Q ↔ RunR CP (
  .op (.extract v 0) fun t13 =>
  .done (e.upd 13 t13)) h Q := Iff.rfl
def d13_r6 : Env → Value → Reg := fun e v =>
  .op (.extract v 0) fun t15 =>
  .op (.alloc 30 [(.int .i64 0), (.string ⟨#[]⟩)]) fun t4 =>
  .op (.store 2 t4 t15) fun _ =>
  .done (e.upd 4 t4)
theorem d13_r6_run {CP : CProg} (e : Env) (v : Value) (h : Heap) (Q : Post) : RunR CP (d13_r6 e v) h Q ↔ RunR CP (
  .op (.extract v 0) fun t15 =>
  .op (.alloc 30 [(.int .i64 0), (.string ⟨#[]⟩)]) fun t4 =>
  .op (.store 2 t4 t15) fun _ =>
  .done (e.upd 4 t4)) h Q := Iff.rfl
def d13_r7 : Env → Reg := fun e =>
  .op (.mv (e 3)) fun t16 =>
  .op (.load (some 2) (e 4)) fun t17 =>
  .op (.buildSlice 30 1 [(.int .i64 0), (.string ⟨#[]⟩)] [(0, 2, t17)]) fun t18 =>
  .op (.append 30 2 24 t16 t18) fun t19 =>
  .op (.mv t19) fun t3 =>
  .done (e.upd 3 t3)
theorem d13_r7_run {CP : CProg} (e : Env) (h : Heap) (Q : Post) : RunR CP (d13_r7 e) h Q ↔ RunR CP (
  .op (.mv (e 3)) fun t16 =>
  .op (.load (some 2) (e 4)) fun t17 =>
  .op (.buildSlice 30 1 [(.int .i64 0), (.string ⟨#[]⟩)] [(0, 2, t17)]) fun t18 =>
  .op (.append 30 2 24 t16 t18) fun t19 =>
  .op (.mv t19) fun t3 =>
  .done (e.upd 3 t3)) h Q := Iff.rfl
def d13_l0 : CD := (.seq (.draw (fun e => e 11) d13_r5) (.seq (.cond (fun e => e 13) (.lift .skip) (.lift (.exit 0))) (.block 1 (.seq (.ent (fun e => e 11) d13_r6) (.lift (.region d13_r7))))))
def d13_r8 : Env → RD := fun e =>
  .op (.mv (e 3)) fun t20 =>
  .dcall 15 [t20, (.func (.func 16) #[] #[])] fun t21 =>
  .done e
theorem d13_r8_run {CP : CProg} {DS : DSem} (e : Env) (h : Heap) (Q : Post) : runRD CP DS (d13_r8 e) h Q ↔ runRD CP DS (
  .op (.mv (e 3)) fun t20 =>
  .dcall 15 [t20, (.func (.func 16) #[] #[])] fun t21 =>
  .done e) h Q := Iff.rfl
def d13_r9 : Env → Reg := fun e =>
  .op (.mv (e 3)) fun t22 =>
  .op (.mv t22) fun t2 =>
  .done (e.upd 2 t2)
theorem d13_r9_run {CP : CProg} (e : Env) (h : Heap) (Q : Post) : RunR CP (d13_r9 e) h Q ↔ RunR CP (
  .op (.mv (e 3)) fun t22 =>
  .op (.mv t22) fun t2 =>
  .done (e.upd 2 t2)) h Q := Iff.rfl
def d13 : DFn := ⟨(.seq (.lift (.region d13_r0)) (.seq (.lift (.region d13_r1)) (.seq (.seq (.lift (.region d13_r2)) (.cond (fun e => e 6) (.seq (.lift (.region d13_r3)) (.lift .ret)) (.lift .skip))) (.seq (.seq (.lift (.region d13_r4)) (.block 0 (.loop d13_l0))) (.seq (.rd d13_r8) (.seq (.lift (.region d13_r9)) (.lift .ret))))))), [.t 2]⟩
end Go.Proofs.Ytekojjilbchkgaa.Can
