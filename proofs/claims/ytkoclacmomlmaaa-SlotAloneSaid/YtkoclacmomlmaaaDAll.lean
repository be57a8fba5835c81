/- The canonical code of functions that go through maps, written by a program of this session (wip/can/dres.py). No condition. -/
import Derived.Test.YtkoclacmomlmaaaCanNext
import Derived.Test.YtkoclacmomlmaaaCAll
namespace Go.Proofs.Ytkoclacmomlmaaa.Can
open Go
set_option linter.unusedVariables false
-- 3: weighbridge/weighbridgelaw06.SlotAlone
def d3_r0 : Env → Reg := fun e =>
  .op (.mv (.bool false)) fun t4 =>
  .done (e.upd 4 t4)
theorem d3_r0_run {CP : CProg} (e : Env) (h : Heap) (Q : Post) : RunR CP (d3_r0 e) h Q ↔ RunR CP (
  .op (.mv (.bool false)) fun t4 =>
  .done (e.upd 4 t4)) h Q := Iff.rfl
def d3_r1 : Env → Reg := fun e =>
  .op (.call 9 []) fun t17 =>
  .op (.un .not t17) fun t18 =>
  .done (e.upd 18 t18)
theorem d3_r1_run {CP : CProg} (e : Env) (h : Heap) (Q : Post) : RunR CP (d3_r1 e) h Q ↔ RunR CP (
  .op (.call 9 []) fun t17 =>
  .op (.un .not t17) fun t18 =>
  .done (e.upd 18 t18)) h Q := Iff.rfl
def d3_r2 : Env → Reg := fun e =>
  .op (.mv (.bool false)) fun t4 =>
  .done (e.upd 4 t4)
theorem d3_r2_run {CP : CProg} (e : Env) (h : Heap) (Q : Post) : RunR CP (d3_r2 e) h Q ↔ RunR CP (
  .op (.mv (.bool false)) fun t4 =>
  .done (e.upd 4 t4)) h Q := Iff.rfl
def d3_r3 : Env → Reg := fun e =>
  .op (.mv (e 0)) fun t19 =>
  .op (.lenSl t19) fun t20 =>
  .op (.bin .gtr t20 (.int .i64 60)) fun t21 =>
  .op (.mv t21) fun t22 =>
  .opg t22 false (.mv (e 1)) fun t23 =>
  .opg t22 false (.call 10 [t23]) fun t24 =>
  .opg t22 false (.un .not t24) fun t25 =>
  .op (.pick t22 (.bool true) t25) fun t26 =>
  .done (e.upd 26 t26)
theorem d3_r3_run {CP : CProg} (e : Env) (h : Heap) (Q : Post) : RunR CP (d3_r3 e) h Q ↔ RunR CP (
  .op (.mv (e 0)) fun t19 =>
  .op (.lenSl t19) fun t20 =>
  .op (.bin .gtr t20 (.int .i64 60)) fun t21 =>
  .op (.mv t21) fun t22 =>
  .opg t22 false (.mv (e 1)) fun t23 =>
  .opg t22 false (.call 10 [t23]) fun t24 =>
  .opg t22 false (.un .not t24) fun t25 =>
  .op (.pick t22 (.bool true) t25) fun t26 =>
  .done (e.upd 26 t26)) h Q := Iff.rfl
def d3_r4 : Env → Reg := fun e =>
  .op (.mv (.bool true)) fun t4 =>
  .done (e.upd 4 t4)
theorem d3_r4_run {CP : CProg} (e : Env) (h : Heap) (Q : Post) : RunR CP (d3_r4 e) h Q ↔ RunR CP (
  .op (.mv (.bool true)) fun t4 =>
  .done (e.upd 4 t4)) h Q := Iff.rfl
def d3_r5 : Env → Reg := fun e =>
  .op (.mv (e 0)) fun t27 =>
  .op (.call 11 [t27, (.int .i64 4)]) fun t28 =>
  .op (.mv t28) fun t5 =>
  .done (e.upd 5 t5)
theorem d3_r5_run {CP : CProg} (e : Env) (h : Heap) (Q : Post) : RunR CP (d3_r5 e) h Q ↔ RunR CP (
  .op (.mv (e 0)) fun t27 =>
  .op (.call 11 [t27, (.int .i64 4)]) fun t28 =>
  .op (.mv t28) fun t5 =>
  .done (e.upd 5 t5)) h Q := Iff.rfl
def d3_r6 : Env → Reg := fun e =>
  .op (.mv (e 5)) fun t29 =>
  .op (.call 12 [t29, (.int .i64 64)]) fun t30 =>
  .op (.mv t30) fun t6 =>
  .done (e.upd 6 t6)
theorem d3_r6_run {CP : CProg} (e : Env) (h : Heap) (Q : Post) : RunR CP (d3_r6 e) h Q ↔ RunR CP (
  .op (.mv (e 5)) fun t29 =>
  .op (.call 12 [t29, (.int .i64 64)]) fun t30 =>
  .op (.mv t30) fun t6 =>
  .done (e.upd 6 t6)) h Q := Iff.rfl
def d3_r7 : Env → Reg := fun e =>
  .op (.makeMap) fun t31 =>
  .op (.mv t31) fun t7 =>
  .done (e.upd 7 t7)
theorem d3_r7_run {CP : CProg} (e : Env) (h : Heap) (Q : Post) : RunR CP (d3_r7 e) h Q ↔ RunR CP (
  .op (.makeMap) fun t31 =>
  .op (.mv t31) fun t7 =>
  .done (e.upd 7 t7)) h Q := Iff.rfl
def d3_r8 : Env → Reg := fun e =>
  .op (.mv (e 1)) fun t32 =>
  .op (.lenSl t32) fun t33 =>
  .op (.mv (.int .i64 0)) fun t34 =>
  .done (((e.upd 32 t32).upd 33 t33).upd 34 t34)
theorem d3_r8_run {CP : CProg} (e : Env) (h : Heap) (Q : Post) : RunR CP (d3_r8 e) h Q ↔ RunR CP (
  .op (.mv (e 1)) fun t32 =>
  .op (.lenSl t32) fun t33 =>
  .op (.mv (.int .i64 0)) fun t34 =>
  .done (((e.upd 32 t32).upd 33 t33).upd 34 t34)) h Q := Iff.rfl
def d3_r9 : Env → Reg := fun e =>
  .op (.bin .lss (e 34) (e 33)) fun t35 =>
  .done (e.upd 35 t35)
theorem d3_r9_run {CP : CProg} (e : Env) (h : Heap) (Q : Post) : RunR CP (d3_r9 e) h Q ↔ RunR CP (
  .op (.bin .lss (e 34) (e 33)) fun t35 =>
  .done (e.upd 35 t35)) h Q := Iff.rfl
def d3_r10 : Env → Reg := fun e =>
  .op (.indexSl 2 (e 32) (e 34)) fun t36 =>
  .op (.load (some 2) t36) fun t37 =>
  .op (.alloc 32 [(.string ⟨#[]⟩), (.int .i64 0)]) fun t9 =>
  .op (.store 2 t9 t37) fun _ =>
  .done (e.upd 9 t9)
theorem d3_r10_run {CP : CProg} (e : Env) (h : Heap) (Q : Post) : RunR CP (d3_r10 e) h Q ↔ RunR CP (
  .op (.indexSl 2 (e 32) (e 34)) fun t36 =>
  .op (.load (some 2) t36) fun t37 =>
  .op (.alloc 32 [(.string ⟨#[]⟩), (.int .i64 0)]) fun t9 =>
  .op (.store 2 t9 t37) fun _ =>
  .done (e.upd 9 t9)) h Q := Iff.rfl
def d3_r11 : Env → Reg := fun e =>
  .op (.mv (e 6)) fun t38 =>
  .op (.fieldAddr 0 (e 9)) fun t39 =>
  .op (.load none t39) fun t40 =>
  .op (.fieldAddr 1 (e 9)) fun t41 =>
  .op (.load none t41) fun t42 =>
  .op (.bin .and t42 (.int .i64 65535)) fun t43 =>
  .op (.call 13 [t38, t40, t43]) fun t44 =>
  .done e
theorem d3_r11_run {CP : CProg} (e : Env) (h : Heap) (Q : Post) : RunR CP (d3_r11 e) h Q ↔ RunR CP (
  .op (.mv (e 6)) fun t38 =>
  .op (.fieldAddr 0 (e 9)) fun t39 =>
  .op (.load none t39) fun t40 =>
  .op (.fieldAddr 1 (e 9)) fun t41 =>
  .op (.load none t41) fun t42 =>
  .op (.bin .and t42 (.int .i64 65535)) fun t43 =>
  .op (.call 13 [t38, t40, t43]) fun t44 =>
  .done e) h Q := Iff.rfl
def d3_r12 : Env → Reg := fun e =>
  .op (.mv (e 7)) fun t45 =>
  .op (.fieldAddr 0 (e 9)) fun t46 =>
  .op (.load none t46) fun t47 =>
  .op (.lookup (.one .str) (.int .i64 0) false t45 t47) fun t48 =>
  .op (.fieldAddr 1 (e 9)) fun t49 =>
  .op (.load none t49) fun t50 =>
  .op (.bin .and t50 (.int .i64 65535)) fun t51 =>
  .op (.bin .add t48 t51) fun t52 =>
  .op (.mapUpdate (.one .str) t45 t47 t52) fun _ =>
  .done e
theorem d3_r12_run {CP : CProg} (e : Env) (h : Heap) (Q : Post) : RunR CP (d3_r12 e) h Q ↔ RunR CP (
  .op (.mv (e 7)) fun t45 =>
  .op (.fieldAddr 0 (e 9)) fun t46 =>
  .op (.load none t46) fun t47 =>
  .op (.lookup (.one .str) (.int .i64 0) false t45 t47) fun t48 =>
  .op (.fieldAddr 1 (e 9)) fun t49 =>
  .op (.load none t49) fun t50 =>
  .op (.bin .and t50 (.int .i64 65535)) fun t51 =>
  .op (.bin .add t48 t51) fun t52 =>
  .op (.mapUpdate (.one .str) t45 t47 t52) fun _ =>
  .done e) h Q := Iff.rfl
def d3_r13 : Env → Reg := fun e =>
  .op (.bin .add (e 34) (.int .i64 1)) fun t53 =>
  .op (.mv t53) fun t34 =>
  .done (e.upd 34 t34)
theorem d3_r13_run {CP : CProg} (e : Env) (h : Heap) (Q : Post) : RunR CP (d3_r13 e) h Q ↔ RunR CP (
  .op (.bin .add (e 34) (.int .i64 1)) fun t53 =>
  .op (.mv t53) fun t34 =>
  .done (e.upd 34 t34)) h Q := Iff.rfl
def d3_l0 : CD := (.seq (.lift (.region d3_r9)) (.seq (.cond (fun e => e 35) (.lift .skip) (.lift (.exit 0))) (.seq (.block 1 (.seq (.lift (.region d3_r10)) (.seq (.lift (.region d3_r11)) (.lift (.region d3_r12))))) (.lift (.region d3_r13)))))
def d3_r14 : Env → Reg := fun e =>
  .op (.mv (e 7)) fun t54 =>
  .op (.rangeMap t54) fun t55 =>
  .done (e.upd 55 t55)
theorem d3_r14_run {CP : CProg} (e : Env) (h : Heap) (Q : Post) : RunR CP (d3_r14 e) h Q ↔ RunR CP (
  .op (.mv (e 7)) fun t54 =>
  .op (.rangeMap t54) fun t55 =>
  .done (e.upd 55 t55)) h Q := Iff.rfl
def d3_r15 : Env → Value → Reg := fun e v =>
  .op (.extract v 0) fun t57 =>
  .done (e.upd 57 t57)
theorem d3_r15_run {CP : CProg} (e : Env) (v : Value) (h : Heap) (Q : Post) : RunR CP (d3_r15 e v) h Q ↔ RunR CP (
  .op (.extract v 0) fun t57 =>
  .done (e.upd 57 t57)) h Q := Iff.rfl
def d3_r16 : Env → Value → Reg := fun e v =>
  .op (.extract v 0) fun t59 =>
  .op (.extract v 1) fun t60 =>
  .op (.mv t59) fun t10 =>
  .op (.mv t60) fun t11 =>
  .done ((e.upd 10 t10).upd 11 t11)
theorem d3_r16_run {CP : CProg} (e : Env) (v : Value) (h : Heap) (Q : Post) : RunR CP (d3_r16 e v) h Q ↔ RunR CP (
  .op (.extract v 0) fun t59 =>
  .op (.extract v 1) fun t60 =>
  .op (.mv t59) fun t10 =>
  .op (.mv t60) fun t11 =>
  .done ((e.upd 10 t10).upd 11 t11)) h Q := Iff.rfl
def d3_r17 : Env → Reg := fun e =>
  .op (.mv (.bool false)) fun t12 =>
  .done (e.upd 12 t12)
theorem d3_r17_run {CP : CProg} (e : Env) (h : Heap) (Q : Post) : RunR CP (d3_r17 e) h Q ↔ RunR CP (
  .op (.mv (.bool false)) fun t12 =>
  .done (e.upd 12 t12)) h Q := Iff.rfl
def d3_r18 : Env → Reg := fun e =>
  .op (.mv (e 5)) fun t61 =>
  .op (.lenSl t61) fun t62 =>
  .op (.mv (.int .i64 0)) fun t63 =>
  .done (((e.upd 61 t61).upd 62 t62).upd 63 t63)
theorem d3_r18_run {CP : CProg} (e : Env) (h : Heap) (Q : Post) : RunR CP (d3_r18 e) h Q ↔ RunR CP (
  .op (.mv (e 5)) fun t61 =>
  .op (.lenSl t61) fun t62 =>
  .op (.mv (.int .i64 0)) fun t63 =>
  .done (((e.upd 61 t61).upd 62 t62).upd 63 t63)) h Q := Iff.rfl
def d3_r19 : Env → Reg := fun e =>
  .op (.bin .lss (e 63) (e 62)) fun t64 =>
  .done (e.upd 64 t64)
theorem d3_r19_run {CP : CProg} (e : Env) (h : Heap) (Q : Post) : RunR CP (d3_r19 e) h Q ↔ RunR CP (
  .op (.bin .lss (e 63) (e 62)) fun t64 =>
  .done (e.upd 64 t64)) h Q := Iff.rfl
def d3_r20 : Env → Reg := fun e =>
  .op (.indexSl 3 (e 61) (e 63)) fun t65 =>
  .op (.load (some 3) t65) fun t66 =>
  .op (.alloc 36 [(.int .u64 0), (.int .u64 0), (.int .u64 0)]) fun t14 =>
  .op (.store 3 t14 t66) fun _ =>
  .done (e.upd 14 t14)
theorem d3_r20_run {CP : CProg} (e : Env) (h : Heap) (Q : Post) : RunR CP (d3_r20 e) h Q ↔ RunR CP (
  .op (.indexSl 3 (e 61) (e 63)) fun t65 =>
  .op (.load (some 3) t65) fun t66 =>
  .op (.alloc 36 [(.int .u64 0), (.int .u64 0), (.int .u64 0)]) fun t14 =>
  .op (.store 3 t14 t66) fun _ =>
  .done (e.upd 14 t14)) h Q := Iff.rfl
def d3_r21 : Env → Reg := fun e =>
  .op (.mv (.bool false)) fun t15 =>
  .done (e.upd 15 t15)
theorem d3_r21_run {CP : CProg} (e : Env) (h : Heap) (Q : Post) : RunR CP (d3_r21 e) h Q ↔ RunR CP (
  .op (.mv (.bool false)) fun t15 =>
  .done (e.upd 15 t15)) h Q := Iff.rfl
def d3_r22 : Env → Reg := fun e =>
  .op (.mv (e 7)) fun t67 =>
  .op (.rangeMap t67) fun t68 =>
  .done (e.upd 68 t68)
theorem d3_r22_run {CP : CProg} (e : Env) (h : Heap) (Q : Post) : RunR CP (d3_r22 e) h Q ↔ RunR CP (
  .op (.mv (e 7)) fun t67 =>
  .op (.rangeMap t67) fun t68 =>
  .done (e.upd 68 t68)) h Q := Iff.rfl
def d3_r23 : Env → Value → Reg := fun e v =>
  .op (.extract v 0) fun t70 =>
  .done (e.upd 70 t70)
theorem d3_r23_run {CP : CProg} (e : Env) (v : Value) (h : Heap) (Q : Post) : RunR CP (d3_r23 e v) h Q ↔ RunR CP (
  .op (.extract v 0) fun t70 =>
  .done (e.upd 70 t70)) h Q := Iff.rfl
def d3_r24 : Env → Value → Reg := fun e v =>
  .op (.extract v 0) fun t72 =>
  .op (.mv t72) fun t16 =>
  .done (e.upd 16 t16)
theorem d3_r24_run {CP : CProg} (e : Env) (v : Value) (h : Heap) (Q : Post) : RunR CP (d3_r24 e v) h Q ↔ RunR CP (
  .op (.extract v 0) fun t72 =>
  .op (.mv t72) fun t16 =>
  .done (e.upd 16 t16)) h Q := Iff.rfl
def d3_r25_c2 (e : Env) (t74 : Value) (t78 : Value) (t85 : Value) : Reg :=
  .opg t74 false (.pick t78 t85 (.bool false)) fun t86 =>
  .op (.pick t74 (.bool true) t86) fun t87 =>
  .op (.mv t87) fun t15 =>
  .done (e.upd 15 t15)
theorem d3_r25_c2_run {CP : CProg} (e : Env) (t74 : Value) (t78 : Value) (t85 : Value) (h : Heap) (Q : Post) : RunR CP (d3_r25_c2 e t74 t78 t85) h Q ↔ RunR CP (
  .opg t74 false (.pick t78 t85 (.bool false)) fun t86 =>
  .op (.pick t74 (.bool true) t86) fun t87 =>
  .op (.mv t87) fun t15 =>
  .done (e.upd 15 t15)) h Q := Iff.rfl
def d3_r25_c1 (e : Env) (t74 : Value) (t78 : Value) (t79 : Value) (t80 : Value) : Reg :=
  .snap fun h8 =>
  .opg t78 true (.call 14 [t79, t80, (.int .i64 64)]) fun t81 =>
  .opg t78 true (.load (some 3) (e 14)) fun t82 =>
  .chk (some (t78, true)) (some h8) (.load (some 3) (e 14)) t82 <|
  .opg t78 true (.mv (e 10)) fun t83 =>
  .snap fun h11 =>
  .opg t78 true (.call 14 [t82, t83, (.int .i64 64)]) fun t84 =>
  .opg t78 true (.bin .eql t81 t84) fun t85 =>
  d3_r25_c2 e t74 t78 t85
theorem d3_r25_c1_run {CP : CProg} (e : Env) (t74 : Value) (t78 : Value) (t79 : Value) (t80 : Value) (h : Heap) (Q : Post) : RunR CP (d3_r25_c1 e t74 t78 t79 t80) h Q ↔ RunR CP (
  .snap fun h8 =>
  .opg t78 true (.call 14 [t79, t80, (.int .i64 64)]) fun t81 =>
  .opg t78 true (.load (some 3) (e 14)) fun t82 =>
  .chk (some (t78, true)) (some h8) (.load (some 3) (e 14)) t82 <|
  .opg t78 true (.mv (e 10)) fun t83 =>
  .snap fun h11 =>
  .opg t78 true (.call 14 [t82, t83, (.int .i64 64)]) fun t84 =>
  .opg t78 true (.bin .eql t81 t84) fun t85 =>
  d3_r25_c2 e t74 t78 t85) h Q := Iff.rfl
def d3_r25 : Env → Reg := fun e =>
  .op (.mv (e 15)) fun t73 =>
  .op (.mv t73) fun t74 =>
  .opg t74 false (.mv (e 16)) fun t75 =>
  .opg t74 false (.mv (e 10)) fun t76 =>
  .opg t74 false (.bin .neq t75 t76) fun t77 =>
  .opg t74 false (.mv t77) fun t78 =>
  .opg t78 true (.load (some 3) (e 14)) fun t79 =>
  .opg t78 true (.mv (e 16)) fun t80 =>
  d3_r25_c1 e t74 t78 t79 t80
theorem d3_r25_run {CP : CProg} (e : Env) (h : Heap) (Q : Post) : RunR CP (d3_r25 e) h Q ↔ RunR CP (
  .op (.mv (e 15)) fun t73 =>
  .op (.mv t73) fun t74 =>
  .opg t74 false (.mv (e 16)) fun t75 =>
  .opg t74 false (.mv (e 10)) fun t76 =>
  .opg t74 false (.bin .neq t75 t76) fun t77 =>
  .opg t74 false (.mv t77) fun t78 =>
  .opg t78 true (.load (some 3) (e 14)) fun t79 =>
  .opg t78 true (.mv (e 16)) fun t80 =>
  d3_r25_c1 e t74 t78 t79 t80) h Q := Iff.rfl
def d3_l1 : CD := (.seq (.draw (fun e => e 68) d3_r23) (.seq (.cond (fun e => e 70) (.lift .skip) (.lift (.exit 6))) (.block 7 (.seq (.ent (fun e => e 68) d3_r24) (.lift (.region d3_r25))))))
def d3_r26 : Env → Reg := fun e =>
  .op (.mv (e 12)) fun t88 =>
  .op (.mv t88) fun t89 =>
  .opg t89 false (.mv (e 15)) fun t90 =>
  .opg t89 false (.un .not t90) fun t91 =>
  .op (.pick t89 (.bool true) t91) fun t92 =>
  .op (.mv t92) fun t12 =>
  .done (e.upd 12 t12)
theorem d3_r26_run {CP : CProg} (e : Env) (h : Heap) (Q : Post) : RunR CP (d3_r26 e) h Q ↔ RunR CP (
  .op (.mv (e 12)) fun t88 =>
  .op (.mv t88) fun t89 =>
  .opg t89 false (.mv (e 15)) fun t90 =>
  .opg t89 false (.un .not t90) fun t91 =>
  .op (.pick t89 (.bool true) t91) fun t92 =>
  .op (.mv t92) fun t12 =>
  .done (e.upd 12 t12)) h Q := Iff.rfl
def d3_r27 : Env → Reg := fun e =>
  .op (.bin .add (e 63) (.int .i64 1)) fun t93 =>
  .op (.mv t93) fun t63 =>
  .done (e.upd 63 t63)
theorem d3_r27_run {CP : CProg} (e : Env) (h : Heap) (Q : Post) : RunR CP (d3_r27 e) h Q ↔ RunR CP (
  .op (.bin .add (e 63) (.int .i64 1)) fun t93 =>
  .op (.mv t93) fun t63 =>
  .done (e.upd 63 t63)) h Q := Iff.rfl
def d3_l2 : CD := (.seq (.lift (.region d3_r19)) (.seq (.cond (fun e => e 64) (.lift .skip) (.lift (.exit 4))) (.seq (.block 5 (.seq (.lift (.region d3_r20)) (.seq (.lift (.region d3_r21)) (.seq (.seq (.lift (.region d3_r22)) (.block 6 (.loop d3_l1))) (.lift (.region d3_r26)))))) (.lift (.region d3_r27)))))
def d3_r28 : Env → Reg := fun e =>
  .op (.mv (e 12)) fun t94 =>
  .op (.mv t94) fun t95 =>
  .opg t95 true (.mv (e 6)) fun t96 =>
  .opg t95 true (.mv (e 10)) fun t97 =>
  .opg t95 true (.call 15 [t96, t97]) fun t98 =>
  .opg t95 true (.mv (e 11)) fun t99 =>
  .opg t95 true (.bin .neq t98 t99) fun t100 =>
  .op (.pick t95 t100 (.bool false)) fun t101 =>
  .done (e.upd 101 t101)
theorem d3_r28_run {CP : CProg} (e : Env) (h : Heap) (Q : Post) : RunR CP (d3_r28 e) h Q ↔ RunR CP (
  .op (.mv (e 12)) fun t94 =>
  .op (.mv t94) fun t95 =>
  .opg t95 true (.mv (e 6)) fun t96 =>
  .opg t95 true (.mv (e 10)) fun t97 =>
  .opg t95 true (.call 15 [t96, t97]) fun t98 =>
  .opg t95 true (.mv (e 11)) fun t99 =>
  .opg t95 true (.bin .neq t98 t99) fun t100 =>
  .op (.pick t95 t100 (.bool false)) fun t101 =>
  .done (e.upd 101 t101)) h Q := Iff.rfl
def d3_r29 : Env → Reg := fun e =>
  .op (.mv (.bool false)) fun t4 =>
  .done (e.upd 4 t4)
theorem d3_r29_run {CP : CProg} (e : Env) (h : Heap) (Q : Post) : RunR CP (d3_r29 e) h Q ↔ RunR CP (
  .op (.mv (.bool false)) fun t4 =>
  .done (e.upd 4 t4)) h Q := Iff.rfl
def d3_l3 : CD := (.seq (.draw (fun e => e 55) d3_r15) (.seq (.cond (fun e => e 57) (.lift .skip) (.lift (.exit 2))) (.block 3 (.seq (.ent (fun e => e 55) d3_r16) (.seq (.lift (.region d3_r17)) (.seq (.seq (.lift (.region d3_r18)) (.block 4 (.loop d3_l2))) (.seq (.lift (.region d3_r28)) (.cond (fun e => e 101) (.seq (.lift (.region d3_r29)) (.lift .ret)) (.lift .skip)))))))))
def d3_r30 : Env → Reg := fun e =>
  .op (.mv (.bool true)) fun t4 =>
  .done (e.upd 4 t4)
theorem d3_r30_run {CP : CProg} (e : Env) (h : Heap) (Q : Post) : RunR CP (d3_r30 e) h Q ↔ RunR CP (
  .op (.mv (.bool true)) fun t4 =>
  .done (e.upd 4 t4)) h Q := Iff.rfl
def d3 : DFn := ⟨(.seq (.lift (.region d3_r0)) (.seq (.seq (.lift (.region d3_r1)) (.cond (fun e => e 18) (.seq (.lift (.region d3_r2)) (.lift .ret)) (.lift .skip))) (.seq (.seq (.lift (.region d3_r3)) (.cond (fun e => e 26) (.seq (.lift (.region d3_r4)) (.lift .ret)) (.lift .skip))) (.seq (.lift (.region d3_r5)) (.seq (.lift (.region d3_r6)) (.seq (.lift (.region d3_r7)) (.seq (.seq (.lift (.region d3_r8)) (.block 0 (.loop d3_l0))) (.seq (.seq (.lift (.region d3_r14)) (.block 2 (.loop d3_l3))) (.seq (.lift (.region d3_r30)) (.lift .ret)))))))))), [.t 4]⟩
-- 7: weighbridge/weighbridgelaw06.SlotOver
def d7_r0 : Env → Reg := fun e =>
  .op (.mv (.bool false)) fun t6 =>
  .done (e.upd 6 t6)
theorem d7_r0_run {CP : CProg} (e : Env) (h : Heap) (Q : Post) : RunR CP (d7_r0 e) h Q ↔ RunR CP (
  .op (.mv (.bool false)) fun t6 =>
  .done (e.upd 6 t6)) h Q := Iff.rfl
def d7_r1 : Env → Reg := fun e =>
  .op (.call 9 []) fun t17 =>
  .op (.un .not t17) fun t18 =>
  .done (e.upd 18 t18)
theorem d7_r1_run {CP : CProg} (e : Env) (h : Heap) (Q : Post) : RunR CP (d7_r1 e) h Q ↔ RunR CP (
  .op (.call 9 []) fun t17 =>
  .op (.un .not t17) fun t18 =>
  .done (e.upd 18 t18)) h Q := Iff.rfl
def d7_r2 : Env → Reg := fun e =>
  .op (.mv (.bool false)) fun t6 =>
  .done (e.upd 6 t6)
theorem d7_r2_run {CP : CProg} (e : Env) (h : Heap) (Q : Post) : RunR CP (d7_r2 e) h Q ↔ RunR CP (
  .op (.mv (.bool false)) fun t6 =>
  .done (e.upd 6 t6)) h Q := Iff.rfl
def d7_r3 : Env → Reg := fun e =>
  .op (.mv (e 0)) fun t19 =>
  .op (.lenSl t19) fun t20 =>
  .op (.bin .gtr t20 (.int .i64 60)) fun t21 =>
  .op (.mv t21) fun t22 =>
  .opg t22 false (.mv (e 2)) fun t23 =>
  .opg t22 false (.call 10 [t23]) fun t24 =>
  .opg t22 false (.un .not t24) fun t25 =>
  .op (.pick t22 (.bool true) t25) fun t26 =>
  .done (e.upd 26 t26)
theorem d7_r3_run {CP : CProg} (e : Env) (h : Heap) (Q : Post) : RunR CP (d7_r3 e) h Q ↔ RunR CP (
  .op (.mv (e 0)) fun t19 =>
  .op (.lenSl t19) fun t20 =>
  .op (.bin .gtr t20 (.int .i64 60)) fun t21 =>
  .op (.mv t21) fun t22 =>
  .opg t22 false (.mv (e 2)) fun t23 =>
  .opg t22 false (.call 10 [t23]) fun t24 =>
  .opg t22 false (.un .not t24) fun t25 =>
  .op (.pick t22 (.bool true) t25) fun t26 =>
  .done (e.upd 26 t26)) h Q := Iff.rfl
def d7_r4 : Env → Reg := fun e =>
  .op (.mv (.bool true)) fun t6 =>
  .done (e.upd 6 t6)
theorem d7_r4_run {CP : CProg} (e : Env) (h : Heap) (Q : Post) : RunR CP (d7_r4 e) h Q ↔ RunR CP (
  .op (.mv (.bool true)) fun t6 =>
  .done (e.upd 6 t6)) h Q := Iff.rfl
def d7_r5 : Env → Reg := fun e =>
  .op (.mv (e 1)) fun t27 =>
  .op (.bin .and t27 (.int .i64 15)) fun t28 =>
  .op (.bin .add t28 (.int .i64 1)) fun t29 =>
  .op (.mv t29) fun t1 =>
  .done (e.upd 1 t1)
theorem d7_r5_run {CP : CProg} (e : Env) (h : Heap) (Q : Post) : RunR CP (d7_r5 e) h Q ↔ RunR CP (
  .op (.mv (e 1)) fun t27 =>
  .op (.bin .and t27 (.int .i64 15)) fun t28 =>
  .op (.bin .add t28 (.int .i64 1)) fun t29 =>
  .op (.mv t29) fun t1 =>
  .done (e.upd 1 t1)) h Q := Iff.rfl
def d7_r6 : Env → Reg := fun e =>
  .op (.mv (e 0)) fun t30 =>
  .op (.call 11 [t30, (.int .i64 3)]) fun t31 =>
  .op (.mv (e 1)) fun t32 =>
  .op (.call 12 [t31, t32]) fun t33 =>
  .op (.mv (e 0)) fun t34 =>
  .op (.call 11 [t34, (.int .i64 1)]) fun t35 =>
  .op (.call 12 [t35, (.int .i64 1)]) fun t36 =>
  .op (.mv t33) fun t7 =>
  .op (.mv t36) fun t8 =>
  .done ((e.upd 7 t7).upd 8 t8)
theorem d7_r6_run {CP : CProg} (e : Env) (h : Heap) (Q : Post) : RunR CP (d7_r6 e) h Q ↔ RunR CP (
  .op (.mv (e 0)) fun t30 =>
  .op (.call 11 [t30, (.int .i64 3)]) fun t31 =>
  .op (.mv (e 1)) fun t32 =>
  .op (.call 12 [t31, t32]) fun t33 =>
  .op (.mv (e 0)) fun t34 =>
  .op (.call 11 [t34, (.int .i64 1)]) fun t35 =>
  .op (.call 12 [t35, (.int .i64 1)]) fun t36 =>
  .op (.mv t33) fun t7 =>
  .op (.mv t36) fun t8 =>
  .done ((e.upd 7 t7).upd 8 t8)) h Q := Iff.rfl
def d7_r7 : Env → Reg := fun e =>
  .op (.makeMap) fun t37 =>
  .op (.mv t37) fun t9 =>
  .done (e.upd 9 t9)
theorem d7_r7_run {CP : CProg} (e : Env) (h : Heap) (Q : Post) : RunR CP (d7_r7 e) h Q ↔ RunR CP (
  .op (.makeMap) fun t37 =>
  .op (.mv t37) fun t9 =>
  .done (e.upd 9 t9)) h Q := Iff.rfl
def d7_r8 : Env → Reg := fun e =>
  .op (.mv (.int .i64 0)) fun t10 =>
  .done (e.upd 10 t10)
theorem d7_r8_run {CP : CProg} (e : Env) (h : Heap) (Q : Post) : RunR CP (d7_r8 e) h Q ↔ RunR CP (
  .op (.mv (.int .i64 0)) fun t10 =>
  .done (e.upd 10 t10)) h Q := Iff.rfl
def d7_r9 : Env → Reg := fun e =>
  .op (.mv (e 2)) fun t38 =>
  .op (.lenSl t38) fun t39 =>
  .op (.mv (.int .i64 0)) fun t40 =>
  .done (((e.upd 38 t38).upd 39 t39).upd 40 t40)
theorem d7_r9_run {CP : CProg} (e : Env) (h : Heap) (Q : Post) : RunR CP (d7_r9 e) h Q ↔ RunR CP (
  .op (.mv (e 2)) fun t38 =>
  .op (.lenSl t38) fun t39 =>
  .op (.mv (.int .i64 0)) fun t40 =>
  .done (((e.upd 38 t38).upd 39 t39).upd 40 t40)) h Q := Iff.rfl
def d7_r10 : Env → Reg := fun e =>
  .op (.bin .lss (e 40) (e 39)) fun t41 =>
  .done (e.upd 41 t41)
theorem d7_r10_run {CP : CProg} (e : Env) (h : Heap) (Q : Post) : RunR CP (d7_r10 e) h Q ↔ RunR CP (
  .op (.bin .lss (e 40) (e 39)) fun t41 =>
  .done (e.upd 41 t41)) h Q := Iff.rfl
def d7_r11 : Env → Reg := fun e =>
  .op (.indexSl 2 (e 38) (e 40)) fun t42 =>
  .op (.load (some 2) t42) fun t43 =>
  .op (.alloc 32 [(.string ⟨#[]⟩), (.int .i64 0)]) fun t12 =>
  .op (.store 2 t12 t43) fun _ =>
  .done (e.upd 12 t12)
theorem d7_r11_run {CP : CProg} (e : Env) (h : Heap) (Q : Post) : RunR CP (d7_r11 e) h Q ↔ RunR CP (
  .op (.indexSl 2 (e 38) (e 40)) fun t42 =>
  .op (.load (some 2) t42) fun t43 =>
  .op (.alloc 32 [(.string ⟨#[]⟩), (.int .i64 0)]) fun t12 =>
  .op (.store 2 t12 t43) fun _ =>
  .done (e.upd 12 t12)) h Q := Iff.rfl
def d7_r12 : Env → Reg := fun e =>
  .op (.fieldAddr 1 (e 12)) fun t44 =>
  .op (.load none t44) fun t45 =>
  .op (.bin .and t45 (.int .i64 65535)) fun t46 =>
  .op (.mv t46) fun t13 =>
  .done (e.upd 13 t13)
theorem d7_r12_run {CP : CProg} (e : Env) (h : Heap) (Q : Post) : RunR CP (d7_r12 e) h Q ↔ RunR CP (
  .op (.fieldAddr 1 (e 12)) fun t44 =>
  .op (.load none t44) fun t45 =>
  .op (.bin .and t45 (.int .i64 65535)) fun t46 =>
  .op (.mv t46) fun t13 =>
  .done (e.upd 13 t13)) h Q := Iff.rfl
def d7_r13 : Env → Reg := fun e =>
  .op (.mv (e 7)) fun t47 =>
  .op (.fieldAddr 0 (e 12)) fun t48 =>
  .op (.load none t48) fun t49 =>
  .op (.mv (e 13)) fun t50 =>
  .op (.call 13 [t47, t49, t50]) fun t51 =>
  .done e
theorem d7_r13_run {CP : CProg} (e : Env) (h : Heap) (Q : Post) : RunR CP (d7_r13 e) h Q ↔ RunR CP (
  .op (.mv (e 7)) fun t47 =>
  .op (.fieldAddr 0 (e 12)) fun t48 =>
  .op (.load none t48) fun t49 =>
  .op (.mv (e 13)) fun t50 =>
  .op (.call 13 [t47, t49, t50]) fun t51 =>
  .done e) h Q := Iff.rfl
def d7_r14 : Env → Reg := fun e =>
  .op (.mv (e 8)) fun t52 =>
  .op (.fieldAddr 0 (e 12)) fun t53 =>
  .op (.load none t53) fun t54 =>
  .op (.mv (e 13)) fun t55 =>
  .op (.call 13 [t52, t54, t55]) fun t56 =>
  .done e
theorem d7_r14_run {CP : CProg} (e : Env) (h : Heap) (Q : Post) : RunR CP (d7_r14 e) h Q ↔ RunR CP (
  .op (.mv (e 8)) fun t52 =>
  .op (.fieldAddr 0 (e 12)) fun t53 =>
  .op (.load none t53) fun t54 =>
  .op (.mv (e 13)) fun t55 =>
  .op (.call 13 [t52, t54, t55]) fun t56 =>
  .done e) h Q := Iff.rfl
def d7_r15 : Env → Reg := fun e =>
  .op (.mv (e 9)) fun t57 =>
  .op (.fieldAddr 0 (e 12)) fun t58 =>
  .op (.load none t58) fun t59 =>
  .op (.lookup (.one .str) (.int .i64 0) false t57 t59) fun t60 =>
  .op (.mv (e 13)) fun t61 =>
  .op (.bin .add t60 t61) fun t62 =>
  .op (.mapUpdate (.one .str) t57 t59 t62) fun _ =>
  .done e
theorem d7_r15_run {CP : CProg} (e : Env) (h : Heap) (Q : Post) : RunR CP (d7_r15 e) h Q ↔ RunR CP (
  .op (.mv (e 9)) fun t57 =>
  .op (.fieldAddr 0 (e 12)) fun t58 =>
  .op (.load none t58) fun t59 =>
  .op (.lookup (.one .str) (.int .i64 0) false t57 t59) fun t60 =>
  .op (.mv (e 13)) fun t61 =>
  .op (.bin .add t60 t61) fun t62 =>
  .op (.mapUpdate (.one .str) t57 t59 t62) fun _ =>
  .done e) h Q := Iff.rfl
def d7_r16 : Env → Reg := fun e =>
  .op (.mv (e 10)) fun t63 =>
  .op (.mv (e 13)) fun t64 =>
  .op (.bin .add t63 t64) fun t65 =>
  .op (.mv t65) fun t10 =>
  .done (e.upd 10 t10)
theorem d7_r16_run {CP : CProg} (e : Env) (h : Heap) (Q : Post) : RunR CP (d7_r16 e) h Q ↔ RunR CP (
  .op (.mv (e 10)) fun t63 =>
  .op (.mv (e 13)) fun t64 =>
  .op (.bin .add t63 t64) fun t65 =>
  .op (.mv t65) fun t10 =>
  .done (e.upd 10 t10)) h Q := Iff.rfl
def d7_r17 : Env → Reg := fun e =>
  .op (.mv (e 9)) fun t66 =>
  .op (.rangeMap t66) fun t67 =>
  .done (e.upd 67 t67)
theorem d7_r17_run {CP : CProg} (e : Env) (h : Heap) (Q : Post) : RunR CP (d7_r17 e) h Q ↔ RunR CP (
  .op (.mv (e 9)) fun t66 =>
  .op (.rangeMap t66) fun t67 =>
  .done (e.upd 67 t67)) h Q := Iff.rfl
def d7_r18 : Env → Value → Reg := fun e v =>
  .op (.extract v 0) fun t69 =>
  .done (e.upd 69 t69)
theorem d7_r18_run {CP : CProg} (e : Env) (v : Value) (h : Heap) (Q : Post) : RunR CP (d7_r18 e v) h Q ↔ RunR CP (
  .op (.extract v 0) fun t69 =>
  .done (e.upd 69 t69)) h Q := Iff.rfl
def d7_r19 : Env → Value → Reg := fun e v =>
  .op (.extract v 0) fun t71 =>
  .op (.extract v 1) fun t72 =>
  .op (.mv t71) fun t14 =>
  .op (.mv t72) fun t15 =>
  .done ((e.upd 14 t14).upd 15 t15)
theorem d7_r19_run {CP : CProg} (e : Env) (v : Value) (h : Heap) (Q : Post) : RunR CP (d7_r19 e v) h Q ↔ RunR CP (
  .op (.extract v 0) fun t71 =>
  .op (.extract v 1) fun t72 =>
  .op (.mv t71) fun t14 =>
  .op (.mv t72) fun t15 =>
  .done ((e.upd 14 t14).upd 15 t15)) h Q := Iff.rfl
def d7_r20_c2 (e : Env) (t85 : Value) (t88 : Value) : Reg :=
  .opg t85 false (.mv (e 10)) fun t89 =>
  .opg t85 false (.bin .neq t88 t89) fun t90 =>
  .op (.pick t85 (.bool true) t90) fun t91 =>
  .done (e.upd 91 t91)
theorem d7_r20_c2_run {CP : CProg} (e : Env) (t85 : Value) (t88 : Value) (h : Heap) (Q : Post) : RunR CP (d7_r20_c2 e t85 t88) h Q ↔ RunR CP (
  .opg t85 false (.mv (e 10)) fun t89 =>
  .opg t85 false (.bin .neq t88 t89) fun t90 =>
  .op (.pick t85 (.bool true) t90) fun t91 =>
  .done (e.upd 91 t91)) h Q := Iff.rfl
def d7_r20_c1 (e : Env) (t78 : Value) (t79 : Value) (t80 : Value) : Reg :=
  .opg t78 false (.call 15 [t79, t80]) fun t81 =>
  .opg t78 false (.mv (e 10)) fun t82 =>
  .opg t78 false (.bin .gtr t81 t82) fun t83 =>
  .op (.pick t78 (.bool true) t83) fun t84 =>
  .op (.mv t84) fun t85 =>
  .opg t85 false (.mv (e 8)) fun t86 =>
  .opg t85 false (.mv (e 14)) fun t87 =>
  .opg t85 false (.call 15 [t86, t87]) fun t88 =>
  d7_r20_c2 e t85 t88
theorem d7_r20_c1_run {CP : CProg} (e : Env) (t78 : Value) (t79 : Value) (t80 : Value) (h : Heap) (Q : Post) : RunR CP (d7_r20_c1 e t78 t79 t80) h Q ↔ RunR CP (
  .opg t78 false (.call 15 [t79, t80]) fun t81 =>
  .opg t78 false (.mv (e 10)) fun t82 =>
  .opg t78 false (.bin .gtr t81 t82) fun t83 =>
  .op (.pick t78 (.bool true) t83) fun t84 =>
  .op (.mv t84) fun t85 =>
  .opg t85 false (.mv (e 8)) fun t86 =>
  .opg t85 false (.mv (e 14)) fun t87 =>
  .opg t85 false (.call 15 [t86, t87]) fun t88 =>
  d7_r20_c2 e t85 t88) h Q := Iff.rfl
def d7_r20 : Env → Reg := fun e =>
  .op (.mv (e 7)) fun t73 =>
  .op (.mv (e 14)) fun t74 =>
  .op (.call 15 [t73, t74]) fun t75 =>
  .op (.mv (e 15)) fun t76 =>
  .op (.bin .lss t75 t76) fun t77 =>
  .op (.mv t77) fun t78 =>
  .opg t78 false (.mv (e 7)) fun t79 =>
  .opg t78 false (.mv (e 14)) fun t80 =>
  d7_r20_c1 e t78 t79 t80
theorem d7_r20_run {CP : CProg} (e : Env) (h : Heap) (Q : Post) : RunR CP (d7_r20 e) h Q ↔ RunR CP (
  .op (.mv (e 7)) fun t73 =>
  .op (.mv (e 14)) fun t74 =>
  .op (.call 15 [t73, t74]) fun t75 =>
  .op (.mv (e 15)) fun t76 =>
  .op (.bin .lss t75 t76) fun t77 =>
  .op (.mv t77) fun t78 =>
  .opg t78 false (.mv (e 7)) fun t79 =>
  .opg t78 false (.mv (e 14)) fun t80 =>
  d7_r20_c1 e t78 t79 t80) h Q := Iff.rfl
def d7_r21 : Env → Reg := fun e =>
  .op (.mv (.bool false)) fun t6 =>
  .done (e.upd 6 t6)
theorem d7_r21_run {CP : CProg} (e : Env) (h : Heap) (Q : Post) : RunR CP (d7_r21 e) h Q ↔ RunR CP (
  .op (.mv (.bool false)) fun t6 =>
  .done (e.upd 6 t6)) h Q := Iff.rfl
def d7_l0 : CD := (.seq (.draw (fun e => e 67) d7_r18) (.seq (.cond (fun e => e 69) (.lift .skip) (.lift (.exit 2))) (.block 3 (.seq (.ent (fun e => e 67) d7_r19) (.seq (.lift (.region d7_r20)) (.cond (fun e => e 91) (.seq (.lift (.region d7_r21)) (.lift .ret)) (.lift .skip)))))))
def d7_r22 : Env → Reg := fun e =>
  .op (.bin .add (e 40) (.int .i64 1)) fun t92 =>
  .op (.mv t92) fun t40 =>
  .done (e.upd 40 t40)
theorem d7_r22_run {CP : CProg} (e : Env) (h : Heap) (Q : Post) : RunR CP (d7_r22 e) h Q ↔ RunR CP (
  .op (.bin .add (e 40) (.int .i64 1)) fun t92 =>
  .op (.mv t92) fun t40 =>
  .done (e.upd 40 t40)) h Q := Iff.rfl
def d7_l1 : CD := (.seq (.lift (.region d7_r10)) (.seq (.cond (fun e => e 41) (.lift .skip) (.lift (.exit 0))) (.seq (.block 1 (.seq (.lift (.region d7_r11)) (.seq (.lift (.region d7_r12)) (.seq (.lift (.region d7_r13)) (.seq (.lift (.region d7_r14)) (.seq (.lift (.region d7_r15)) (.seq (.lift (.region d7_r16)) (.seq (.lift (.region d7_r17)) (.block 2 (.loop d7_l0)))))))))) (.lift (.region d7_r22)))))
def d7_r23 : Env → Reg := fun e =>
  .op (.mv (.pointer none)) fun t16 =>
  .done (e.upd 16 t16)
theorem d7_r23_run {CP : CProg} (e : Env) (h : Heap) (Q : Post) : RunR CP (d7_r23 e) h Q ↔ RunR CP (
  .op (.mv (.pointer none)) fun t16 =>
  .done (e.upd 16 t16)) h Q := Iff.rfl
def d7_r24 : Env → Reg := fun e =>
  .op (.mv (e 16)) fun t93 =>
  .op (.call 13 [t93, (.string ⟨#[97]⟩), (.int .i64 1)]) fun t94 =>
  .done e
theorem d7_r24_run {CP : CProg} (e : Env) (h : Heap) (Q : Post) : RunR CP (d7_r24 e) h Q ↔ RunR CP (
  .op (.mv (e 16)) fun t93 =>
  .op (.call 13 [t93, (.string ⟨#[97]⟩), (.int .i64 1)]) fun t94 =>
  .done e) h Q := Iff.rfl
def d7_r25 : Env → Reg := fun e =>
  .op (.mv (e 16)) fun t95 =>
  .op (.call 20 [t95]) fun t96 =>
  .done e
theorem d7_r25_run {CP : CProg} (e : Env) (h : Heap) (Q : Post) : RunR CP (d7_r25 e) h Q ↔ RunR CP (
  .op (.mv (e 16)) fun t95 =>
  .op (.call 20 [t95]) fun t96 =>
  .done e) h Q := Iff.rfl
def d7_r26_c2 (e : Env) (t109 : Value) (t112 : Value) : Reg :=
  .opg t109 true (.eqK .ptr false t112 (.pointer none)) fun t113 =>
  .op (.pick t109 t113 (.bool false)) fun t114 =>
  .op (.mv t114) fun t6 =>
  .done (e.upd 6 t6)
theorem d7_r26_c2_run {CP : CProg} (e : Env) (t109 : Value) (t112 : Value) (h : Heap) (Q : Post) : RunR CP (d7_r26_c2 e t109 t112) h Q ↔ RunR CP (
  .opg t109 true (.eqK .ptr false t112 (.pointer none)) fun t113 =>
  .op (.pick t109 t113 (.bool false)) fun t114 =>
  .op (.mv t114) fun t6 =>
  .done (e.upd 6 t6)) h Q := Iff.rfl
def d7_r26_c1 (e : Env) (t104 : Value) : Reg :=
  .op (.mv t104) fun t105 =>
  .opg t105 true (.call 12 [(.slice none 0 0), (.int .i64 3)]) fun t106 =>
  .opg t105 true (.eqK .ptr false t106 (.pointer none)) fun t107 =>
  .op (.pick t105 t107 (.bool false)) fun t108 =>
  .op (.mv t108) fun t109 =>
  .opg t109 true (.mv (e 0)) fun t110 =>
  .opg t109 true (.call 11 [t110, (.int .i64 1)]) fun t111 =>
  .opg t109 true (.call 12 [t111, (.int .i64 0)]) fun t112 =>
  d7_r26_c2 e t109 t112
theorem d7_r26_c1_run {CP : CProg} (e : Env) (t104 : Value) (h : Heap) (Q : Post) : RunR CP (d7_r26_c1 e t104) h Q ↔ RunR CP (
  .op (.mv t104) fun t105 =>
  .opg t105 true (.call 12 [(.slice none 0 0), (.int .i64 3)]) fun t106 =>
  .opg t105 true (.eqK .ptr false t106 (.pointer none)) fun t107 =>
  .op (.pick t105 t107 (.bool false)) fun t108 =>
  .op (.mv t108) fun t109 =>
  .opg t109 true (.mv (e 0)) fun t110 =>
  .opg t109 true (.call 11 [t110, (.int .i64 1)]) fun t111 =>
  .opg t109 true (.call 12 [t111, (.int .i64 0)]) fun t112 =>
  d7_r26_c2 e t109 t112) h Q := Iff.rfl
def d7_r26 : Env → Reg := fun e =>
  .op (.mv (e 16)) fun t97 =>
  .op (.call 15 [t97, (.string ⟨#[97]⟩)]) fun t98 =>
  .op (.bin .eql t98 (.int .i64 0)) fun t99 =>
  .op (.mv t99) fun t100 =>
  .opg t100 true (.mv (e 16)) fun t101 =>
  .opg t100 true (.call 16 [t101, (.int .i64 0), (.string ⟨#[97]⟩)]) fun t102 =>
  .opg t100 true (.bin .eql t102 (.int .i64 0)) fun t103 =>
  .op (.pick t100 t103 (.bool false)) fun t104 =>
  d7_r26_c1 e t104
theorem d7_r26_run {CP : CProg} (e : Env) (h : Heap) (Q : Post) : RunR CP (d7_r26 e) h Q ↔ RunR CP (
  .op (.mv (e 16)) fun t97 =>
  .op (.call 15 [t97, (.string ⟨#[97]⟩)]) fun t98 =>
  .op (.bin .eql t98 (.int .i64 0)) fun t99 =>
  .op (.mv t99) fun t100 =>
  .opg t100 true (.mv (e 16)) fun t101 =>
  .opg t100 true (.call 16 [t101, (.int .i64 0), (.string ⟨#[97]⟩)]) fun t102 =>
  .opg t100 true (.bin .eql t102 (.int .i64 0)) fun t103 =>
  .op (.pick t100 t103 (.bool false)) fun t104 =>
  d7_r26_c1 e t104) h Q := Iff.rfl
def d7 : DFn := ⟨(.seq (.lift (.region d7_r0)) (.seq (.seq (.lift (.region d7_r1)) (.cond (fun e => e 18) (.seq (.lift (.region d7_r2)) (.lift .ret)) (.lift .skip))) (.seq (.seq (.lift (.region d7_r3)) (.cond (fun e => e 26) (.seq (.lift (.region d7_r4)) (.lift .ret)) (.lift .skip))) (.seq (.lift (.region d7_r5)) (.seq (.lift (.region d7_r6)) (.seq (.lift (.region d7_r7)) (.seq (.lift (.region d7_r8)) (.seq (.seq (.lift (.region d7_r9)) (.block 0 (.loop d7_l1))) (.seq (.lift (.region d7_r23)) (.seq (.lift (.region d7_r24)) (.seq (.lift (.region d7_r25)) (.seq (.lift (.region d7_r26)) (.lift .ret))))))))))))), [.t 6]⟩
end Go.Proofs.Ytkoclacmomlmaaa.Can
