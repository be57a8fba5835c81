/- The canonical code of functions of the program, written by a program of this session (wip/can/res.py). No condition. -/
import Derived.Test.YtcmanhhpfbinoaaDoorCanWp
namespace Go.Proofs.YtcmanhhpfbinoaaDoor.Can
open Go
set_option linter.unusedVariables false
def big0 : ByteArray := ⟨#[48, 48, 48, 49, 48, 50, 48, 51, 48, 52, 48, 53, 48, 54, 48, 55, 48, 56, 48, 57, 49, 48, 49, 49, 49, 50, 49, 51, 49, 52, 49, 53, 49, 54, 49, 55, 49, 56, 49, 57, 50, 48, 50, 49, 50, 50, 50, 51, 50, 52, 50, 53, 50, 54, 50, 55, 50, 56, 50, 57, 51, 48, 51, 49, 51, 50, 51, 51, 51, 52, 51, 53, 51, 54, 51, 55, 51, 56, 51, 57, 52, 48, 52, 49, 52, 50, 52, 51, 52, 52, 52, 53, 52, 54, 52, 55, 52, 56, 52, 57, 53, 48, 53, 49, 53, 50, 53, 51, 53, 52, 53, 53, 53, 54, 53, 55, 53, 56, 53, 57, 54, 48, 54, 49, 54, 50, 54, 51, 54, 52, 54, 53, 54, 54, 54, 55, 54, 56, 54, 57, 55, 48, 55, 49, 55, 50, 55, 51, 55, 52, 55, 53, 55, 54, 55, 55, 55, 56, 55, 57, 56, 48, 56, 49, 56, 50, 56, 51, 56, 52, 56, 53, 56, 54, 56, 55, 56, 56, 56, 57, 57, 48, 57, 49, 57, 50, 57, 51, 57, 52, 57, 53, 57, 54, 57, 55, 57, 56, 57, 57]⟩
def big1 : ByteArray := ⟨#[0, 1, 2, 2, 3, 3, 3, 3, 4, 4, 4, 4, 4, 4, 4, 4, 5, 5, 5, 5, 5, 5, 5, 5, 5, 5, 5, 5, 5, 5, 5, 5, 6, 6, 6, 6, 6, 6, 6, 6, 6, 6, 6, 6, 6, 6, 6, 6, 6, 6, 6, 6, 6, 6, 6, 6, 6, 6, 6, 6, 6, 6, 6, 6, 7, 7, 7, 7, 7, 7, 7, 7, 7, 7, 7, 7, 7, 7, 7, 7, 7, 7, 7, 7, 7, 7, 7, 7, 7, 7, 7, 7, 7, 7, 7, 7, 7, 7, 7, 7, 7, 7, 7, 7, 7, 7, 7, 7, 7, 7, 7, 7, 7, 7, 7, 7, 7, 7, 7, 7, 7, 7, 7, 7, 7, 7, 7, 7, 8, 8, 8, 8, 8, 8, 8, 8, 8, 8, 8, 8, 8, 8, 8, 8, 8, 8, 8, 8, 8, 8, 8, 8, 8, 8, 8, 8, 8, 8, 8, 8, 8, 8, 8, 8, 8, 8, 8, 8, 8, 8, 8, 8, 8, 8, 8, 8, 8, 8, 8, 8, 8, 8, 8, 8, 8, 8, 8, 8, 8, 8, 8, 8, 8, 8, 8, 8, 8, 8, 8, 8, 8, 8, 8, 8, 8, 8, 8, 8, 8, 8, 8, 8, 8, 8, 8, 8, 8, 8, 8, 8, 8, 8, 8, 8, 8, 8, 8, 8, 8, 8, 8, 8, 8, 8, 8, 8, 8, 8, 8, 8, 8, 8, 8, 8, 8, 8, 8, 8, 8, 8, 8, 8, 8, 8, 8, 8]⟩
-- 3: weighbridge/weighbridgelaw21.ReportLines
def c3_r0 : Env → Reg := fun e =>
  .op (.box 23 (e 0)) fun t3 =>
  .op (.box 25 (e 1)) fun t4 =>
  .op (.mv (.bool false)) fun t6 =>
  .done (((e.upd 3 t3).upd 4 t4).upd 6 t6)
theorem c3_r0_run {CP : CProg} (e : Env) (h : Heap) (Q : Post) : RunR CP (c3_r0 e) h Q ↔ RunR CP (
  .op (.box 23 (e 0)) fun t3 =>
  .op (.box 25 (e 1)) fun t4 =>
  .op (.mv (.bool false)) fun t6 =>
  .done (((e.upd 3 t3).upd 4 t4).upd 6 t6)) h Q := Iff.rfl
def c3_r1 : Env → Reg := fun e =>
  .op (.call 7 []) fun t13 =>
  .op (.un .not t13) fun t14 =>
  .done (e.upd 14 t14)
theorem c3_r1_run {CP : CProg} (e : Env) (h : Heap) (Q : Post) : RunR CP (c3_r1 e) h Q ↔ RunR CP (
  .op (.call 7 []) fun t13 =>
  .op (.un .not t13) fun t14 =>
  .done (e.upd 14 t14)) h Q := Iff.rfl
def c3_r2 : Env → Reg := fun e =>
  .op (.mv (.bool false)) fun t6 =>
  .done (e.upd 6 t6)
theorem c3_r2_run {CP : CProg} (e : Env) (h : Heap) (Q : Post) : RunR CP (c3_r2 e) h Q ↔ RunR CP (
  .op (.mv (.bool false)) fun t6 =>
  .done (e.upd 6 t6)) h Q := Iff.rfl
def c3_r3 : Env → Reg := fun e =>
  .op (.mv (e 2)) fun t15 =>
  .op (.lenSl t15) fun t16 =>
  .op (.bin .gtr t16 (.int .i64 64)) fun t17 =>
  .done (e.upd 17 t17)
theorem c3_r3_run {CP : CProg} (e : Env) (h : Heap) (Q : Post) : RunR CP (c3_r3 e) h Q ↔ RunR CP (
  .op (.mv (e 2)) fun t15 =>
  .op (.lenSl t15) fun t16 =>
  .op (.bin .gtr t16 (.int .i64 64)) fun t17 =>
  .done (e.upd 17 t17)) h Q := Iff.rfl
def c3_r4 : Env → Reg := fun e =>
  .op (.mv (.bool true)) fun t6 =>
  .done (e.upd 6 t6)
theorem c3_r4_run {CP : CProg} (e : Env) (h : Heap) (Q : Post) : RunR CP (c3_r4 e) h Q ↔ RunR CP (
  .op (.mv (.bool true)) fun t6 =>
  .done (e.upd 6 t6)) h Q := Iff.rfl
def c3_r5 : Env → Reg := fun e =>
  .op (.fieldAddr 0 (e 3)) fun t18 =>
  .op (.load none t18) fun t19 =>
  .op (.bin .rem t19 (.int .i64 3)) fun t20 =>
  .op (.bin .add t20 (.int .i64 3)) fun t21 =>
  .op (.bin .rem t21 (.int .i64 3)) fun t22 =>
  .op (.bin .add t22 (.int .i64 1)) fun t23 =>
  .op (.fieldAddr 0 (e 3)) fun t24 =>
  .op (.store 1 t24 t23) fun _ =>
  .done e
theorem c3_r5_run {CP : CProg} (e : Env) (h : Heap) (Q : Post) : RunR CP (c3_r5 e) h Q ↔ RunR CP (
  .op (.fieldAddr 0 (e 3)) fun t18 =>
  .op (.load none t18) fun t19 =>
  .op (.bin .rem t19 (.int .i64 3)) fun t20 =>
  .op (.bin .add t20 (.int .i64 3)) fun t21 =>
  .op (.bin .rem t21 (.int .i64 3)) fun t22 =>
  .op (.bin .add t22 (.int .i64 1)) fun t23 =>
  .op (.fieldAddr 0 (e 3)) fun t24 =>
  .op (.store 1 t24 t23) fun _ =>
  .done e) h Q := Iff.rfl
def c3_r6 : Env → Reg := fun e =>
  .op (.mv (.string ⟨#[116, 111, 112, 32, 55]⟩)) fun t7 =>
  .done (e.upd 7 t7)
theorem c3_r6_run {CP : CProg} (e : Env) (h : Heap) (Q : Post) : RunR CP (c3_r6 e) h Q ↔ RunR CP (
  .op (.mv (.string ⟨#[116, 111, 112, 32, 55]⟩)) fun t7 =>
  .done (e.upd 7 t7)) h Q := Iff.rfl
def c3_r7 : Env → Reg := fun e =>
  .op (.mv (e 2)) fun t25 =>
  .op (.lenSl t25) fun t26 =>
  .op (.mv (.int .i64 0)) fun t27 =>
  .done (((e.upd 25 t25).upd 26 t26).upd 27 t27)
theorem c3_r7_run {CP : CProg} (e : Env) (h : Heap) (Q : Post) : RunR CP (c3_r7 e) h Q ↔ RunR CP (
  .op (.mv (e 2)) fun t25 =>
  .op (.lenSl t25) fun t26 =>
  .op (.mv (.int .i64 0)) fun t27 =>
  .done (((e.upd 25 t25).upd 26 t26).upd 27 t27)) h Q := Iff.rfl
def c3_r8 : Env → Reg := fun e =>
  .op (.bin .lss (e 27) (e 26)) fun t28 =>
  .done (e.upd 28 t28)
theorem c3_r8_run {CP : CProg} (e : Env) (h : Heap) (Q : Post) : RunR CP (c3_r8 e) h Q ↔ RunR CP (
  .op (.bin .lss (e 27) (e 26)) fun t28 =>
  .done (e.upd 28 t28)) h Q := Iff.rfl
def c3_r9 : Env → Reg := fun e =>
  .op (.indexSl 3 (e 25) (e 27)) fun t29 =>
  .op (.load (some 3) t29) fun t30 =>
  .op (.alloc 29 [(.string ⟨#[]⟩), (.int .i64 0), (.int .i64 0)]) fun t9 =>
  .op (.store 3 t9 t30) fun _ =>
  .done (e.upd 9 t9)
theorem c3_r9_run {CP : CProg} (e : Env) (h : Heap) (Q : Post) : RunR CP (c3_r9 e) h Q ↔ RunR CP (
  .op (.indexSl 3 (e 25) (e 27)) fun t29 =>
  .op (.load (some 3) t29) fun t30 =>
  .op (.alloc 29 [(.string ⟨#[]⟩), (.int .i64 0), (.int .i64 0)]) fun t9 =>
  .op (.store 3 t9 t30) fun _ =>
  .done (e.upd 9 t9)) h Q := Iff.rfl
def c3_r10 : Env → Reg := fun e =>
  .op (.fieldAddr 0 (e 9)) fun t31 =>
  .op (.load none t31) fun t32 =>
  .op (.lenStr t32) fun t33 =>
  .op (.bin .gtr t33 (.int .i64 64)) fun t34 =>
  .done (e.upd 34 t34)
theorem c3_r10_run {CP : CProg} (e : Env) (h : Heap) (Q : Post) : RunR CP (c3_r10 e) h Q ↔ RunR CP (
  .op (.fieldAddr 0 (e 9)) fun t31 =>
  .op (.load none t31) fun t32 =>
  .op (.lenStr t32) fun t33 =>
  .op (.bin .gtr t33 (.int .i64 64)) fun t34 =>
  .done (e.upd 34 t34)) h Q := Iff.rfl
def c3_r11 : Env → Reg := fun e =>
  .op (.mv (.bool true)) fun t6 =>
  .done (e.upd 6 t6)
theorem c3_r11_run {CP : CProg} (e : Env) (h : Heap) (Q : Post) : RunR CP (c3_r11 e) h Q ↔ RunR CP (
  .op (.mv (.bool true)) fun t6 =>
  .done (e.upd 6 t6)) h Q := Iff.rfl
def c3_r12_c2 (e : Env) (t35 : Value) (h3 : Heap) (h8 : Heap) (t45 : Value) (t46 : Value) (t47 : Value) : Reg :=
  .chk none (some h8) (.load none t46) t47 <|
  .chk none (some h3) (.load none t46) t47 <|
  .snap fun h13 =>
  .op (.call 9 [t47]) fun t48 =>
  .op (.bin .add t45 t48) fun t49 =>
  .op (.bin .add t35 t49) fun t50 =>
  .op (.mv t50) fun t7 =>
  .done (e.upd 7 t7)
theorem c3_r12_c2_run {CP : CProg} (e : Env) (t35 : Value) (h3 : Heap) (h8 : Heap) (t45 : Value) (t46 : Value) (t47 : Value) (h : Heap) (Q : Post) : RunR CP (c3_r12_c2 e t35 h3 h8 t45 t46 t47) h Q ↔ RunR CP (
  .chk none (some h8) (.load none t46) t47 <|
  .chk none (some h3) (.load none t46) t47 <|
  .snap fun h13 =>
  .op (.call 9 [t47]) fun t48 =>
  .op (.bin .add t45 t48) fun t49 =>
  .op (.bin .add t35 t49) fun t50 =>
  .op (.mv t50) fun t7 =>
  .done (e.upd 7 t7)) h Q := Iff.rfl
def c3_r12_c1 (e : Env) (t35 : Value) (h3 : Heap) (t40 : Value) (t41 : Value) : Reg :=
  .op (.load none t41) fun t42 =>
  .chk none (some h3) (.load none t41) t42 <|
  .snap fun h8 =>
  .op (.call 9 [t42]) fun t43 =>
  .op (.bin .add t40 t43) fun t44 =>
  .op (.bin .add t44 (.string ⟨#[32]⟩)) fun t45 =>
  .op (.fieldAddr 2 (e 9)) fun t46 =>
  .op (.load none t46) fun t47 =>
  c3_r12_c2 e t35 h3 h8 t45 t46 t47
theorem c3_r12_c1_run {CP : CProg} (e : Env) (t35 : Value) (h3 : Heap) (t40 : Value) (t41 : Value) (h : Heap) (Q : Post) : RunR CP (c3_r12_c1 e t35 h3 t40 t41) h Q ↔ RunR CP (
  .op (.load none t41) fun t42 =>
  .chk none (some h3) (.load none t41) t42 <|
  .snap fun h8 =>
  .op (.call 9 [t42]) fun t43 =>
  .op (.bin .add t40 t43) fun t44 =>
  .op (.bin .add t44 (.string ⟨#[32]⟩)) fun t45 =>
  .op (.fieldAddr 2 (e 9)) fun t46 =>
  .op (.load none t46) fun t47 =>
  c3_r12_c2 e t35 h3 h8 t45 t46 t47) h Q := Iff.rfl
def c3_r12 : Env → Reg := fun e =>
  .op (.mv (e 7)) fun t35 =>
  .op (.fieldAddr 0 (e 9)) fun t36 =>
  .op (.load none t36) fun t37 =>
  .snap fun h3 =>
  .op (.call 8 [t37]) fun t38 =>
  .op (.bin .add (.string ⟨#[32]⟩) t38) fun t39 =>
  .op (.bin .add t39 (.string ⟨#[32]⟩)) fun t40 =>
  .op (.fieldAddr 1 (e 9)) fun t41 =>
  c3_r12_c1 e t35 h3 t40 t41
theorem c3_r12_run {CP : CProg} (e : Env) (h : Heap) (Q : Post) : RunR CP (c3_r12 e) h Q ↔ RunR CP (
  .op (.mv (e 7)) fun t35 =>
  .op (.fieldAddr 0 (e 9)) fun t36 =>
  .op (.load none t36) fun t37 =>
  .snap fun h3 =>
  .op (.call 8 [t37]) fun t38 =>
  .op (.bin .add (.string ⟨#[32]⟩) t38) fun t39 =>
  .op (.bin .add t39 (.string ⟨#[32]⟩)) fun t40 =>
  .op (.fieldAddr 1 (e 9)) fun t41 =>
  c3_r12_c1 e t35 h3 t40 t41) h Q := Iff.rfl
def c3_r13 : Env → Reg := fun e =>
  .op (.bin .add (e 27) (.int .i64 1)) fun t51 =>
  .op (.mv t51) fun t27 =>
  .done (e.upd 27 t27)
theorem c3_r13_run {CP : CProg} (e : Env) (h : Heap) (Q : Post) : RunR CP (c3_r13 e) h Q ↔ RunR CP (
  .op (.bin .add (e 27) (.int .i64 1)) fun t51 =>
  .op (.mv t51) fun t27 =>
  .done (e.upd 27 t27)) h Q := Iff.rfl
def c3_l0 : CC := (.seq (.region c3_r8) (.seq (.cond (fun e => e 28) .skip (.exit 0)) (.seq (.block 1 (.seq (.region c3_r9) (.seq (.seq (.region c3_r10) (.cond (fun e => e 34) (.seq (.region c3_r11) .ret) .skip)) (.region c3_r12)))) (.region c3_r13))))
def c3_r14 : Env → Reg := fun e =>
  .op (.buildSlice 9 4 [(.string ⟨#[]⟩)] [(0, 1, (.string ⟨#[]⟩)), (1, 1, (.string ⟨#[97, 108, 108, 111, 119]⟩)), (2, 1, (.string ⟨#[100, 101, 110, 121]⟩)), (3, 1, (.string ⟨#[99, 111, 115, 116]⟩))]) fun t52 =>
  .op (.fieldAddr 0 (e 3)) fun t53 =>
  .op (.load none t53) fun t54 =>
  .op (.indexSl 1 t52 t54) fun t55 =>
  .op (.load none t55) fun t56 =>
  .op (.mv t56) fun t10 =>
  .done (e.upd 10 t10)
theorem c3_r14_run {CP : CProg} (e : Env) (h : Heap) (Q : Post) : RunR CP (c3_r14 e) h Q ↔ RunR CP (
  .op (.buildSlice 9 4 [(.string ⟨#[]⟩)] [(0, 1, (.string ⟨#[]⟩)), (1, 1, (.string ⟨#[97, 108, 108, 111, 119]⟩)), (2, 1, (.string ⟨#[100, 101, 110, 121]⟩)), (3, 1, (.string ⟨#[99, 111, 115, 116]⟩))]) fun t52 =>
  .op (.fieldAddr 0 (e 3)) fun t53 =>
  .op (.load none t53) fun t54 =>
  .op (.indexSl 1 t52 t54) fun t55 =>
  .op (.load none t55) fun t56 =>
  .op (.mv t56) fun t10 =>
  .done (e.upd 10 t10)) h Q := Iff.rfl
def c3_r15_c1 (e : Env) (h2 : Heap) (t61 : Value) (t62 : Value) (t63 : Value) : Reg :=
  .chk none (some h2) (.load none t62) t63 <|
  .snap fun h7 =>
  .op (.call 9 [t63]) fun t64 =>
  .op (.bin .add t61 t64) fun t65 =>
  .op (.mv t65) fun t11 =>
  .done (e.upd 11 t11)
theorem c3_r15_c1_run {CP : CProg} (e : Env) (h2 : Heap) (t61 : Value) (t62 : Value) (t63 : Value) (h : Heap) (Q : Post) : RunR CP (c3_r15_c1 e h2 t61 t62 t63) h Q ↔ RunR CP (
  .chk none (some h2) (.load none t62) t63 <|
  .snap fun h7 =>
  .op (.call 9 [t63]) fun t64 =>
  .op (.bin .add t61 t64) fun t65 =>
  .op (.mv t65) fun t11 =>
  .done (e.upd 11 t11)) h Q := Iff.rfl
def c3_r15 : Env → Reg := fun e =>
  .op (.fieldAddr 1 (e 3)) fun t57 =>
  .op (.load none t57) fun t58 =>
  .snap fun h2 =>
  .op (.call 9 [t58]) fun t59 =>
  .op (.bin .add (.string ⟨#[32]⟩) t59) fun t60 =>
  .op (.bin .add t60 (.string ⟨#[32]⟩)) fun t61 =>
  .op (.fieldAddr 2 (e 3)) fun t62 =>
  .op (.load none t62) fun t63 =>
  c3_r15_c1 e h2 t61 t62 t63
theorem c3_r15_run {CP : CProg} (e : Env) (h : Heap) (Q : Post) : RunR CP (c3_r15 e) h Q ↔ RunR CP (
  .op (.fieldAddr 1 (e 3)) fun t57 =>
  .op (.load none t57) fun t58 =>
  .snap fun h2 =>
  .op (.call 9 [t58]) fun t59 =>
  .op (.bin .add (.string ⟨#[32]⟩) t59) fun t60 =>
  .op (.bin .add t60 (.string ⟨#[32]⟩)) fun t61 =>
  .op (.fieldAddr 2 (e 3)) fun t62 =>
  .op (.load none t62) fun t63 =>
  c3_r15_c1 e h2 t61 t62 t63) h Q := Iff.rfl
def c3_r16_c4 (e : Env) (h2 : Heap) (h7 : Heap) (h12 : Heap) (h17 : Heap) (t85 : Value) (t86 : Value) (t87 : Value) : Reg :=
  .chk none (some h17) (.load none t86) t87 <|
  .chk none (some h12) (.load none t86) t87 <|
  .chk none (some h7) (.load none t86) t87 <|
  .chk none (some h2) (.load none t86) t87 <|
  .snap fun h22 =>
  .op (.call 9 [t87]) fun t88 =>
  .op (.bin .add t85 t88) fun t89 =>
  .op (.mv t89) fun t12 =>
  .done (e.upd 12 t12)
theorem c3_r16_c4_run {CP : CProg} (e : Env) (h2 : Heap) (h7 : Heap) (h12 : Heap) (h17 : Heap) (t85 : Value) (t86 : Value) (t87 : Value) (h : Heap) (Q : Post) : RunR CP (c3_r16_c4 e h2 h7 h12 h17 t85 t86 t87) h Q ↔ RunR CP (
  .chk none (some h17) (.load none t86) t87 <|
  .chk none (some h12) (.load none t86) t87 <|
  .chk none (some h7) (.load none t86) t87 <|
  .chk none (some h2) (.load none t86) t87 <|
  .snap fun h22 =>
  .op (.call 9 [t87]) fun t88 =>
  .op (.bin .add t85 t88) fun t89 =>
  .op (.mv t89) fun t12 =>
  .done (e.upd 12 t12)) h Q := Iff.rfl
def c3_r16_c3 (e : Env) (h2 : Heap) (h7 : Heap) (h12 : Heap) (t80 : Value) (t81 : Value) (t82 : Value) : Reg :=
  .chk none (some h7) (.load none t81) t82 <|
  .chk none (some h2) (.load none t81) t82 <|
  .snap fun h17 =>
  .op (.call 9 [t82]) fun t83 =>
  .op (.bin .add t80 t83) fun t84 =>
  .op (.bin .add t84 (.string ⟨#[32]⟩)) fun t85 =>
  .op (.fieldAddr 4 (e 4)) fun t86 =>
  .op (.load none t86) fun t87 =>
  c3_r16_c4 e h2 h7 h12 h17 t85 t86 t87
theorem c3_r16_c3_run {CP : CProg} (e : Env) (h2 : Heap) (h7 : Heap) (h12 : Heap) (t80 : Value) (t81 : Value) (t82 : Value) (h : Heap) (Q : Post) : RunR CP (c3_r16_c3 e h2 h7 h12 t80 t81 t82) h Q ↔ RunR CP (
  .chk none (some h7) (.load none t81) t82 <|
  .chk none (some h2) (.load none t81) t82 <|
  .snap fun h17 =>
  .op (.call 9 [t82]) fun t83 =>
  .op (.bin .add t80 t83) fun t84 =>
  .op (.bin .add t84 (.string ⟨#[32]⟩)) fun t85 =>
  .op (.fieldAddr 4 (e 4)) fun t86 =>
  .op (.load none t86) fun t87 =>
  c3_r16_c4 e h2 h7 h12 h17 t85 t86 t87) h Q := Iff.rfl
def c3_r16_c2 (e : Env) (h2 : Heap) (h7 : Heap) (t75 : Value) (t76 : Value) (t77 : Value) : Reg :=
  .chk none (some h2) (.load none t76) t77 <|
  .snap fun h12 =>
  .op (.call 9 [t77]) fun t78 =>
  .op (.bin .add t75 t78) fun t79 =>
  .op (.bin .add t79 (.string ⟨#[32]⟩)) fun t80 =>
  .op (.fieldAddr 3 (e 4)) fun t81 =>
  .op (.load none t81) fun t82 =>
  .chk none (some h12) (.load none t81) t82 <|
  c3_r16_c3 e h2 h7 h12 t80 t81 t82
theorem c3_r16_c2_run {CP : CProg} (e : Env) (h2 : Heap) (h7 : Heap) (t75 : Value) (t76 : Value) (t77 : Value) (h : Heap) (Q : Post) : RunR CP (c3_r16_c2 e h2 h7 t75 t76 t77) h Q ↔ RunR CP (
  .chk none (some h2) (.load none t76) t77 <|
  .snap fun h12 =>
  .op (.call 9 [t77]) fun t78 =>
  .op (.bin .add t75 t78) fun t79 =>
  .op (.bin .add t79 (.string ⟨#[32]⟩)) fun t80 =>
  .op (.fieldAddr 3 (e 4)) fun t81 =>
  .op (.load none t81) fun t82 =>
  .chk none (some h12) (.load none t81) t82 <|
  c3_r16_c3 e h2 h7 h12 t80 t81 t82) h Q := Iff.rfl
def c3_r16_c1 (e : Env) (h2 : Heap) (t70 : Value) (t71 : Value) (t72 : Value) : Reg :=
  .chk none (some h2) (.load none t71) t72 <|
  .snap fun h7 =>
  .op (.call 9 [t72]) fun t73 =>
  .op (.bin .add t70 t73) fun t74 =>
  .op (.bin .add t74 (.string ⟨#[32]⟩)) fun t75 =>
  .op (.fieldAddr 2 (e 4)) fun t76 =>
  .op (.load none t76) fun t77 =>
  .chk none (some h7) (.load none t76) t77 <|
  c3_r16_c2 e h2 h7 t75 t76 t77
theorem c3_r16_c1_run {CP : CProg} (e : Env) (h2 : Heap) (t70 : Value) (t71 : Value) (t72 : Value) (h : Heap) (Q : Post) : RunR CP (c3_r16_c1 e h2 t70 t71 t72) h Q ↔ RunR CP (
  .chk none (some h2) (.load none t71) t72 <|
  .snap fun h7 =>
  .op (.call 9 [t72]) fun t73 =>
  .op (.bin .add t70 t73) fun t74 =>
  .op (.bin .add t74 (.string ⟨#[32]⟩)) fun t75 =>
  .op (.fieldAddr 2 (e 4)) fun t76 =>
  .op (.load none t76) fun t77 =>
  .chk none (some h7) (.load none t76) t77 <|
  c3_r16_c2 e h2 h7 t75 t76 t77) h Q := Iff.rfl
def c3_r16 : Env → Reg := fun e =>
  .op (.fieldAddr 0 (e 4)) fun t66 =>
  .op (.load none t66) fun t67 =>
  .snap fun h2 =>
  .op (.call 9 [t67]) fun t68 =>
  .op (.bin .add (.string ⟨#[115, 116, 97, 116, 115, 32, 55, 32]⟩) t68) fun t69 =>
  .op (.bin .add t69 (.string ⟨#[32]⟩)) fun t70 =>
  .op (.fieldAddr 1 (e 4)) fun t71 =>
  .op (.load none t71) fun t72 =>
  c3_r16_c1 e h2 t70 t71 t72
theorem c3_r16_run {CP : CProg} (e : Env) (h : Heap) (Q : Post) : RunR CP (c3_r16 e) h Q ↔ RunR CP (
  .op (.fieldAddr 0 (e 4)) fun t66 =>
  .op (.load none t66) fun t67 =>
  .snap fun h2 =>
  .op (.call 9 [t67]) fun t68 =>
  .op (.bin .add (.string ⟨#[115, 116, 97, 116, 115, 32, 55, 32]⟩) t68) fun t69 =>
  .op (.bin .add t69 (.string ⟨#[32]⟩)) fun t70 =>
  .op (.fieldAddr 1 (e 4)) fun t71 =>
  .op (.load none t71) fun t72 =>
  c3_r16_c1 e h2 t70 t71 t72) h Q := Iff.rfl
def c3_r17_c3 (e : Env) (t108 : Value) (t113 : Value) : Reg :=
  .op (.pick t108 t113 (.bool false)) fun t114 =>
  .op (.mv t114) fun t115 =>
  .opg t115 true (.mv (e 2)) fun t116 =>
  .opg t115 true (.build [(.int .i64 0), (.int .i64 0), (.int .i64 0), (.int .i64 0), (.int .i64 0), (.int .i64 0), (.int .i64 0), (.int .i64 0), (.int .i64 0), (.int .i64 0), (.slice none 0 0), (.int .i64 0)] [(0, 1, (.int .i64 4)), (1, 1, (.int .i64 7)), (10, 1, t116)]) fun t117 =>
  .opg t115 true (.call 10 [t117]) fun t118 =>
  .opg t115 true (.mv (e 7)) fun t119 =>
  .opg t115 true (.bin .eql t118 t119) fun t120 =>
  .op (.pick t115 t120 (.bool false)) fun t121 =>
  .op (.mv t121) fun t6 =>
  .done (e.upd 6 t6)
theorem c3_r17_c3_run {CP : CProg} (e : Env) (t108 : Value) (t113 : Value) (h : Heap) (Q : Post) : RunR CP (c3_r17_c3 e t108 t113) h Q ↔ RunR CP (
  .op (.pick t108 t113 (.bool false)) fun t114 =>
  .op (.mv t114) fun t115 =>
  .opg t115 true (.mv (e 2)) fun t116 =>
  .opg t115 true (.build [(.int .i64 0), (.int .i64 0), (.int .i64 0), (.int .i64 0), (.int .i64 0), (.int .i64 0), (.int .i64 0), (.int .i64 0), (.int .i64 0), (.int .i64 0), (.slice none 0 0), (.int .i64 0)] [(0, 1, (.int .i64 4)), (1, 1, (.int .i64 7)), (10, 1, t116)]) fun t117 =>
  .opg t115 true (.call 10 [t117]) fun t118 =>
  .opg t115 true (.mv (e 7)) fun t119 =>
  .opg t115 true (.bin .eql t118 t119) fun t120 =>
  .op (.pick t115 t120 (.bool false)) fun t121 =>
  .op (.mv t121) fun t6 =>
  .done (e.upd 6 t6)) h Q := Iff.rfl
def c3_r17_c2 (e : Env) (t98 : Value) (t101 : Value) (t105 : Value) : Reg :=
  .opg t98 true (.bin .eql t101 t105) fun t106 =>
  .op (.pick t98 t106 (.bool false)) fun t107 =>
  .op (.mv t107) fun t108 =>
  .opg t108 true (.load (some 5) (e 4)) fun t109 =>
  .opg t108 true (.build [(.int .i64 0), (.int .i64 0), (.int .i64 0), (.int .i64 0), (.int .i64 0), (.int .i64 0), (.int .i64 0), (.int .i64 0), (.int .i64 0), (.int .i64 0), (.slice none 0 0), (.int .i64 0)] [(0, 1, (.int .i64 3)), (1, 1, (.int .i64 7)), (5, 5, t109)]) fun t110 =>
  .opg t108 true (.call 10 [t110]) fun t111 =>
  .opg t108 true (.mv (e 12)) fun t112 =>
  .opg t108 true (.bin .eql t111 t112) fun t113 =>
  c3_r17_c3 e t108 t113
theorem c3_r17_c2_run {CP : CProg} (e : Env) (t98 : Value) (t101 : Value) (t105 : Value) (h : Heap) (Q : Post) : RunR CP (c3_r17_c2 e t98 t101 t105) h Q ↔ RunR CP (
  .opg t98 true (.bin .eql t101 t105) fun t106 =>
  .op (.pick t98 t106 (.bool false)) fun t107 =>
  .op (.mv t107) fun t108 =>
  .opg t108 true (.load (some 5) (e 4)) fun t109 =>
  .opg t108 true (.build [(.int .i64 0), (.int .i64 0), (.int .i64 0), (.int .i64 0), (.int .i64 0), (.int .i64 0), (.int .i64 0), (.int .i64 0), (.int .i64 0), (.int .i64 0), (.slice none 0 0), (.int .i64 0)] [(0, 1, (.int .i64 3)), (1, 1, (.int .i64 7)), (5, 5, t109)]) fun t110 =>
  .opg t108 true (.call 10 [t110]) fun t111 =>
  .opg t108 true (.mv (e 12)) fun t112 =>
  .opg t108 true (.bin .eql t111 t112) fun t113 =>
  c3_r17_c3 e t108 t113) h Q := Iff.rfl
def c3_r17_c1 (e : Env) (t97 : Value) : Reg :=
  .op (.mv t97) fun t98 =>
  .opg t98 true (.load (some 3) (e 3)) fun t99 =>
  .opg t98 true (.build [(.int .i64 0), (.int .i64 0), (.int .i64 0), (.int .i64 0), (.int .i64 0), (.int .i64 0), (.int .i64 0), (.int .i64 0), (.int .i64 0), (.int .i64 0), (.slice none 0 0), (.int .i64 0)] [(0, 1, (.int .i64 2)), (2, 3, t99)]) fun t100 =>
  .opg t98 true (.call 10 [t100]) fun t101 =>
  .opg t98 true (.mv (e 10)) fun t102 =>
  .opg t98 true (.bin .add (.string ⟨#[112, 101, 101, 107, 32]⟩) t102) fun t103 =>
  .opg t98 true (.mv (e 11)) fun t104 =>
  .opg t98 true (.bin .add t103 t104) fun t105 =>
  c3_r17_c2 e t98 t101 t105
theorem c3_r17_c1_run {CP : CProg} (e : Env) (t97 : Value) (h : Heap) (Q : Post) : RunR CP (c3_r17_c1 e t97) h Q ↔ RunR CP (
  .op (.mv t97) fun t98 =>
  .opg t98 true (.load (some 3) (e 3)) fun t99 =>
  .opg t98 true (.build [(.int .i64 0), (.int .i64 0), (.int .i64 0), (.int .i64 0), (.int .i64 0), (.int .i64 0), (.int .i64 0), (.int .i64 0), (.int .i64 0), (.int .i64 0), (.slice none 0 0), (.int .i64 0)] [(0, 1, (.int .i64 2)), (2, 3, t99)]) fun t100 =>
  .opg t98 true (.call 10 [t100]) fun t101 =>
  .opg t98 true (.mv (e 10)) fun t102 =>
  .opg t98 true (.bin .add (.string ⟨#[112, 101, 101, 107, 32]⟩) t102) fun t103 =>
  .opg t98 true (.mv (e 11)) fun t104 =>
  .opg t98 true (.bin .add t103 t104) fun t105 =>
  c3_r17_c2 e t98 t101 t105) h Q := Iff.rfl
def c3_r17 : Env → Reg := fun e =>
  .op (.load (some 3) (e 3)) fun t90 =>
  .op (.build [(.int .i64 0), (.int .i64 0), (.int .i64 0), (.int .i64 0), (.int .i64 0), (.int .i64 0), (.int .i64 0), (.int .i64 0), (.int .i64 0), (.int .i64 0), (.slice none 0 0), (.int .i64 0)] [(0, 1, (.int .i64 1)), (2, 3, t90)]) fun t91 =>
  .op (.call 10 [t91]) fun t92 =>
  .op (.mv (e 10)) fun t93 =>
  .op (.bin .add (.string ⟨#[99, 104, 101, 99, 107, 32]⟩) t93) fun t94 =>
  .op (.mv (e 11)) fun t95 =>
  .op (.bin .add t94 t95) fun t96 =>
  .op (.bin .eql t92 t96) fun t97 =>
  c3_r17_c1 e t97
theorem c3_r17_run {CP : CProg} (e : Env) (h : Heap) (Q : Post) : RunR CP (c3_r17 e) h Q ↔ RunR CP (
  .op (.load (some 3) (e 3)) fun t90 =>
  .op (.build [(.int .i64 0), (.int .i64 0), (.int .i64 0), (.int .i64 0), (.int .i64 0), (.int .i64 0), (.int .i64 0), (.int .i64 0), (.int .i64 0), (.int .i64 0), (.slice none 0 0), (.int .i64 0)] [(0, 1, (.int .i64 1)), (2, 3, t90)]) fun t91 =>
  .op (.call 10 [t91]) fun t92 =>
  .op (.mv (e 10)) fun t93 =>
  .op (.bin .add (.string ⟨#[99, 104, 101, 99, 107, 32]⟩) t93) fun t94 =>
  .op (.mv (e 11)) fun t95 =>
  .op (.bin .add t94 t95) fun t96 =>
  .op (.bin .eql t92 t96) fun t97 =>
  c3_r17_c1 e t97) h Q := Iff.rfl
def c3 : CFn := ⟨(.seq (.region c3_r0) (.seq (.seq (.region c3_r1) (.cond (fun e => e 14) (.seq (.region c3_r2) .ret) .skip)) (.seq (.seq (.region c3_r3) (.cond (fun e => e 17) (.seq (.region c3_r4) .ret) .skip)) (.seq (.region c3_r5) (.seq (.region c3_r6) (.seq (.seq (.region c3_r7) (.block 0 (.loop c3_l0))) (.seq (.region c3_r14) (.seq (.region c3_r15) (.seq (.region c3_r16) (.seq (.region c3_r17) .ret)))))))))), [.t 6]⟩
def p3 : Pers := ⟨13, [14, 17, 25, 26, 27, 28, 34], 122⟩
-- 4: weighbridge/weighbridgelaw21.ReportAny
def c4_r0 : Env → Reg := fun e =>
  .op (.mv (.bool false)) fun t2 =>
  .done (e.upd 2 t2)
theorem c4_r0_run {CP : CProg} (e : Env) (h : Heap) (Q : Post) : RunR CP (c4_r0 e) h Q ↔ RunR CP (
  .op (.mv (.bool false)) fun t2 =>
  .done (e.upd 2 t2)) h Q := Iff.rfl
def c4_r1 : Env → Reg := fun e =>
  .op (.call 7 []) fun t14 =>
  .op (.un .not t14) fun t15 =>
  .done (e.upd 15 t15)
theorem c4_r1_run {CP : CProg} (e : Env) (h : Heap) (Q : Post) : RunR CP (c4_r1 e) h Q ↔ RunR CP (
  .op (.call 7 []) fun t14 =>
  .op (.un .not t14) fun t15 =>
  .done (e.upd 15 t15)) h Q := Iff.rfl
def c4_r2 : Env → Reg := fun e =>
  .op (.mv (.bool false)) fun t2 =>
  .done (e.upd 2 t2)
theorem c4_r2_run {CP : CProg} (e : Env) (h : Heap) (Q : Post) : RunR CP (c4_r2 e) h Q ↔ RunR CP (
  .op (.mv (.bool false)) fun t2 =>
  .done (e.upd 2 t2)) h Q := Iff.rfl
def c4_r3 : Env → Reg := fun e =>
  .op (.mv (e 0)) fun t16 =>
  .op (.lenSl t16) fun t17 =>
  .op (.bin .gtr t17 (.int .i64 3000)) fun t18 =>
  .done (e.upd 18 t18)
theorem c4_r3_run {CP : CProg} (e : Env) (h : Heap) (Q : Post) : RunR CP (c4_r3 e) h Q ↔ RunR CP (
  .op (.mv (e 0)) fun t16 =>
  .op (.lenSl t16) fun t17 =>
  .op (.bin .gtr t17 (.int .i64 3000)) fun t18 =>
  .done (e.upd 18 t18)) h Q := Iff.rfl
def c4_r4 : Env → Reg := fun e =>
  .op (.mv (.bool true)) fun t2 =>
  .done (e.upd 2 t2)
theorem c4_r4_run {CP : CProg} (e : Env) (h : Heap) (Q : Post) : RunR CP (c4_r4 e) h Q ↔ RunR CP (
  .op (.mv (.bool true)) fun t2 =>
  .done (e.upd 2 t2)) h Q := Iff.rfl
def c4_r5 : Env → Reg := fun e =>
  .op (.mv (e 0)) fun t20 =>
  .op (.call 11 [t20]) fun t21 =>
  .op (.mv t21) fun t19 =>
  .op (.extract t19 0) fun t22 =>
  .op (.extract t19 1) fun t23 =>
  .op (.mv t22) fun t3 =>
  .op (.mv t23) fun t4 =>
  .done ((e.upd 3 t3).upd 4 t4)
theorem c4_r5_run {CP : CProg} (e : Env) (h : Heap) (Q : Post) : RunR CP (c4_r5 e) h Q ↔ RunR CP (
  .op (.mv (e 0)) fun t20 =>
  .op (.call 11 [t20]) fun t21 =>
  .op (.mv t21) fun t19 =>
  .op (.extract t19 0) fun t22 =>
  .op (.extract t19 1) fun t23 =>
  .op (.mv t22) fun t3 =>
  .op (.mv t23) fun t4 =>
  .done ((e.upd 3 t3).upd 4 t4)) h Q := Iff.rfl
def c4_r6 : Env → Reg := fun e =>
  .op (.mv (.int .i64 0)) fun t5 =>
  .op (.mv (.int .i64 0)) fun t6 =>
  .done ((e.upd 5 t5).upd 6 t6)
theorem c4_r6_run {CP : CProg} (e : Env) (h : Heap) (Q : Post) : RunR CP (c4_r6 e) h Q ↔ RunR CP (
  .op (.mv (.int .i64 0)) fun t5 =>
  .op (.mv (.int .i64 0)) fun t6 =>
  .done ((e.upd 5 t5).upd 6 t6)) h Q := Iff.rfl
def c4_r7 : Env → Reg := fun e =>
  .op (.mv (e 3)) fun t24 =>
  .op (.lenStr t24) fun t25 =>
  .op (.mv (.int .i64 0)) fun t26 =>
  .done ((e.upd 25 t25).upd 26 t26)
theorem c4_r7_run {CP : CProg} (e : Env) (h : Heap) (Q : Post) : RunR CP (c4_r7 e) h Q ↔ RunR CP (
  .op (.mv (e 3)) fun t24 =>
  .op (.lenStr t24) fun t25 =>
  .op (.mv (.int .i64 0)) fun t26 =>
  .done ((e.upd 25 t25).upd 26 t26)) h Q := Iff.rfl
def c4_r8 : Env → Reg := fun e =>
  .op (.bin .lss (e 26) (e 25)) fun t27 =>
  .done (e.upd 27 t27)
theorem c4_r8_run {CP : CProg} (e : Env) (h : Heap) (Q : Post) : RunR CP (c4_r8 e) h Q ↔ RunR CP (
  .op (.bin .lss (e 26) (e 25)) fun t27 =>
  .done (e.upd 27 t27)) h Q := Iff.rfl
def c4_r9 : Env → Reg := fun e =>
  .op (.mv (e 26)) fun t28 =>
  .op (.mv t28) fun t7 =>
  .done (e.upd 7 t7)
theorem c4_r9_run {CP : CProg} (e : Env) (h : Heap) (Q : Post) : RunR CP (c4_r9 e) h Q ↔ RunR CP (
  .op (.mv (e 26)) fun t28 =>
  .op (.mv t28) fun t7 =>
  .done (e.upd 7 t7)) h Q := Iff.rfl
def c4_r10 : Env → Reg := fun e =>
  .op (.mv (e 3)) fun t29 =>
  .op (.mv (e 7)) fun t30 =>
  .op (.indexStr t29 t30) fun t31 =>
  .op (.bin .eql t31 (.int .u8 10)) fun t32 =>
  .done (e.upd 32 t32)
theorem c4_r10_run {CP : CProg} (e : Env) (h : Heap) (Q : Post) : RunR CP (c4_r10 e) h Q ↔ RunR CP (
  .op (.mv (e 3)) fun t29 =>
  .op (.mv (e 7)) fun t30 =>
  .op (.indexStr t29 t30) fun t31 =>
  .op (.bin .eql t31 (.int .u8 10)) fun t32 =>
  .done (e.upd 32 t32)) h Q := Iff.rfl
def c4_r11 : Env → Reg := fun e =>
  .op (.mv (e 5)) fun t33 =>
  .op (.bin .add t33 (.int .i64 1)) fun t34 =>
  .op (.mv t34) fun t5 =>
  .done (e.upd 5 t5)
theorem c4_r11_run {CP : CProg} (e : Env) (h : Heap) (Q : Post) : RunR CP (c4_r11 e) h Q ↔ RunR CP (
  .op (.mv (e 5)) fun t33 =>
  .op (.bin .add t33 (.int .i64 1)) fun t34 =>
  .op (.mv t34) fun t5 =>
  .done (e.upd 5 t5)) h Q := Iff.rfl
def c4_r12 : Env → Reg := fun e =>
  .op (.bin .add (e 26) (.int .i64 1)) fun t35 =>
  .op (.mv t35) fun t26 =>
  .done (e.upd 26 t26)
theorem c4_r12_run {CP : CProg} (e : Env) (h : Heap) (Q : Post) : RunR CP (c4_r12 e) h Q ↔ RunR CP (
  .op (.bin .add (e 26) (.int .i64 1)) fun t35 =>
  .op (.mv t35) fun t26 =>
  .done (e.upd 26 t26)) h Q := Iff.rfl
def c4_l0 : CC := (.seq (.region c4_r8) (.seq (.cond (fun e => e 27) .skip (.exit 0)) (.seq (.block 1 (.seq (.region c4_r9) (.seq (.region c4_r10) (.cond (fun e => e 32) (.region c4_r11) .skip)))) (.region c4_r12))))
def c4_r13 : Env → Reg := fun e =>
  .op (.mv (e 5)) fun t36 =>
  .op (.mv (.int .i64 0)) fun t37 =>
  .done ((e.upd 36 t36).upd 37 t37)
theorem c4_r13_run {CP : CProg} (e : Env) (h : Heap) (Q : Post) : RunR CP (c4_r13 e) h Q ↔ RunR CP (
  .op (.mv (e 5)) fun t36 =>
  .op (.mv (.int .i64 0)) fun t37 =>
  .done ((e.upd 36 t36).upd 37 t37)) h Q := Iff.rfl
def c4_r14 : Env → Reg := fun e =>
  .op (.bin .lss (e 37) (e 36)) fun t38 =>
  .done (e.upd 38 t38)
theorem c4_r14_run {CP : CProg} (e : Env) (h : Heap) (Q : Post) : RunR CP (c4_r14 e) h Q ↔ RunR CP (
  .op (.bin .lss (e 37) (e 36)) fun t38 =>
  .done (e.upd 38 t38)) h Q := Iff.rfl
def c4_r15_c1 (e : Env) (t44 : Value) (t45 : Value) (t46 : Value) : Reg :=
  .op (.alloc 36 [(.int .i64 0), (.int .i64 0), (.int .i64 0), (.int .i64 0), (.int .i64 0), (.int .i64 0), (.int .i64 0), (.int .i64 0), (.int .i64 0), (.int .i64 0), (.slice none 0 0), (.int .i64 0)]) fun t8 =>
  .op (.store 12 t8 t44) fun _ =>
  .op (.mv t45) fun t9 =>
  .op (.mv t46) fun t10 =>
  .done (((e.upd 8 t8).upd 9 t9).upd 10 t10)
theorem c4_r15_c1_run {CP : CProg} (e : Env) (t44 : Value) (t45 : Value) (t46 : Value) (h : Heap) (Q : Post) : RunR CP (c4_r15_c1 e t44 t45 t46) h Q ↔ RunR CP (
  .op (.alloc 36 [(.int .i64 0), (.int .i64 0), (.int .i64 0), (.int .i64 0), (.int .i64 0), (.int .i64 0), (.int .i64 0), (.int .i64 0), (.int .i64 0), (.int .i64 0), (.slice none 0 0), (.int .i64 0)]) fun t8 =>
  .op (.store 12 t8 t44) fun _ =>
  .op (.mv t45) fun t9 =>
  .op (.mv t46) fun t10 =>
  .done (((e.upd 8 t8).upd 9 t9).upd 10 t10)) h Q := Iff.rfl
def c4_r15 : Env → Reg := fun e =>
  .op (.mv (e 0)) fun t40 =>
  .op (.mv (e 6)) fun t41 =>
  .op (.slice 5 1 t40 (some t41) none) fun t42 =>
  .op (.call 12 [t42]) fun t43 =>
  .op (.mv t43) fun t39 =>
  .op (.extract t39 0) fun t44 =>
  .op (.extract t39 1) fun t45 =>
  .op (.extract t39 2) fun t46 =>
  c4_r15_c1 e t44 t45 t46
theorem c4_r15_run {CP : CProg} (e : Env) (h : Heap) (Q : Post) : RunR CP (c4_r15 e) h Q ↔ RunR CP (
  .op (.mv (e 0)) fun t40 =>
  .op (.mv (e 6)) fun t41 =>
  .op (.slice 5 1 t40 (some t41) none) fun t42 =>
  .op (.call 12 [t42]) fun t43 =>
  .op (.mv t43) fun t39 =>
  .op (.extract t39 0) fun t44 =>
  .op (.extract t39 1) fun t45 =>
  .op (.extract t39 2) fun t46 =>
  c4_r15_c1 e t44 t45 t46) h Q := Iff.rfl
def c4_r16 : Env → Reg := fun e =>
  .op (.mv (e 10)) fun t47 =>
  .op (.un .not t47) fun t48 =>
  .done (e.upd 48 t48)
theorem c4_r16_run {CP : CProg} (e : Env) (h : Heap) (Q : Post) : RunR CP (c4_r16 e) h Q ↔ RunR CP (
  .op (.mv (e 10)) fun t47 =>
  .op (.un .not t47) fun t48 =>
  .done (e.upd 48 t48)) h Q := Iff.rfl
def c4_r17 : Env → Reg := fun e =>
  .op (.mv (.bool false)) fun t2 =>
  .done (e.upd 2 t2)
theorem c4_r17_run {CP : CProg} (e : Env) (h : Heap) (Q : Post) : RunR CP (c4_r17 e) h Q ↔ RunR CP (
  .op (.mv (.bool false)) fun t2 =>
  .done (e.upd 2 t2)) h Q := Iff.rfl
def c4_r18 : Env → Reg := fun e =>
  .op (.mv (e 6)) fun t49 =>
  .op (.mv (e 9)) fun t50 =>
  .op (.bin .add t49 t50) fun t51 =>
  .op (.mv t51) fun t6 =>
  .done (e.upd 6 t6)
theorem c4_r18_run {CP : CProg} (e : Env) (h : Heap) (Q : Post) : RunR CP (c4_r18 e) h Q ↔ RunR CP (
  .op (.mv (e 6)) fun t49 =>
  .op (.mv (e 9)) fun t50 =>
  .op (.bin .add t49 t50) fun t51 =>
  .op (.mv t51) fun t6 =>
  .done (e.upd 6 t6)) h Q := Iff.rfl
def c4_r19 : Env → Reg := fun e =>
  .op (.bin .add (e 37) (.int .i64 1)) fun t52 =>
  .op (.mv t52) fun t37 =>
  .done (e.upd 37 t37)
theorem c4_r19_run {CP : CProg} (e : Env) (h : Heap) (Q : Post) : RunR CP (c4_r19 e) h Q ↔ RunR CP (
  .op (.bin .add (e 37) (.int .i64 1)) fun t52 =>
  .op (.mv t52) fun t37 =>
  .done (e.upd 37 t37)) h Q := Iff.rfl
def c4_l1 : CC := (.seq (.region c4_r14) (.seq (.cond (fun e => e 38) .skip (.exit 2)) (.seq (.block 3 (.seq (.region c4_r15) (.seq (.seq (.region c4_r16) (.cond (fun e => e 48) (.seq (.region c4_r17) .ret) .skip)) (.region c4_r18)))) (.region c4_r19))))
def c4_r20_c1 (e : Env) (t58 : Value) (t59 : Value) (t60 : Value) : Reg :=
  .op (.alloc 36 [(.int .i64 0), (.int .i64 0), (.int .i64 0), (.int .i64 0), (.int .i64 0), (.int .i64 0), (.int .i64 0), (.int .i64 0), (.int .i64 0), (.int .i64 0), (.slice none 0 0), (.int .i64 0)]) fun t11 =>
  .op (.store 12 t11 t58) fun _ =>
  .op (.mv t59) fun t12 =>
  .op (.mv t60) fun t13 =>
  .done (((e.upd 11 t11).upd 12 t12).upd 13 t13)
theorem c4_r20_c1_run {CP : CProg} (e : Env) (t58 : Value) (t59 : Value) (t60 : Value) (h : Heap) (Q : Post) : RunR CP (c4_r20_c1 e t58 t59 t60) h Q ↔ RunR CP (
  .op (.alloc 36 [(.int .i64 0), (.int .i64 0), (.int .i64 0), (.int .i64 0), (.int .i64 0), (.int .i64 0), (.int .i64 0), (.int .i64 0), (.int .i64 0), (.int .i64 0), (.slice none 0 0), (.int .i64 0)]) fun t11 =>
  .op (.store 12 t11 t58) fun _ =>
  .op (.mv t59) fun t12 =>
  .op (.mv t60) fun t13 =>
  .done (((e.upd 11 t11).upd 12 t12).upd 13 t13)) h Q := Iff.rfl
def c4_r20 : Env → Reg := fun e =>
  .op (.mv (e 0)) fun t54 =>
  .op (.mv (e 6)) fun t55 =>
  .op (.slice 5 1 t54 (some t55) none) fun t56 =>
  .op (.call 12 [t56]) fun t57 =>
  .op (.mv t57) fun t53 =>
  .op (.extract t53 0) fun t58 =>
  .op (.extract t53 1) fun t59 =>
  .op (.extract t53 2) fun t60 =>
  c4_r20_c1 e t58 t59 t60
theorem c4_r20_run {CP : CProg} (e : Env) (h : Heap) (Q : Post) : RunR CP (c4_r20 e) h Q ↔ RunR CP (
  .op (.mv (e 0)) fun t54 =>
  .op (.mv (e 6)) fun t55 =>
  .op (.slice 5 1 t54 (some t55) none) fun t56 =>
  .op (.call 12 [t56]) fun t57 =>
  .op (.mv t57) fun t53 =>
  .op (.extract t53 0) fun t58 =>
  .op (.extract t53 1) fun t59 =>
  .op (.extract t53 2) fun t60 =>
  c4_r20_c1 e t58 t59 t60) h Q := Iff.rfl
def c4_r21_c1 (e : Env) (t64 : Value) (t68 : Value) : Reg :=
  .op (.pick t64 t68 (.bool false)) fun t69 =>
  .op (.mv t69) fun t70 =>
  .opg t70 true (.mv (e 13)) fun t71 =>
  .opg t70 true (.un .not t71) fun t72 =>
  .op (.pick t70 t72 (.bool false)) fun t73 =>
  .op (.mv t73) fun t2 =>
  .done (e.upd 2 t2)
theorem c4_r21_c1_run {CP : CProg} (e : Env) (t64 : Value) (t68 : Value) (h : Heap) (Q : Post) : RunR CP (c4_r21_c1 e t64 t68) h Q ↔ RunR CP (
  .op (.pick t64 t68 (.bool false)) fun t69 =>
  .op (.mv t69) fun t70 =>
  .opg t70 true (.mv (e 13)) fun t71 =>
  .opg t70 true (.un .not t71) fun t72 =>
  .op (.pick t70 t72 (.bool false)) fun t73 =>
  .op (.mv t73) fun t2 =>
  .done (e.upd 2 t2)) h Q := Iff.rfl
def c4_r21 : Env → Reg := fun e =>
  .op (.mv (e 6)) fun t61 =>
  .op (.mv (e 4)) fun t62 =>
  .op (.bin .eql t61 t62) fun t63 =>
  .op (.mv t63) fun t64 =>
  .opg t64 true (.mv (e 4)) fun t65 =>
  .opg t64 true (.mv (e 0)) fun t66 =>
  .opg t64 true (.lenSl t66) fun t67 =>
  .opg t64 true (.bin .leq t65 t67) fun t68 =>
  c4_r21_c1 e t64 t68
theorem c4_r21_run {CP : CProg} (e : Env) (h : Heap) (Q : Post) : RunR CP (c4_r21 e) h Q ↔ RunR CP (
  .op (.mv (e 6)) fun t61 =>
  .op (.mv (e 4)) fun t62 =>
  .op (.bin .eql t61 t62) fun t63 =>
  .op (.mv t63) fun t64 =>
  .opg t64 true (.mv (e 4)) fun t65 =>
  .opg t64 true (.mv (e 0)) fun t66 =>
  .opg t64 true (.lenSl t66) fun t67 =>
  .opg t64 true (.bin .leq t65 t67) fun t68 =>
  c4_r21_c1 e t64 t68) h Q := Iff.rfl
def c4 : CFn := ⟨(.seq (.region c4_r0) (.seq (.seq (.region c4_r1) (.cond (fun e => e 15) (.seq (.region c4_r2) .ret) .skip)) (.seq (.seq (.region c4_r3) (.cond (fun e => e 18) (.seq (.region c4_r4) .ret) .skip)) (.seq (.region c4_r5) (.seq (.region c4_r6) (.seq (.seq (.region c4_r7) (.block 0 (.loop c4_l0))) (.seq (.seq (.region c4_r13) (.block 2 (.loop c4_l1))) (.seq (.region c4_r20) (.seq (.region c4_r21) .ret))))))))), [.t 2]⟩
def p4 : Pers := ⟨14, [15, 18, 25, 26, 27, 32, 36, 37, 38, 48], 74⟩
-- 5: weighbridge/weighbridgelaw21.ReportJoins
def c5_r0 : Env → Reg := fun e =>
  .op (.mv (.bool false)) fun t4 =>
  .done (e.upd 4 t4)
theorem c5_r0_run {CP : CProg} (e : Env) (h : Heap) (Q : Post) : RunR CP (c5_r0 e) h Q ↔ RunR CP (
  .op (.mv (.bool false)) fun t4 =>
  .done (e.upd 4 t4)) h Q := Iff.rfl
def c5_r1 : Env → Reg := fun e =>
  .op (.call 7 []) fun t11 =>
  .op (.un .not t11) fun t12 =>
  .done (e.upd 12 t12)
theorem c5_r1_run {CP : CProg} (e : Env) (h : Heap) (Q : Post) : RunR CP (c5_r1 e) h Q ↔ RunR CP (
  .op (.call 7 []) fun t11 =>
  .op (.un .not t11) fun t12 =>
  .done (e.upd 12 t12)) h Q := Iff.rfl
def c5_r2 : Env → Reg := fun e =>
  .op (.mv (.bool false)) fun t4 =>
  .done (e.upd 4 t4)
theorem c5_r2_run {CP : CProg} (e : Env) (h : Heap) (Q : Post) : RunR CP (c5_r2 e) h Q ↔ RunR CP (
  .op (.mv (.bool false)) fun t4 =>
  .done (e.upd 4 t4)) h Q := Iff.rfl
def c5_r3 : Env → Reg := fun e =>
  .op (.mv (e 0)) fun t13 =>
  .op (.lenSl t13) fun t14 =>
  .op (.bin .gtr t14 (.int .i64 2000)) fun t15 =>
  .op (.mv t15) fun t16 =>
  .opg t16 false (.mv (e 1)) fun t17 =>
  .opg t16 false (.lenSl t17) fun t18 =>
  .opg t16 false (.bin .gtr t18 (.int .i64 2000)) fun t19 =>
  .op (.pick t16 (.bool true) t19) fun t20 =>
  .done (e.upd 20 t20)
theorem c5_r3_run {CP : CProg} (e : Env) (h : Heap) (Q : Post) : RunR CP (c5_r3 e) h Q ↔ RunR CP (
  .op (.mv (e 0)) fun t13 =>
  .op (.lenSl t13) fun t14 =>
  .op (.bin .gtr t14 (.int .i64 2000)) fun t15 =>
  .op (.mv t15) fun t16 =>
  .opg t16 false (.mv (e 1)) fun t17 =>
  .opg t16 false (.lenSl t17) fun t18 =>
  .opg t16 false (.bin .gtr t18 (.int .i64 2000)) fun t19 =>
  .op (.pick t16 (.bool true) t19) fun t20 =>
  .done (e.upd 20 t20)) h Q := Iff.rfl
def c5_r4 : Env → Reg := fun e =>
  .op (.mv (.bool true)) fun t4 =>
  .done (e.upd 4 t4)
theorem c5_r4_run {CP : CProg} (e : Env) (h : Heap) (Q : Post) : RunR CP (c5_r4 e) h Q ↔ RunR CP (
  .op (.mv (.bool true)) fun t4 =>
  .done (e.upd 4 t4)) h Q := Iff.rfl
def c5_r5 : Env → Reg := fun e =>
  .op (.mv (e 0)) fun t22 =>
  .op (.call 11 [t22]) fun t23 =>
  .op (.mv t23) fun t21 =>
  .op (.extract t21 0) fun t24 =>
  .op (.extract t21 1) fun t25 =>
  .op (.mv t24) fun t5 =>
  .op (.mv t25) fun t6 =>
  .done ((e.upd 5 t5).upd 6 t6)
theorem c5_r5_run {CP : CProg} (e : Env) (h : Heap) (Q : Post) : RunR CP (c5_r5 e) h Q ↔ RunR CP (
  .op (.mv (e 0)) fun t22 =>
  .op (.call 11 [t22]) fun t23 =>
  .op (.mv t23) fun t21 =>
  .op (.extract t21 0) fun t24 =>
  .op (.extract t21 1) fun t25 =>
  .op (.mv t24) fun t5 =>
  .op (.mv t25) fun t6 =>
  .done ((e.upd 5 t5).upd 6 t6)) h Q := Iff.rfl
def c5_r6 : Env → Reg := fun e =>
  .op (.mv (e 1)) fun t27 =>
  .op (.call 11 [t27]) fun t28 =>
  .op (.mv t28) fun t26 =>
  .op (.extract t26 0) fun t29 =>
  .op (.extract t26 1) fun t30 =>
  .op (.mv t29) fun t7 =>
  .op (.mv t30) fun t8 =>
  .done ((e.upd 7 t7).upd 8 t8)
theorem c5_r6_run {CP : CProg} (e : Env) (h : Heap) (Q : Post) : RunR CP (c5_r6 e) h Q ↔ RunR CP (
  .op (.mv (e 1)) fun t27 =>
  .op (.call 11 [t27]) fun t28 =>
  .op (.mv t28) fun t26 =>
  .op (.extract t26 0) fun t29 =>
  .op (.extract t26 1) fun t30 =>
  .op (.mv t29) fun t7 =>
  .op (.mv t30) fun t8 =>
  .done ((e.upd 7 t7).upd 8 t8)) h Q := Iff.rfl
def c5_r7 : Env → Reg := fun e =>
  .op (.mv (e 6)) fun t31 =>
  .op (.mv (e 0)) fun t32 =>
  .op (.lenSl t32) fun t33 =>
  .op (.bin .neq t31 t33) fun t34 =>
  .done (e.upd 34 t34)
theorem c5_r7_run {CP : CProg} (e : Env) (h : Heap) (Q : Post) : RunR CP (c5_r7 e) h Q ↔ RunR CP (
  .op (.mv (e 6)) fun t31 =>
  .op (.mv (e 0)) fun t32 =>
  .op (.lenSl t32) fun t33 =>
  .op (.bin .neq t31 t33) fun t34 =>
  .done (e.upd 34 t34)) h Q := Iff.rfl
def c5_r8 : Env → Reg := fun e =>
  .op (.mv (.bool true)) fun t4 =>
  .done (e.upd 4 t4)
theorem c5_r8_run {CP : CProg} (e : Env) (h : Heap) (Q : Post) : RunR CP (c5_r8 e) h Q ↔ RunR CP (
  .op (.mv (.bool true)) fun t4 =>
  .done (e.upd 4 t4)) h Q := Iff.rfl
def c5_r9 : Env → Reg := fun e =>
  .op (.mv (e 0)) fun t36 =>
  .op (.append 5 1 1 (.slice none 0 0) t36) fun t37 =>
  .op (.mv (e 1)) fun t38 =>
  .op (.append 5 1 1 t37 t38) fun t39 =>
  .op (.call 11 [t39]) fun t40 =>
  .op (.mv t40) fun t35 =>
  .op (.extract t35 0) fun t41 =>
  .op (.extract t35 1) fun t42 =>
  .op (.mv t41) fun t9 =>
  .op (.mv t42) fun t10 =>
  .done ((e.upd 9 t9).upd 10 t10)
theorem c5_r9_run {CP : CProg} (e : Env) (h : Heap) (Q : Post) : RunR CP (c5_r9 e) h Q ↔ RunR CP (
  .op (.mv (e 0)) fun t36 =>
  .op (.append 5 1 1 (.slice none 0 0) t36) fun t37 =>
  .op (.mv (e 1)) fun t38 =>
  .op (.append 5 1 1 t37 t38) fun t39 =>
  .op (.call 11 [t39]) fun t40 =>
  .op (.mv t40) fun t35 =>
  .op (.extract t35 0) fun t41 =>
  .op (.extract t35 1) fun t42 =>
  .op (.mv t41) fun t9 =>
  .op (.mv t42) fun t10 =>
  .done ((e.upd 9 t9).upd 10 t10)) h Q := Iff.rfl
def c5_r10_c1 (e : Env) (t48 : Value) (t49 : Value) (t50 : Value) : Reg :=
  .opg t48 true (.mv (e 8)) fun t51 =>
  .opg t48 true (.bin .add t50 t51) fun t52 =>
  .opg t48 true (.bin .eql t49 t52) fun t53 =>
  .op (.pick t48 t53 (.bool false)) fun t54 =>
  .op (.mv t54) fun t4 =>
  .done (e.upd 4 t4)
theorem c5_r10_c1_run {CP : CProg} (e : Env) (t48 : Value) (t49 : Value) (t50 : Value) (h : Heap) (Q : Post) : RunR CP (c5_r10_c1 e t48 t49 t50) h Q ↔ RunR CP (
  .opg t48 true (.mv (e 8)) fun t51 =>
  .opg t48 true (.bin .add t50 t51) fun t52 =>
  .opg t48 true (.bin .eql t49 t52) fun t53 =>
  .op (.pick t48 t53 (.bool false)) fun t54 =>
  .op (.mv t54) fun t4 =>
  .done (e.upd 4 t4)) h Q := Iff.rfl
def c5_r10 : Env → Reg := fun e =>
  .op (.mv (e 9)) fun t43 =>
  .op (.mv (e 5)) fun t44 =>
  .op (.mv (e 7)) fun t45 =>
  .op (.bin .add t44 t45) fun t46 =>
  .op (.bin .eql t43 t46) fun t47 =>
  .op (.mv t47) fun t48 =>
  .opg t48 true (.mv (e 10)) fun t49 =>
  .opg t48 true (.mv (e 6)) fun t50 =>
  c5_r10_c1 e t48 t49 t50
theorem c5_r10_run {CP : CProg} (e : Env) (h : Heap) (Q : Post) : RunR CP (c5_r10 e) h Q ↔ RunR CP (
  .op (.mv (e 9)) fun t43 =>
  .op (.mv (e 5)) fun t44 =>
  .op (.mv (e 7)) fun t45 =>
  .op (.bin .add t44 t45) fun t46 =>
  .op (.bin .eql t43 t46) fun t47 =>
  .op (.mv t47) fun t48 =>
  .opg t48 true (.mv (e 10)) fun t49 =>
  .opg t48 true (.mv (e 6)) fun t50 =>
  c5_r10_c1 e t48 t49 t50) h Q := Iff.rfl
def c5 : CFn := ⟨(.seq (.region c5_r0) (.seq (.seq (.region c5_r1) (.cond (fun e => e 12) (.seq (.region c5_r2) .ret) .skip)) (.seq (.seq (.region c5_r3) (.cond (fun e => e 20) (.seq (.region c5_r4) .ret) .skip)) (.seq (.region c5_r5) (.seq (.region c5_r6) (.seq (.seq (.region c5_r7) (.cond (fun e => e 34) (.seq (.region c5_r8) .ret) .skip)) (.seq (.region c5_r9) (.seq (.region c5_r10) .ret)))))))), [.t 4]⟩
def p5 : Pers := ⟨11, [12, 20, 34], 55⟩
-- 6: weighbridge/weighbridgelaw21.ReportStreams
def c6_r0 : Env → Reg := fun e =>
  .op (.mv (.bool false)) fun t4 =>
  .done (e.upd 4 t4)
theorem c6_r0_run {CP : CProg} (e : Env) (h : Heap) (Q : Post) : RunR CP (c6_r0 e) h Q ↔ RunR CP (
  .op (.mv (.bool false)) fun t4 =>
  .done (e.upd 4 t4)) h Q := Iff.rfl
def c6_r1 : Env → Reg := fun e =>
  .op (.call 7 []) fun t15 =>
  .op (.un .not t15) fun t16 =>
  .done (e.upd 16 t16)
theorem c6_r1_run {CP : CProg} (e : Env) (h : Heap) (Q : Post) : RunR CP (c6_r1 e) h Q ↔ RunR CP (
  .op (.call 7 []) fun t15 =>
  .op (.un .not t15) fun t16 =>
  .done (e.upd 16 t16)) h Q := Iff.rfl
def c6_r2 : Env → Reg := fun e =>
  .op (.mv (.bool false)) fun t4 =>
  .done (e.upd 4 t4)
theorem c6_r2_run {CP : CProg} (e : Env) (h : Heap) (Q : Post) : RunR CP (c6_r2 e) h Q ↔ RunR CP (
  .op (.mv (.bool false)) fun t4 =>
  .done (e.upd 4 t4)) h Q := Iff.rfl
def c6_r3 : Env → Reg := fun e =>
  .op (.mv (e 0)) fun t17 =>
  .op (.lenSl t17) fun t18 =>
  .op (.bin .gtr t18 (.int .i64 50)) fun t19 =>
  .op (.mv t19) fun t20 =>
  .opg t20 false (.mv (e 1)) fun t21 =>
  .opg t20 false (.lenSl t21) fun t22 =>
  .opg t20 false (.bin .gtr t22 (.int .i64 100)) fun t23 =>
  .op (.pick t20 (.bool true) t23) fun t24 =>
  .done (e.upd 24 t24)
theorem c6_r3_run {CP : CProg} (e : Env) (h : Heap) (Q : Post) : RunR CP (c6_r3 e) h Q ↔ RunR CP (
  .op (.mv (e 0)) fun t17 =>
  .op (.lenSl t17) fun t18 =>
  .op (.bin .gtr t18 (.int .i64 50)) fun t19 =>
  .op (.mv t19) fun t20 =>
  .opg t20 false (.mv (e 1)) fun t21 =>
  .opg t20 false (.lenSl t21) fun t22 =>
  .opg t20 false (.bin .gtr t22 (.int .i64 100)) fun t23 =>
  .op (.pick t20 (.bool true) t23) fun t24 =>
  .done (e.upd 24 t24)) h Q := Iff.rfl
def c6_r4 : Env → Reg := fun e =>
  .op (.mv (.bool true)) fun t4 =>
  .done (e.upd 4 t4)
theorem c6_r4_run {CP : CProg} (e : Env) (h : Heap) (Q : Post) : RunR CP (c6_r4 e) h Q ↔ RunR CP (
  .op (.mv (.bool true)) fun t4 =>
  .done (e.upd 4 t4)) h Q := Iff.rfl
def c6_r5 : Env → Reg := fun e =>
  .op (.mv (.slice none 0 0)) fun t5 =>
  .done (e.upd 5 t5)
theorem c6_r5_run {CP : CProg} (e : Env) (h : Heap) (Q : Post) : RunR CP (c6_r5 e) h Q ↔ RunR CP (
  .op (.mv (.slice none 0 0)) fun t5 =>
  .done (e.upd 5 t5)) h Q := Iff.rfl
def c6_r6 : Env → Reg := fun e =>
  .op (.mv (.string ⟨#[]⟩)) fun t6 =>
  .done (e.upd 6 t6)
theorem c6_r6_run {CP : CProg} (e : Env) (h : Heap) (Q : Post) : RunR CP (c6_r6 e) h Q ↔ RunR CP (
  .op (.mv (.string ⟨#[]⟩)) fun t6 =>
  .done (e.upd 6 t6)) h Q := Iff.rfl
def c6_r7 : Env → Reg := fun e =>
  .op (.mv (e 0)) fun t25 =>
  .op (.lenSl t25) fun t26 =>
  .op (.mv (.int .i64 0)) fun t27 =>
  .done (((e.upd 25 t25).upd 26 t26).upd 27 t27)
theorem c6_r7_run {CP : CProg} (e : Env) (h : Heap) (Q : Post) : RunR CP (c6_r7 e) h Q ↔ RunR CP (
  .op (.mv (e 0)) fun t25 =>
  .op (.lenSl t25) fun t26 =>
  .op (.mv (.int .i64 0)) fun t27 =>
  .done (((e.upd 25 t25).upd 26 t26).upd 27 t27)) h Q := Iff.rfl
def c6_r8 : Env → Reg := fun e =>
  .op (.bin .lss (e 27) (e 26)) fun t28 =>
  .done (e.upd 28 t28)
theorem c6_r8_run {CP : CProg} (e : Env) (h : Heap) (Q : Post) : RunR CP (c6_r8 e) h Q ↔ RunR CP (
  .op (.bin .lss (e 27) (e 26)) fun t28 =>
  .done (e.upd 28 t28)) h Q := Iff.rfl
def c6_r9 : Env → Reg := fun e =>
  .op (.mv (e 27)) fun t29 =>
  .op (.indexSl 3 (e 25) (e 27)) fun t30 =>
  .op (.load (some 3) t30) fun t31 =>
  .op (.alloc 23 [(.int .i64 0), (.int .i64 0), (.int .i64 0)]) fun t8 =>
  .op (.mv t29) fun t7 =>
  .op (.store 3 t8 t31) fun _ =>
  .done ((e.upd 8 t8).upd 7 t7)
theorem c6_r9_run {CP : CProg} (e : Env) (h : Heap) (Q : Post) : RunR CP (c6_r9 e) h Q ↔ RunR CP (
  .op (.mv (e 27)) fun t29 =>
  .op (.indexSl 3 (e 25) (e 27)) fun t30 =>
  .op (.load (some 3) t30) fun t31 =>
  .op (.alloc 23 [(.int .i64 0), (.int .i64 0), (.int .i64 0)]) fun t8 =>
  .op (.mv t29) fun t7 =>
  .op (.store 3 t8 t31) fun _ =>
  .done ((e.upd 8 t8).upd 7 t7)) h Q := Iff.rfl
def c6_r10 : Env → Reg := fun e =>
  .op (.fieldAddr 0 (e 8)) fun t32 =>
  .op (.load none t32) fun t33 =>
  .op (.bin .rem t33 (.int .i64 3)) fun t34 =>
  .op (.bin .add t34 (.int .i64 3)) fun t35 =>
  .op (.bin .rem t35 (.int .i64 3)) fun t36 =>
  .op (.bin .add t36 (.int .i64 1)) fun t37 =>
  .op (.fieldAddr 0 (e 8)) fun t38 =>
  .op (.store 1 t38 t37) fun _ =>
  .done e
theorem c6_r10_run {CP : CProg} (e : Env) (h : Heap) (Q : Post) : RunR CP (c6_r10 e) h Q ↔ RunR CP (
  .op (.fieldAddr 0 (e 8)) fun t32 =>
  .op (.load none t32) fun t33 =>
  .op (.bin .rem t33 (.int .i64 3)) fun t34 =>
  .op (.bin .add t34 (.int .i64 3)) fun t35 =>
  .op (.bin .rem t35 (.int .i64 3)) fun t36 =>
  .op (.bin .add t36 (.int .i64 1)) fun t37 =>
  .op (.fieldAddr 0 (e 8)) fun t38 =>
  .op (.store 1 t38 t37) fun _ =>
  .done e) h Q := Iff.rfl
def c6_r11 : Env → Reg := fun e =>
  .op (.mv (e 7)) fun t39 =>
  .op (.bin .and t39 (.int .i64 1)) fun t40 =>
  .op (.bin .add t40 (.int .i64 1)) fun t41 =>
  .op (.mv t41) fun t9 =>
  .done (e.upd 9 t9)
theorem c6_r11_run {CP : CProg} (e : Env) (h : Heap) (Q : Post) : RunR CP (c6_r11 e) h Q ↔ RunR CP (
  .op (.mv (e 7)) fun t39 =>
  .op (.bin .and t39 (.int .i64 1)) fun t40 =>
  .op (.bin .add t40 (.int .i64 1)) fun t41 =>
  .op (.mv t41) fun t9 =>
  .done (e.upd 9 t9)) h Q := Iff.rfl
def c6_r12 : Env → Reg := fun e =>
  .op (.mv (e 5)) fun t42 =>
  .op (.mv (e 9)) fun t43 =>
  .op (.load (some 3) (e 8)) fun t44 =>
  .op (.call 13 [t43, t44]) fun t45 =>
  .op (.append 5 1 1 t42 t45) fun t46 =>
  .op (.mv t46) fun t5 =>
  .done (e.upd 5 t5)
theorem c6_r12_run {CP : CProg} (e : Env) (h : Heap) (Q : Post) : RunR CP (c6_r12 e) h Q ↔ RunR CP (
  .op (.mv (e 5)) fun t42 =>
  .op (.mv (e 9)) fun t43 =>
  .op (.load (some 3) (e 8)) fun t44 =>
  .op (.call 13 [t43, t44]) fun t45 =>
  .op (.append 5 1 1 t42 t45) fun t46 =>
  .op (.mv t46) fun t5 =>
  .done (e.upd 5 t5)) h Q := Iff.rfl
def c6_r13 : Env → Reg := fun e =>
  .op (.mv (e 6)) fun t47 =>
  .op (.mv (e 9)) fun t48 =>
  .op (.load (some 3) (e 8)) fun t49 =>
  .op (.build [(.int .i64 0), (.int .i64 0), (.int .i64 0), (.int .i64 0), (.int .i64 0), (.int .i64 0), (.int .i64 0), (.int .i64 0), (.int .i64 0), (.int .i64 0), (.slice none 0 0), (.int .i64 0)] [(0, 1, t48), (2, 3, t49)]) fun t50 =>
  .op (.call 10 [t50]) fun t51 =>
  .op (.bin .add t51 (.string ⟨#[10]⟩)) fun t52 =>
  .op (.bin .add t47 t52) fun t53 =>
  .op (.mv t53) fun t6 =>
  .done (e.upd 6 t6)
theorem c6_r13_run {CP : CProg} (e : Env) (h : Heap) (Q : Post) : RunR CP (c6_r13 e) h Q ↔ RunR CP (
  .op (.mv (e 6)) fun t47 =>
  .op (.mv (e 9)) fun t48 =>
  .op (.load (some 3) (e 8)) fun t49 =>
  .op (.build [(.int .i64 0), (.int .i64 0), (.int .i64 0), (.int .i64 0), (.int .i64 0), (.int .i64 0), (.int .i64 0), (.int .i64 0), (.int .i64 0), (.int .i64 0), (.slice none 0 0), (.int .i64 0)] [(0, 1, t48), (2, 3, t49)]) fun t50 =>
  .op (.call 10 [t50]) fun t51 =>
  .op (.bin .add t51 (.string ⟨#[10]⟩)) fun t52 =>
  .op (.bin .add t47 t52) fun t53 =>
  .op (.mv t53) fun t6 =>
  .done (e.upd 6 t6)) h Q := Iff.rfl
def c6_r14 : Env → Reg := fun e =>
  .op (.bin .add (e 27) (.int .i64 1)) fun t54 =>
  .op (.mv t54) fun t27 =>
  .done (e.upd 27 t27)
theorem c6_r14_run {CP : CProg} (e : Env) (h : Heap) (Q : Post) : RunR CP (c6_r14 e) h Q ↔ RunR CP (
  .op (.bin .add (e 27) (.int .i64 1)) fun t54 =>
  .op (.mv t54) fun t27 =>
  .done (e.upd 27 t27)) h Q := Iff.rfl
def c6_l0 : CC := (.seq (.region c6_r8) (.seq (.cond (fun e => e 28) .skip (.exit 0)) (.seq (.block 1 (.seq (.region c6_r9) (.seq (.region c6_r10) (.seq (.region c6_r11) (.seq (.region c6_r12) (.region c6_r13)))))) (.region c6_r14))))
def c6_r15 : Env → Reg := fun e =>
  .op (.mv (e 5)) fun t55 =>
  .op (.lenSl t55) fun t56 =>
  .op (.mv t56) fun t10 =>
  .done (e.upd 10 t10)
theorem c6_r15_run {CP : CProg} (e : Env) (h : Heap) (Q : Post) : RunR CP (c6_r15 e) h Q ↔ RunR CP (
  .op (.mv (e 5)) fun t55 =>
  .op (.lenSl t55) fun t56 =>
  .op (.mv t56) fun t10 =>
  .done (e.upd 10 t10)) h Q := Iff.rfl
def c6_r16 : Env → Reg := fun e =>
  .op (.mv (e 1)) fun t57 =>
  .op (.lenSl t57) fun t58 =>
  .op (.bin .gtr t58 (.int .i64 0)) fun t59 =>
  .op (.mv t59) fun t60 =>
  .opg t60 true (.mv (e 1)) fun t61 =>
  .opg t60 true (.indexSl 1 t61 (.int .i64 0)) fun t62 =>
  .opg t60 true (.load none t62) fun t63 =>
  .opg t60 true (.bin .eql t63 (.int .u8 168)) fun t64 =>
  .op (.pick t60 t64 (.bool false)) fun t65 =>
  .done (e.upd 65 t65)
theorem c6_r16_run {CP : CProg} (e : Env) (h : Heap) (Q : Post) : RunR CP (c6_r16 e) h Q ↔ RunR CP (
  .op (.mv (e 1)) fun t57 =>
  .op (.lenSl t57) fun t58 =>
  .op (.bin .gtr t58 (.int .i64 0)) fun t59 =>
  .op (.mv t59) fun t60 =>
  .opg t60 true (.mv (e 1)) fun t61 =>
  .opg t60 true (.indexSl 1 t61 (.int .i64 0)) fun t62 =>
  .opg t60 true (.load none t62) fun t63 =>
  .opg t60 true (.bin .eql t63 (.int .u8 168)) fun t64 =>
  .op (.pick t60 t64 (.bool false)) fun t65 =>
  .done (e.upd 65 t65)) h Q := Iff.rfl
def c6_r17 : Env → Reg := fun e =>
  .op (.mv (.slice none 0 0)) fun t1 =>
  .done (e.upd 1 t1)
theorem c6_r17_run {CP : CProg} (e : Env) (h : Heap) (Q : Post) : RunR CP (c6_r17 e) h Q ↔ RunR CP (
  .op (.mv (.slice none 0 0)) fun t1 =>
  .done (e.upd 1 t1)) h Q := Iff.rfl
def c6_r18 : Env → Reg := fun e =>
  .op (.mv (e 5)) fun t67 =>
  .op (.append 5 1 1 (.slice none 0 0) t67) fun t68 =>
  .op (.mv (e 1)) fun t69 =>
  .op (.append 5 1 1 t68 t69) fun t70 =>
  .op (.call 11 [t70]) fun t71 =>
  .op (.mv t71) fun t66 =>
  .op (.extract t66 0) fun t72 =>
  .op (.extract t66 1) fun t73 =>
  .op (.mv t72) fun t11 =>
  .op (.mv t73) fun t12 =>
  .done ((e.upd 11 t11).upd 12 t12)
theorem c6_r18_run {CP : CProg} (e : Env) (h : Heap) (Q : Post) : RunR CP (c6_r18 e) h Q ↔ RunR CP (
  .op (.mv (e 5)) fun t67 =>
  .op (.append 5 1 1 (.slice none 0 0) t67) fun t68 =>
  .op (.mv (e 1)) fun t69 =>
  .op (.append 5 1 1 t68 t69) fun t70 =>
  .op (.call 11 [t70]) fun t71 =>
  .op (.mv t71) fun t66 =>
  .op (.extract t66 0) fun t72 =>
  .op (.extract t66 1) fun t73 =>
  .op (.mv t72) fun t11 =>
  .op (.mv t73) fun t12 =>
  .done ((e.upd 11 t11).upd 12 t12)) h Q := Iff.rfl
def c6_r19_c1 (e : Env) (t74 : Value) (t81 : Value) : Reg :=
  .op (.extract t74 1) fun t82 =>
  .op (.mv t81) fun t13 =>
  .op (.mv t82) fun t14 =>
  .done ((e.upd 13 t13).upd 14 t14)
theorem c6_r19_c1_run {CP : CProg} (e : Env) (t74 : Value) (t81 : Value) (h : Heap) (Q : Post) : RunR CP (c6_r19_c1 e t74 t81) h Q ↔ RunR CP (
  .op (.extract t74 1) fun t82 =>
  .op (.mv t81) fun t13 =>
  .op (.mv t82) fun t14 =>
  .done ((e.upd 13 t13).upd 14 t14)) h Q := Iff.rfl
def c6_r19 : Env → Reg := fun e =>
  .op (.mv (e 5)) fun t75 =>
  .op (.mv (e 10)) fun t76 =>
  .op (.bin .sub t76 (.int .i64 1)) fun t77 =>
  .op (.minmax true [t77, (.int .i64 0)]) fun t78 =>
  .op (.slice 5 1 t75 none (some t78)) fun t79 =>
  .op (.call 11 [t79]) fun t80 =>
  .op (.mv t80) fun t74 =>
  .op (.extract t74 0) fun t81 =>
  c6_r19_c1 e t74 t81
theorem c6_r19_run {CP : CProg} (e : Env) (h : Heap) (Q : Post) : RunR CP (c6_r19 e) h Q ↔ RunR CP (
  .op (.mv (e 5)) fun t75 =>
  .op (.mv (e 10)) fun t76 =>
  .op (.bin .sub t76 (.int .i64 1)) fun t77 =>
  .op (.minmax true [t77, (.int .i64 0)]) fun t78 =>
  .op (.slice 5 1 t75 none (some t78)) fun t79 =>
  .op (.call 11 [t79]) fun t80 =>
  .op (.mv t80) fun t74 =>
  .op (.extract t74 0) fun t81 =>
  c6_r19_c1 e t74 t81) h Q := Iff.rfl
def c6_r20_c2 (e : Env) (t91 : Value) (t94 : Value) (t98 : Value) : Reg :=
  .opg t94 false (.mv t98) fun t99 =>
  .opg t99 true (.mv (e 13)) fun t100 =>
  .opg t99 true (.lenStr t100) fun t101 =>
  .opg t99 true (.mv (e 11)) fun t102 =>
  .opg t99 true (.lenStr t102) fun t103 =>
  .opg t99 true (.bin .lss t101 t103) fun t104 =>
  .opg t94 false (.pick t99 t104 (.bool false)) fun t105 =>
  .opg t91 true (.pick t94 (.bool true) t105) fun t106 =>
  .op (.pick t91 t106 (.bool false)) fun t107 =>
  .op (.mv t107) fun t4 =>
  .done (e.upd 4 t4)
theorem c6_r20_c2_run {CP : CProg} (e : Env) (t91 : Value) (t94 : Value) (t98 : Value) (h : Heap) (Q : Post) : RunR CP (c6_r20_c2 e t91 t94 t98) h Q ↔ RunR CP (
  .opg t94 false (.mv t98) fun t99 =>
  .opg t99 true (.mv (e 13)) fun t100 =>
  .opg t99 true (.lenStr t100) fun t101 =>
  .opg t99 true (.mv (e 11)) fun t102 =>
  .opg t99 true (.lenStr t102) fun t103 =>
  .opg t99 true (.bin .lss t101 t103) fun t104 =>
  .opg t94 false (.pick t99 t104 (.bool false)) fun t105 =>
  .opg t91 true (.pick t94 (.bool true) t105) fun t106 =>
  .op (.pick t91 t106 (.bool false)) fun t107 =>
  .op (.mv t107) fun t4 =>
  .done (e.upd 4 t4)) h Q := Iff.rfl
def c6_r20_c1 (e : Env) (t90 : Value) : Reg :=
  .op (.mv t90) fun t91 =>
  .opg t91 true (.mv (e 10)) fun t92 =>
  .opg t91 true (.bin .eql t92 (.int .i64 0)) fun t93 =>
  .opg t91 true (.mv t93) fun t94 =>
  .opg t94 false (.mv (e 14)) fun t95 =>
  .opg t94 false (.mv (e 10)) fun t96 =>
  .opg t94 false (.bin .sub t96 (.int .i64 22)) fun t97 =>
  .opg t94 false (.bin .eql t95 t97) fun t98 =>
  c6_r20_c2 e t91 t94 t98
theorem c6_r20_c1_run {CP : CProg} (e : Env) (t90 : Value) (h : Heap) (Q : Post) : RunR CP (c6_r20_c1 e t90) h Q ↔ RunR CP (
  .op (.mv t90) fun t91 =>
  .opg t91 true (.mv (e 10)) fun t92 =>
  .opg t91 true (.bin .eql t92 (.int .i64 0)) fun t93 =>
  .opg t91 true (.mv t93) fun t94 =>
  .opg t94 false (.mv (e 14)) fun t95 =>
  .opg t94 false (.mv (e 10)) fun t96 =>
  .opg t94 false (.bin .sub t96 (.int .i64 22)) fun t97 =>
  .opg t94 false (.bin .eql t95 t97) fun t98 =>
  c6_r20_c2 e t91 t94 t98) h Q := Iff.rfl
def c6_r20 : Env → Reg := fun e =>
  .op (.mv (e 11)) fun t83 =>
  .op (.mv (e 6)) fun t84 =>
  .op (.bin .eql t83 t84) fun t85 =>
  .op (.mv t85) fun t86 =>
  .opg t86 true (.mv (e 12)) fun t87 =>
  .opg t86 true (.mv (e 10)) fun t88 =>
  .opg t86 true (.bin .eql t87 t88) fun t89 =>
  .op (.pick t86 t89 (.bool false)) fun t90 =>
  c6_r20_c1 e t90
theorem c6_r20_run {CP : CProg} (e : Env) (h : Heap) (Q : Post) : RunR CP (c6_r20 e) h Q ↔ RunR CP (
  .op (.mv (e 11)) fun t83 =>
  .op (.mv (e 6)) fun t84 =>
  .op (.bin .eql t83 t84) fun t85 =>
  .op (.mv t85) fun t86 =>
  .opg t86 true (.mv (e 12)) fun t87 =>
  .opg t86 true (.mv (e 10)) fun t88 =>
  .opg t86 true (.bin .eql t87 t88) fun t89 =>
  .op (.pick t86 t89 (.bool false)) fun t90 =>
  c6_r20_c1 e t90) h Q := Iff.rfl
def c6 : CFn := ⟨(.seq (.region c6_r0) (.seq (.seq (.region c6_r1) (.cond (fun e => e 16) (.seq (.region c6_r2) .ret) .skip)) (.seq (.seq (.region c6_r3) (.cond (fun e => e 24) (.seq (.region c6_r4) .ret) .skip)) (.seq (.region c6_r5) (.seq (.region c6_r6) (.seq (.seq (.region c6_r7) (.block 0 (.loop c6_l0))) (.seq (.region c6_r15) (.seq (.seq (.region c6_r16) (.cond (fun e => e 65) (.region c6_r17) .skip)) (.seq (.region c6_r18) (.seq (.region c6_r19) (.seq (.region c6_r20) .ret))))))))))), [.t 4]⟩
def p6 : Pers := ⟨15, [16, 24, 25, 26, 27, 28, 65], 108⟩
-- 7: weighbridge/weighbridgelaw21.fit
def c7_r0 : Env → Reg := fun e =>
  .op (.mv (.bool false)) fun t0 =>
  .done (e.upd 0 t0)
theorem c7_r0_run {CP : CProg} (e : Env) (h : Heap) (Q : Post) : RunR CP (c7_r0 e) h Q ↔ RunR CP (
  .op (.mv (.bool false)) fun t0 =>
  .done (e.upd 0 t0)) h Q := Iff.rfl
def c7_r1 : Env → Reg := fun e =>
  .op (.build [(.int .i64 0), (.int .i64 0), (.int .i64 0), (.int .i64 0), (.int .i64 0), (.int .i64 0), (.int .i64 0), (.int .i64 0), (.int .i64 0), (.int .i64 0), (.slice none 0 0), (.int .i64 0)] [(0, 1, (.int .i64 127)), (11, 1, (.int .i64 5))]) fun t1 =>
  .op (.call 10 [t1]) fun t2 =>
  .op (.bin .eql t2 (.string ⟨#[102, 97, 117, 108, 116, 32, 53]⟩)) fun t3 =>
  .op (.mv t3) fun t0 =>
  .done (e.upd 0 t0)
theorem c7_r1_run {CP : CProg} (e : Env) (h : Heap) (Q : Post) : RunR CP (c7_r1 e) h Q ↔ RunR CP (
  .op (.build [(.int .i64 0), (.int .i64 0), (.int .i64 0), (.int .i64 0), (.int .i64 0), (.int .i64 0), (.int .i64 0), (.int .i64 0), (.int .i64 0), (.int .i64 0), (.slice none 0 0), (.int .i64 0)] [(0, 1, (.int .i64 127)), (11, 1, (.int .i64 5))]) fun t1 =>
  .op (.call 10 [t1]) fun t2 =>
  .op (.bin .eql t2 (.string ⟨#[102, 97, 117, 108, 116, 32, 53]⟩)) fun t3 =>
  .op (.mv t3) fun t0 =>
  .done (e.upd 0 t0)) h Q := Iff.rfl
def c7 : CFn := ⟨(.seq (.region c7_r0) (.seq (.region c7_r1) .ret)), [.t 0]⟩
def p7 : Pers := ⟨1, [], 4⟩
-- 8: weighbridge/weighbridgelaw21.hex
def c8_r0 : Env → Reg := fun e =>
  .op (.mv (.string ⟨#[]⟩)) fun t2 =>
  .done (e.upd 2 t2)
theorem c8_r0_run {CP : CProg} (e : Env) (h : Heap) (Q : Post) : RunR CP (c8_r0 e) h Q ↔ RunR CP (
  .op (.mv (.string ⟨#[]⟩)) fun t2 =>
  .done (e.upd 2 t2)) h Q := Iff.rfl
def c8_r1 : Env → Reg := fun e =>
  .op (.mv (e 0)) fun t5 =>
  .op (.bin .eql t5 (.string ⟨#[]⟩)) fun t6 =>
  .done (e.upd 6 t6)
theorem c8_r1_run {CP : CProg} (e : Env) (h : Heap) (Q : Post) : RunR CP (c8_r1 e) h Q ↔ RunR CP (
  .op (.mv (e 0)) fun t5 =>
  .op (.bin .eql t5 (.string ⟨#[]⟩)) fun t6 =>
  .done (e.upd 6 t6)) h Q := Iff.rfl
def c8_r2 : Env → Reg := fun e =>
  .op (.mv (.string ⟨#[45]⟩)) fun t2 =>
  .done (e.upd 2 t2)
theorem c8_r2_run {CP : CProg} (e : Env) (h : Heap) (Q : Post) : RunR CP (c8_r2 e) h Q ↔ RunR CP (
  .op (.mv (.string ⟨#[45]⟩)) fun t2 =>
  .done (e.upd 2 t2)) h Q := Iff.rfl
def c8_r3 : Env → Reg := fun e =>
  .op (.mv (.string ⟨#[]⟩)) fun t3 =>
  .done (e.upd 3 t3)
theorem c8_r3_run {CP : CProg} (e : Env) (h : Heap) (Q : Post) : RunR CP (c8_r3 e) h Q ↔ RunR CP (
  .op (.mv (.string ⟨#[]⟩)) fun t3 =>
  .done (e.upd 3 t3)) h Q := Iff.rfl
def c8_r4 : Env → Reg := fun e =>
  .op (.mv (e 0)) fun t7 =>
  .op (.lenStr t7) fun t8 =>
  .op (.mv (.int .i64 0)) fun t9 =>
  .done ((e.upd 8 t8).upd 9 t9)
theorem c8_r4_run {CP : CProg} (e : Env) (h : Heap) (Q : Post) : RunR CP (c8_r4 e) h Q ↔ RunR CP (
  .op (.mv (e 0)) fun t7 =>
  .op (.lenStr t7) fun t8 =>
  .op (.mv (.int .i64 0)) fun t9 =>
  .done ((e.upd 8 t8).upd 9 t9)) h Q := Iff.rfl
def c8_r5 : Env → Reg := fun e =>
  .op (.bin .lss (e 9) (e 8)) fun t10 =>
  .done (e.upd 10 t10)
theorem c8_r5_run {CP : CProg} (e : Env) (h : Heap) (Q : Post) : RunR CP (c8_r5 e) h Q ↔ RunR CP (
  .op (.bin .lss (e 9) (e 8)) fun t10 =>
  .done (e.upd 10 t10)) h Q := Iff.rfl
def c8_r6 : Env → Reg := fun e =>
  .op (.mv (e 9)) fun t11 =>
  .op (.mv t11) fun t4 =>
  .done (e.upd 4 t4)
theorem c8_r6_run {CP : CProg} (e : Env) (h : Heap) (Q : Post) : RunR CP (c8_r6 e) h Q ↔ RunR CP (
  .op (.mv (e 9)) fun t11 =>
  .op (.mv t11) fun t4 =>
  .done (e.upd 4 t4)) h Q := Iff.rfl
def c8_r7_c2 (e : Env) (t12 : Value) (t22 : Value) (t26 : Value) (t27 : Value) : Reg :=
  .op (.mv (e 4)) fun t28 =>
  .op (.indexStr t27 t28) fun t29 =>
  .op (.bin .rem t29 (.int .u8 16)) fun t30 =>
  .op (.bin .add t30 (.int .u8 1)) fun t31 =>
  .op (.sliceStr (.string ⟨#[48, 49, 50, 51, 52, 53, 54, 55, 56, 57, 97, 98, 99, 100, 101, 102]⟩) (some t26) (some t31)) fun t32 =>
  .op (.bin .add t22 t32) fun t33 =>
  .op (.bin .add t12 t33) fun t34 =>
  .op (.mv t34) fun t3 =>
  .done (e.upd 3 t3)
theorem c8_r7_c2_run {CP : CProg} (e : Env) (t12 : Value) (t22 : Value) (t26 : Value) (t27 : Value) (h : Heap) (Q : Post) : RunR CP (c8_r7_c2 e t12 t22 t26 t27) h Q ↔ RunR CP (
  .op (.mv (e 4)) fun t28 =>
  .op (.indexStr t27 t28) fun t29 =>
  .op (.bin .rem t29 (.int .u8 16)) fun t30 =>
  .op (.bin .add t30 (.int .u8 1)) fun t31 =>
  .op (.sliceStr (.string ⟨#[48, 49, 50, 51, 52, 53, 54, 55, 56, 57, 97, 98, 99, 100, 101, 102]⟩) (some t26) (some t31)) fun t32 =>
  .op (.bin .add t22 t32) fun t33 =>
  .op (.bin .add t12 t33) fun t34 =>
  .op (.mv t34) fun t3 =>
  .done (e.upd 3 t3)) h Q := Iff.rfl
def c8_r7_c1 (e : Env) (t12 : Value) (t16 : Value) (t19 : Value) : Reg :=
  .op (.bin .quo t19 (.int .u8 16)) fun t20 =>
  .op (.bin .add t20 (.int .u8 1)) fun t21 =>
  .op (.sliceStr (.string ⟨#[48, 49, 50, 51, 52, 53, 54, 55, 56, 57, 97, 98, 99, 100, 101, 102]⟩) (some t16) (some t21)) fun t22 =>
  .op (.mv (e 0)) fun t23 =>
  .op (.mv (e 4)) fun t24 =>
  .op (.indexStr t23 t24) fun t25 =>
  .op (.bin .rem t25 (.int .u8 16)) fun t26 =>
  .op (.mv (e 0)) fun t27 =>
  c8_r7_c2 e t12 t22 t26 t27
theorem c8_r7_c1_run {CP : CProg} (e : Env) (t12 : Value) (t16 : Value) (t19 : Value) (h : Heap) (Q : Post) : RunR CP (c8_r7_c1 e t12 t16 t19) h Q ↔ RunR CP (
  .op (.bin .quo t19 (.int .u8 16)) fun t20 =>
  .op (.bin .add t20 (.int .u8 1)) fun t21 =>
  .op (.sliceStr (.string ⟨#[48, 49, 50, 51, 52, 53, 54, 55, 56, 57, 97, 98, 99, 100, 101, 102]⟩) (some t16) (some t21)) fun t22 =>
  .op (.mv (e 0)) fun t23 =>
  .op (.mv (e 4)) fun t24 =>
  .op (.indexStr t23 t24) fun t25 =>
  .op (.bin .rem t25 (.int .u8 16)) fun t26 =>
  .op (.mv (e 0)) fun t27 =>
  c8_r7_c2 e t12 t22 t26 t27) h Q := Iff.rfl
def c8_r7 : Env → Reg := fun e =>
  .op (.mv (e 3)) fun t12 =>
  .op (.mv (e 0)) fun t13 =>
  .op (.mv (e 4)) fun t14 =>
  .op (.indexStr t13 t14) fun t15 =>
  .op (.bin .quo t15 (.int .u8 16)) fun t16 =>
  .op (.mv (e 0)) fun t17 =>
  .op (.mv (e 4)) fun t18 =>
  .op (.indexStr t17 t18) fun t19 =>
  c8_r7_c1 e t12 t16 t19
theorem c8_r7_run {CP : CProg} (e : Env) (h : Heap) (Q : Post) : RunR CP (c8_r7 e) h Q ↔ RunR CP (
  .op (.mv (e 3)) fun t12 =>
  .op (.mv (e 0)) fun t13 =>
  .op (.mv (e 4)) fun t14 =>
  .op (.indexStr t13 t14) fun t15 =>
  .op (.bin .quo t15 (.int .u8 16)) fun t16 =>
  .op (.mv (e 0)) fun t17 =>
  .op (.mv (e 4)) fun t18 =>
  .op (.indexStr t17 t18) fun t19 =>
  c8_r7_c1 e t12 t16 t19) h Q := Iff.rfl
def c8_r8 : Env → Reg := fun e =>
  .op (.bin .add (e 9) (.int .i64 1)) fun t35 =>
  .op (.mv t35) fun t9 =>
  .done (e.upd 9 t9)
theorem c8_r8_run {CP : CProg} (e : Env) (h : Heap) (Q : Post) : RunR CP (c8_r8 e) h Q ↔ RunR CP (
  .op (.bin .add (e 9) (.int .i64 1)) fun t35 =>
  .op (.mv t35) fun t9 =>
  .done (e.upd 9 t9)) h Q := Iff.rfl
def c8_l0 : CC := (.seq (.region c8_r5) (.seq (.cond (fun e => e 10) .skip (.exit 0)) (.seq (.block 1 (.seq (.region c8_r6) (.region c8_r7))) (.region c8_r8))))
def c8_r9 : Env → Reg := fun e =>
  .op (.mv (e 3)) fun t36 =>
  .op (.mv t36) fun t2 =>
  .done (e.upd 2 t2)
theorem c8_r9_run {CP : CProg} (e : Env) (h : Heap) (Q : Post) : RunR CP (c8_r9 e) h Q ↔ RunR CP (
  .op (.mv (e 3)) fun t36 =>
  .op (.mv t36) fun t2 =>
  .done (e.upd 2 t2)) h Q := Iff.rfl
def c8 : CFn := ⟨(.seq (.region c8_r0) (.seq (.seq (.region c8_r1) (.cond (fun e => e 6) (.seq (.region c8_r2) .ret) .skip)) (.seq (.region c8_r3) (.seq (.seq (.region c8_r4) (.block 0 (.loop c8_l0))) (.seq (.region c8_r9) .ret))))), [.t 2]⟩
def p8 : Pers := ⟨5, [6, 8, 9, 10], 37⟩
-- 9: weighbridge/weighbridgelaw21.digits
def c9_r0 : Env → Reg := fun e =>
  .op (.mv (.string ⟨#[]⟩)) fun t2 =>
  .done (e.upd 2 t2)
theorem c9_r0_run {CP : CProg} (e : Env) (h : Heap) (Q : Post) : RunR CP (c9_r0 e) h Q ↔ RunR CP (
  .op (.mv (.string ⟨#[]⟩)) fun t2 =>
  .done (e.upd 2 t2)) h Q := Iff.rfl
def c9_r1 : Env → Reg := fun e =>
  .op (.mv (e 0)) fun t3 =>
  .op (.bin .lss t3 (.int .i64 0)) fun t4 =>
  .done (e.upd 4 t4)
theorem c9_r1_run {CP : CProg} (e : Env) (h : Heap) (Q : Post) : RunR CP (c9_r1 e) h Q ↔ RunR CP (
  .op (.mv (e 0)) fun t3 =>
  .op (.bin .lss t3 (.int .i64 0)) fun t4 =>
  .done (e.upd 4 t4)) h Q := Iff.rfl
def c9_r2 : Env → Reg := fun e =>
  .op (.mv (e 0)) fun t5 =>
  .op (.bin .eql t5 (.int .i64 (-9223372036854775808))) fun t6 =>
  .done (e.upd 6 t6)
theorem c9_r2_run {CP : CProg} (e : Env) (h : Heap) (Q : Post) : RunR CP (c9_r2 e) h Q ↔ RunR CP (
  .op (.mv (e 0)) fun t5 =>
  .op (.bin .eql t5 (.int .i64 (-9223372036854775808))) fun t6 =>
  .done (e.upd 6 t6)) h Q := Iff.rfl
def c9_r3 : Env → Reg := fun e =>
  .op (.mv (.string ⟨#[45, 57, 50, 50, 51, 51, 55, 50, 48, 51, 54, 56, 53, 52, 55, 55, 53, 56, 48, 56]⟩)) fun t2 =>
  .done (e.upd 2 t2)
theorem c9_r3_run {CP : CProg} (e : Env) (h : Heap) (Q : Post) : RunR CP (c9_r3 e) h Q ↔ RunR CP (
  .op (.mv (.string ⟨#[45, 57, 50, 50, 51, 51, 55, 50, 48, 51, 54, 56, 53, 52, 55, 55, 53, 56, 48, 56]⟩)) fun t2 =>
  .done (e.upd 2 t2)) h Q := Iff.rfl
def c9_r4 : Env → Reg := fun e =>
  .op (.mv (e 0)) fun t7 =>
  .op (.un .neg t7) fun t8 =>
  .op (.call 9 [t8]) fun t9 =>
  .op (.bin .add (.string ⟨#[45]⟩) t9) fun t10 =>
  .op (.mv t10) fun t2 =>
  .done (e.upd 2 t2)
theorem c9_r4_run {CP : CProg} (e : Env) (h : Heap) (Q : Post) : RunR CP (c9_r4 e) h Q ↔ RunR CP (
  .op (.mv (e 0)) fun t7 =>
  .op (.un .neg t7) fun t8 =>
  .op (.call 9 [t8]) fun t9 =>
  .op (.bin .add (.string ⟨#[45]⟩) t9) fun t10 =>
  .op (.mv t10) fun t2 =>
  .done (e.upd 2 t2)) h Q := Iff.rfl
def c9_r5 : Env → Reg := fun e =>
  .op (.mv (e 0)) fun t11 =>
  .op (.bin .lss t11 (.int .i64 10)) fun t12 =>
  .done (e.upd 12 t12)
theorem c9_r5_run {CP : CProg} (e : Env) (h : Heap) (Q : Post) : RunR CP (c9_r5 e) h Q ↔ RunR CP (
  .op (.mv (e 0)) fun t11 =>
  .op (.bin .lss t11 (.int .i64 10)) fun t12 =>
  .done (e.upd 12 t12)) h Q := Iff.rfl
def c9_r6 : Env → Reg := fun e =>
  .op (.mv (e 0)) fun t13 =>
  .op (.bin .add (.int .i64 48) t13) fun t14 =>
  .op (.conv .u8 t14) fun t15 =>
  .op (.buildSlice 5 1 [(.int .u8 0)] [(0, 1, t15)]) fun t16 =>
  .op (.toStr t16) fun t17 =>
  .op (.mv t17) fun t2 =>
  .done (e.upd 2 t2)
theorem c9_r6_run {CP : CProg} (e : Env) (h : Heap) (Q : Post) : RunR CP (c9_r6 e) h Q ↔ RunR CP (
  .op (.mv (e 0)) fun t13 =>
  .op (.bin .add (.int .i64 48) t13) fun t14 =>
  .op (.conv .u8 t14) fun t15 =>
  .op (.buildSlice 5 1 [(.int .u8 0)] [(0, 1, t15)]) fun t16 =>
  .op (.toStr t16) fun t17 =>
  .op (.mv t17) fun t2 =>
  .done (e.upd 2 t2)) h Q := Iff.rfl
def c9_r7 : Env → Reg := fun e =>
  .op (.mv (e 0)) fun t18 =>
  .op (.bin .quo t18 (.int .i64 10)) fun t19 =>
  .op (.call 9 [t19]) fun t20 =>
  .op (.mv (e 0)) fun t21 =>
  .op (.bin .rem t21 (.int .i64 10)) fun t22 =>
  .op (.call 9 [t22]) fun t23 =>
  .op (.bin .add t20 t23) fun t24 =>
  .op (.mv t24) fun t2 =>
  .done (e.upd 2 t2)
theorem c9_r7_run {CP : CProg} (e : Env) (h : Heap) (Q : Post) : RunR CP (c9_r7 e) h Q ↔ RunR CP (
  .op (.mv (e 0)) fun t18 =>
  .op (.bin .quo t18 (.int .i64 10)) fun t19 =>
  .op (.call 9 [t19]) fun t20 =>
  .op (.mv (e 0)) fun t21 =>
  .op (.bin .rem t21 (.int .i64 10)) fun t22 =>
  .op (.call 9 [t22]) fun t23 =>
  .op (.bin .add t20 t23) fun t24 =>
  .op (.mv t24) fun t2 =>
  .done (e.upd 2 t2)) h Q := Iff.rfl
def c9 : CFn := ⟨(.seq (.region c9_r0) (.seq (.seq (.region c9_r1) (.cond (fun e => e 4) (.seq (.seq (.region c9_r2) (.cond (fun e => e 6) (.seq (.region c9_r3) .ret) .skip)) (.seq (.region c9_r4) .ret)) .skip)) (.seq (.seq (.region c9_r5) (.cond (fun e => e 12) (.seq (.region c9_r6) .ret) .skip)) (.seq (.region c9_r7) .ret)))), [.t 2]⟩
def p9 : Pers := ⟨3, [4, 6, 12], 25⟩
-- 10: weighbridge/report.Said
def c10_r0 : Env → Reg := fun e =>
  .op (.box 36 (e 0)) fun t1 =>
  .op (.mv (.string ⟨#[]⟩)) fun t2 =>
  .done ((e.upd 1 t1).upd 2 t2)
theorem c10_r0_run {CP : CProg} (e : Env) (h : Heap) (Q : Post) : RunR CP (c10_r0 e) h Q ↔ RunR CP (
  .op (.box 36 (e 0)) fun t1 =>
  .op (.mv (.string ⟨#[]⟩)) fun t2 =>
  .done ((e.upd 1 t1).upd 2 t2)) h Q := Iff.rfl
def c10_r1 : Env → Reg := fun e =>
  .op (.fieldAddr 0 (e 1)) fun t7 =>
  .op (.load none t7) fun t8 =>
  .done (e.upd 8 t8)
theorem c10_r1_run {CP : CProg} (e : Env) (h : Heap) (Q : Post) : RunR CP (c10_r1 e) h Q ↔ RunR CP (
  .op (.fieldAddr 0 (e 1)) fun t7 =>
  .op (.load none t7) fun t8 =>
  .done (e.upd 8 t8)) h Q := Iff.rfl
def c10_r2 : Env → Reg := fun e =>
  .op (.bin .eql (e 8) (.int .i64 1)) fun t10 =>
  .op (.mv t10) fun t9 =>
  .done (e.upd 9 t9)
theorem c10_r2_run {CP : CProg} (e : Env) (h : Heap) (Q : Post) : RunR CP (c10_r2 e) h Q ↔ RunR CP (
  .op (.bin .eql (e 8) (.int .i64 1)) fun t10 =>
  .op (.mv t10) fun t9 =>
  .done (e.upd 9 t9)) h Q := Iff.rfl
def c10_r3 : Env → Reg := fun e =>
  .op (.bin .eql (e 8) (.int .i64 2)) fun t11 =>
  .op (.mv t11) fun t9 =>
  .done (e.upd 9 t9)
theorem c10_r3_run {CP : CProg} (e : Env) (h : Heap) (Q : Post) : RunR CP (c10_r3 e) h Q ↔ RunR CP (
  .op (.bin .eql (e 8) (.int .i64 2)) fun t11 =>
  .op (.mv t11) fun t9 =>
  .done (e.upd 9 t9)) h Q := Iff.rfl
def c10_r4 : Env → Reg := fun e =>
  .op (.mv (.string ⟨#[99, 104, 101, 99, 107, 32]⟩)) fun t3 =>
  .done (e.upd 3 t3)
theorem c10_r4_run {CP : CProg} (e : Env) (h : Heap) (Q : Post) : RunR CP (c10_r4 e) h Q ↔ RunR CP (
  .op (.mv (.string ⟨#[99, 104, 101, 99, 107, 32]⟩)) fun t3 =>
  .done (e.upd 3 t3)) h Q := Iff.rfl
def c10_r5 : Env → Reg := fun e =>
  .op (.fieldAddr 0 (e 1)) fun t12 =>
  .op (.load none t12) fun t13 =>
  .op (.bin .eql t13 (.int .i64 2)) fun t14 =>
  .done (e.upd 14 t14)
theorem c10_r5_run {CP : CProg} (e : Env) (h : Heap) (Q : Post) : RunR CP (c10_r5 e) h Q ↔ RunR CP (
  .op (.fieldAddr 0 (e 1)) fun t12 =>
  .op (.load none t12) fun t13 =>
  .op (.bin .eql t13 (.int .i64 2)) fun t14 =>
  .done (e.upd 14 t14)) h Q := Iff.rfl
def c10_r6 : Env → Reg := fun e =>
  .op (.mv (.string ⟨#[112, 101, 101, 107, 32]⟩)) fun t3 =>
  .done (e.upd 3 t3)
theorem c10_r6_run {CP : CProg} (e : Env) (h : Heap) (Q : Post) : RunR CP (c10_r6 e) h Q ↔ RunR CP (
  .op (.mv (.string ⟨#[112, 101, 101, 107, 32]⟩)) fun t3 =>
  .done (e.upd 3 t3)) h Q := Iff.rfl
def c10_r7_c2 (e : Env) (t21 : Value) (t24 : Value) (t27 : Value) : Reg :=
  .op (.buildSlice 2 2 [(.int .i64 0)] [(0, 1, t24), (1, 1, t27)]) fun t28 =>
  .snap fun h14 =>
  .op (.call 15 [t28]) fun t29 =>
  .op (.bin .add t21 t29) fun t30 =>
  .op (.mv t30) fun t2 =>
  .done (e.upd 2 t2)
theorem c10_r7_c2_run {CP : CProg} (e : Env) (t21 : Value) (t24 : Value) (t27 : Value) (h : Heap) (Q : Post) : RunR CP (c10_r7_c2 e t21 t24 t27) h Q ↔ RunR CP (
  .op (.buildSlice 2 2 [(.int .i64 0)] [(0, 1, t24), (1, 1, t27)]) fun t28 =>
  .snap fun h14 =>
  .op (.call 15 [t28]) fun t29 =>
  .op (.bin .add t21 t29) fun t30 =>
  .op (.mv t30) fun t2 =>
  .done (e.upd 2 t2)) h Q := Iff.rfl
def c10_r7_c1 (e : Env) (h5 : Heap) (t21 : Value) : Reg :=
  .op (.fieldAddr 2 (e 1)) fun t22 =>
  .op (.fieldAddr 1 t22) fun t23 =>
  .op (.load none t23) fun t24 =>
  .chk none (some h5) (.load none t23) t24 <|
  .op (.fieldAddr 2 (e 1)) fun t25 =>
  .op (.fieldAddr 2 t25) fun t26 =>
  .op (.load none t26) fun t27 =>
  .chk none (some h5) (.load none t26) t27 <|
  c10_r7_c2 e t21 t24 t27
theorem c10_r7_c1_run {CP : CProg} (e : Env) (h5 : Heap) (t21 : Value) (h : Heap) (Q : Post) : RunR CP (c10_r7_c1 e h5 t21) h Q ↔ RunR CP (
  .op (.fieldAddr 2 (e 1)) fun t22 =>
  .op (.fieldAddr 1 t22) fun t23 =>
  .op (.load none t23) fun t24 =>
  .chk none (some h5) (.load none t23) t24 <|
  .op (.fieldAddr 2 (e 1)) fun t25 =>
  .op (.fieldAddr 2 t25) fun t26 =>
  .op (.load none t26) fun t27 =>
  .chk none (some h5) (.load none t26) t27 <|
  c10_r7_c2 e t21 t24 t27) h Q := Iff.rfl
def c10_r7 : Env → Reg := fun e =>
  .op (.mv (e 3)) fun t15 =>
  .op (.fieldAddr 2 (e 1)) fun t16 =>
  .op (.fieldAddr 0 t16) fun t17 =>
  .op (.load none t17) fun t18 =>
  .op (.bin .and t18 (.int .i64 3)) fun t19 =>
  .snap fun h5 =>
  .op (.call 14 [t19]) fun t20 =>
  .op (.bin .add t15 t20) fun t21 =>
  c10_r7_c1 e h5 t21
theorem c10_r7_run {CP : CProg} (e : Env) (h : Heap) (Q : Post) : RunR CP (c10_r7 e) h Q ↔ RunR CP (
  .op (.mv (e 3)) fun t15 =>
  .op (.fieldAddr 2 (e 1)) fun t16 =>
  .op (.fieldAddr 0 t16) fun t17 =>
  .op (.load none t17) fun t18 =>
  .op (.bin .and t18 (.int .i64 3)) fun t19 =>
  .snap fun h5 =>
  .op (.call 14 [t19]) fun t20 =>
  .op (.bin .add t15 t20) fun t21 =>
  c10_r7_c1 e h5 t21) h Q := Iff.rfl
def c10_r8 : Env → Reg := fun e =>
  .op (.bin .eql (e 8) (.int .i64 3)) fun t32 =>
  .op (.mv t32) fun t31 =>
  .done (e.upd 31 t31)
theorem c10_r8_run {CP : CProg} (e : Env) (h : Heap) (Q : Post) : RunR CP (c10_r8 e) h Q ↔ RunR CP (
  .op (.bin .eql (e 8) (.int .i64 3)) fun t32 =>
  .op (.mv t32) fun t31 =>
  .done (e.upd 31 t31)) h Q := Iff.rfl
def c10_r9_c2 (e : Env) (t34 : Value) (t37 : Value) (t40 : Value) (t43 : Value) (t46 : Value) (t48 : Value) : Reg :=
  .op (.load none t48) fun t49 =>
  .op (.buildSlice 2 6 [(.int .i64 0)] [(0, 1, t34), (1, 1, t37), (2, 1, t40), (3, 1, t43), (4, 1, t46), (5, 1, t49)]) fun t50 =>
  .op (.call 15 [t50]) fun t51 =>
  .op (.bin .add (.string ⟨#[115, 116, 97, 116, 115]⟩) t51) fun t52 =>
  .op (.mv t52) fun t2 =>
  .done (e.upd 2 t2)
theorem c10_r9_c2_run {CP : CProg} (e : Env) (t34 : Value) (t37 : Value) (t40 : Value) (t43 : Value) (t46 : Value) (t48 : Value) (h : Heap) (Q : Post) : RunR CP (c10_r9_c2 e t34 t37 t40 t43 t46 t48) h Q ↔ RunR CP (
  .op (.load none t48) fun t49 =>
  .op (.buildSlice 2 6 [(.int .i64 0)] [(0, 1, t34), (1, 1, t37), (2, 1, t40), (3, 1, t43), (4, 1, t46), (5, 1, t49)]) fun t50 =>
  .op (.call 15 [t50]) fun t51 =>
  .op (.bin .add (.string ⟨#[115, 116, 97, 116, 115]⟩) t51) fun t52 =>
  .op (.mv t52) fun t2 =>
  .done (e.upd 2 t2)) h Q := Iff.rfl
def c10_r9_c1 (e : Env) (t34 : Value) (t37 : Value) (t40 : Value) : Reg :=
  .op (.fieldAddr 5 (e 1)) fun t41 =>
  .op (.fieldAddr 2 t41) fun t42 =>
  .op (.load none t42) fun t43 =>
  .op (.fieldAddr 5 (e 1)) fun t44 =>
  .op (.fieldAddr 3 t44) fun t45 =>
  .op (.load none t45) fun t46 =>
  .op (.fieldAddr 5 (e 1)) fun t47 =>
  .op (.fieldAddr 4 t47) fun t48 =>
  c10_r9_c2 e t34 t37 t40 t43 t46 t48
theorem c10_r9_c1_run {CP : CProg} (e : Env) (t34 : Value) (t37 : Value) (t40 : Value) (h : Heap) (Q : Post) : RunR CP (c10_r9_c1 e t34 t37 t40) h Q ↔ RunR CP (
  .op (.fieldAddr 5 (e 1)) fun t41 =>
  .op (.fieldAddr 2 t41) fun t42 =>
  .op (.load none t42) fun t43 =>
  .op (.fieldAddr 5 (e 1)) fun t44 =>
  .op (.fieldAddr 3 t44) fun t45 =>
  .op (.load none t45) fun t46 =>
  .op (.fieldAddr 5 (e 1)) fun t47 =>
  .op (.fieldAddr 4 t47) fun t48 =>
  c10_r9_c2 e t34 t37 t40 t43 t46 t48) h Q := Iff.rfl
def c10_r9 : Env → Reg := fun e =>
  .op (.fieldAddr 1 (e 1)) fun t33 =>
  .op (.load none t33) fun t34 =>
  .op (.fieldAddr 5 (e 1)) fun t35 =>
  .op (.fieldAddr 0 t35) fun t36 =>
  .op (.load none t36) fun t37 =>
  .op (.fieldAddr 5 (e 1)) fun t38 =>
  .op (.fieldAddr 1 t38) fun t39 =>
  .op (.load none t39) fun t40 =>
  c10_r9_c1 e t34 t37 t40
theorem c10_r9_run {CP : CProg} (e : Env) (h : Heap) (Q : Post) : RunR CP (c10_r9 e) h Q ↔ RunR CP (
  .op (.fieldAddr 1 (e 1)) fun t33 =>
  .op (.load none t33) fun t34 =>
  .op (.fieldAddr 5 (e 1)) fun t35 =>
  .op (.fieldAddr 0 t35) fun t36 =>
  .op (.load none t36) fun t37 =>
  .op (.fieldAddr 5 (e 1)) fun t38 =>
  .op (.fieldAddr 1 t38) fun t39 =>
  .op (.load none t39) fun t40 =>
  c10_r9_c1 e t34 t37 t40) h Q := Iff.rfl
def c10_r10 : Env → Reg := fun e =>
  .op (.bin .eql (e 8) (.int .i64 4)) fun t54 =>
  .op (.mv t54) fun t53 =>
  .done (e.upd 53 t53)
theorem c10_r10_run {CP : CProg} (e : Env) (h : Heap) (Q : Post) : RunR CP (c10_r10 e) h Q ↔ RunR CP (
  .op (.bin .eql (e 8) (.int .i64 4)) fun t54 =>
  .op (.mv t54) fun t53 =>
  .done (e.upd 53 t53)) h Q := Iff.rfl
def c10_r11 : Env → Reg := fun e =>
  .op (.fieldAddr 1 (e 1)) fun t55 =>
  .op (.load none t55) fun t56 =>
  .op (.buildSlice 2 1 [(.int .i64 0)] [(0, 1, t56)]) fun t57 =>
  .op (.call 15 [t57]) fun t58 =>
  .op (.bin .add (.string ⟨#[116, 111, 112]⟩) t58) fun t59 =>
  .op (.mv t59) fun t4 =>
  .done (e.upd 4 t4)
theorem c10_r11_run {CP : CProg} (e : Env) (h : Heap) (Q : Post) : RunR CP (c10_r11 e) h Q ↔ RunR CP (
  .op (.fieldAddr 1 (e 1)) fun t55 =>
  .op (.load none t55) fun t56 =>
  .op (.buildSlice 2 1 [(.int .i64 0)] [(0, 1, t56)]) fun t57 =>
  .op (.call 15 [t57]) fun t58 =>
  .op (.bin .add (.string ⟨#[116, 111, 112]⟩) t58) fun t59 =>
  .op (.mv t59) fun t4 =>
  .done (e.upd 4 t4)) h Q := Iff.rfl
def c10_r12 : Env → Reg := fun e =>
  .op (.fieldAddr 10 (e 1)) fun t60 =>
  .op (.load none t60) fun t61 =>
  .op (.lenSl t61) fun t62 =>
  .op (.mv (.int .i64 0)) fun t63 =>
  .done (((e.upd 61 t61).upd 62 t62).upd 63 t63)
theorem c10_r12_run {CP : CProg} (e : Env) (h : Heap) (Q : Post) : RunR CP (c10_r12 e) h Q ↔ RunR CP (
  .op (.fieldAddr 10 (e 1)) fun t60 =>
  .op (.load none t60) fun t61 =>
  .op (.lenSl t61) fun t62 =>
  .op (.mv (.int .i64 0)) fun t63 =>
  .done (((e.upd 61 t61).upd 62 t62).upd 63 t63)) h Q := Iff.rfl
def c10_r13 : Env → Reg := fun e =>
  .op (.bin .lss (e 63) (e 62)) fun t64 =>
  .done (e.upd 64 t64)
theorem c10_r13_run {CP : CProg} (e : Env) (h : Heap) (Q : Post) : RunR CP (c10_r13 e) h Q ↔ RunR CP (
  .op (.bin .lss (e 63) (e 62)) fun t64 =>
  .done (e.upd 64 t64)) h Q := Iff.rfl
def c10_r14 : Env → Reg := fun e =>
  .op (.indexSl 3 (e 61) (e 63)) fun t65 =>
  .op (.load (some 3) t65) fun t66 =>
  .op (.alloc 29 [(.string ⟨#[]⟩), (.int .i64 0), (.int .i64 0)]) fun t6 =>
  .op (.store 3 t6 t66) fun _ =>
  .done (e.upd 6 t6)
theorem c10_r14_run {CP : CProg} (e : Env) (h : Heap) (Q : Post) : RunR CP (c10_r14 e) h Q ↔ RunR CP (
  .op (.indexSl 3 (e 61) (e 63)) fun t65 =>
  .op (.load (some 3) t65) fun t66 =>
  .op (.alloc 29 [(.string ⟨#[]⟩), (.int .i64 0), (.int .i64 0)]) fun t6 =>
  .op (.store 3 t6 t66) fun _ =>
  .done (e.upd 6 t6)) h Q := Iff.rfl
def c10_r15_c1 (e : Env) (t67 : Value) (h3 : Heap) (t71 : Value) (t72 : Value) (t73 : Value) : Reg :=
  .chk none (some h3) (.load none t72) t73 <|
  .op (.fieldAddr 2 (e 6)) fun t74 =>
  .op (.load none t74) fun t75 =>
  .chk none (some h3) (.load none t74) t75 <|
  .op (.buildSlice 2 2 [(.int .i64 0)] [(0, 1, t73), (1, 1, t75)]) fun t76 =>
  .snap fun h10 =>
  .op (.call 15 [t76]) fun t77 =>
  .op (.bin .add t71 t77) fun t78 =>
  .op (.bin .add t67 t78) fun t79 =>
  .op (.mv t79) fun t4 =>
  .done (e.upd 4 t4)
theorem c10_r15_c1_run {CP : CProg} (e : Env) (t67 : Value) (h3 : Heap) (t71 : Value) (t72 : Value) (t73 : Value) (h : Heap) (Q : Post) : RunR CP (c10_r15_c1 e t67 h3 t71 t72 t73) h Q ↔ RunR CP (
  .chk none (some h3) (.load none t72) t73 <|
  .op (.fieldAddr 2 (e 6)) fun t74 =>
  .op (.load none t74) fun t75 =>
  .chk none (some h3) (.load none t74) t75 <|
  .op (.buildSlice 2 2 [(.int .i64 0)] [(0, 1, t73), (1, 1, t75)]) fun t76 =>
  .snap fun h10 =>
  .op (.call 15 [t76]) fun t77 =>
  .op (.bin .add t71 t77) fun t78 =>
  .op (.bin .add t67 t78) fun t79 =>
  .op (.mv t79) fun t4 =>
  .done (e.upd 4 t4)) h Q := Iff.rfl
def c10_r15 : Env → Reg := fun e =>
  .op (.mv (e 4)) fun t67 =>
  .op (.fieldAddr 0 (e 6)) fun t68 =>
  .op (.load none t68) fun t69 =>
  .snap fun h3 =>
  .op (.call 16 [t69]) fun t70 =>
  .op (.bin .add (.string ⟨#[32]⟩) t70) fun t71 =>
  .op (.fieldAddr 1 (e 6)) fun t72 =>
  .op (.load none t72) fun t73 =>
  c10_r15_c1 e t67 h3 t71 t72 t73
theorem c10_r15_run {CP : CProg} (e : Env) (h : Heap) (Q : Post) : RunR CP (c10_r15 e) h Q ↔ RunR CP (
  .op (.mv (e 4)) fun t67 =>
  .op (.fieldAddr 0 (e 6)) fun t68 =>
  .op (.load none t68) fun t69 =>
  .snap fun h3 =>
  .op (.call 16 [t69]) fun t70 =>
  .op (.bin .add (.string ⟨#[32]⟩) t70) fun t71 =>
  .op (.fieldAddr 1 (e 6)) fun t72 =>
  .op (.load none t72) fun t73 =>
  c10_r15_c1 e t67 h3 t71 t72 t73) h Q := Iff.rfl
def c10_r16 : Env → Reg := fun e =>
  .op (.bin .add (e 63) (.int .i64 1)) fun t80 =>
  .op (.mv t80) fun t63 =>
  .done (e.upd 63 t63)
theorem c10_r16_run {CP : CProg} (e : Env) (h : Heap) (Q : Post) : RunR CP (c10_r16 e) h Q ↔ RunR CP (
  .op (.bin .add (e 63) (.int .i64 1)) fun t80 =>
  .op (.mv t80) fun t63 =>
  .done (e.upd 63 t63)) h Q := Iff.rfl
def c10_l0 : CC := (.seq (.region c10_r13) (.seq (.cond (fun e => e 64) .skip (.exit 1)) (.seq (.block 2 (.seq (.region c10_r14) (.region c10_r15))) (.region c10_r16))))
def c10_r17 : Env → Reg := fun e =>
  .op (.mv (e 4)) fun t81 =>
  .op (.mv t81) fun t2 =>
  .done (e.upd 2 t2)
theorem c10_r17_run {CP : CProg} (e : Env) (h : Heap) (Q : Post) : RunR CP (c10_r17 e) h Q ↔ RunR CP (
  .op (.mv (e 4)) fun t81 =>
  .op (.mv t81) fun t2 =>
  .done (e.upd 2 t2)) h Q := Iff.rfl
def c10_r18 : Env → Reg := fun e =>
  .op (.fieldAddr 11 (e 1)) fun t82 =>
  .op (.load none t82) fun t83 =>
  .op (.buildSlice 2 1 [(.int .i64 0)] [(0, 1, t83)]) fun t84 =>
  .op (.call 15 [t84]) fun t85 =>
  .op (.bin .add (.string ⟨#[102, 97, 117, 108, 116]⟩) t85) fun t86 =>
  .op (.mv t86) fun t2 =>
  .done (e.upd 2 t2)
theorem c10_r18_run {CP : CProg} (e : Env) (h : Heap) (Q : Post) : RunR CP (c10_r18 e) h Q ↔ RunR CP (
  .op (.fieldAddr 11 (e 1)) fun t82 =>
  .op (.load none t82) fun t83 =>
  .op (.buildSlice 2 1 [(.int .i64 0)] [(0, 1, t83)]) fun t84 =>
  .op (.call 15 [t84]) fun t85 =>
  .op (.bin .add (.string ⟨#[102, 97, 117, 108, 116]⟩) t85) fun t86 =>
  .op (.mv t86) fun t2 =>
  .done (e.upd 2 t2)) h Q := Iff.rfl
def c10 : CFn := ⟨(.seq (.region c10_r0) (.seq (.seq (.region c10_r1) (.block 0 (.seq (.seq (.region c10_r2) (.cond (fun e => e 9) .skip (.region c10_r3))) (.cond (fun e => e 9) (.seq (.region c10_r4) (.seq (.seq (.region c10_r5) (.cond (fun e => e 14) (.region c10_r6) .skip)) (.seq (.region c10_r7) .ret))) (.seq (.region c10_r8) (.cond (fun e => e 31) (.seq (.region c10_r9) .ret) (.seq (.region c10_r10) (.cond (fun e => e 53) (.seq (.region c10_r11) (.seq (.seq (.region c10_r12) (.block 1 (.loop c10_l0))) (.seq (.region c10_r17) .ret))) .skip)))))))) (.seq (.region c10_r18) .ret))), [.t 2]⟩
def p10 : Pers := ⟨7, [8, 9, 14, 31, 53, 61, 62, 63, 64], 87⟩
-- 11: weighbridge/report.Stream
def c11_r0 : Env → Reg := fun e =>
  .op (.mv (.string ⟨#[]⟩)) fun t2 =>
  .op (.mv (.int .i64 0)) fun t3 =>
  .done ((e.upd 2 t2).upd 3 t3)
theorem c11_r0_run {CP : CProg} (e : Env) (h : Heap) (Q : Post) : RunR CP (c11_r0 e) h Q ↔ RunR CP (
  .op (.mv (.string ⟨#[]⟩)) fun t2 =>
  .op (.mv (.int .i64 0)) fun t3 =>
  .done ((e.upd 2 t2).upd 3 t3)) h Q := Iff.rfl
def c11_r1 : Env → Reg := fun e =>
  .op (.alloc 52 [(.pointer none), (.slice none 0 0)]) fun t4 =>
  .done (e.upd 4 t4)
theorem c11_r1_run {CP : CProg} (e : Env) (h : Heap) (Q : Post) : RunR CP (c11_r1 e) h Q ↔ RunR CP (
  .op (.alloc 52 [(.pointer none), (.slice none 0 0)]) fun t4 =>
  .done (e.upd 4 t4)) h Q := Iff.rfl
def c11_r2 : Env → Reg := fun e =>
  .op (.mv (.int .i64 0)) fun t5 =>
  .done (e.upd 5 t5)
theorem c11_r2_run {CP : CProg} (e : Env) (h : Heap) (Q : Post) : RunR CP (c11_r2 e) h Q ↔ RunR CP (
  .op (.mv (.int .i64 0)) fun t5 =>
  .done (e.upd 5 t5)) h Q := Iff.rfl
def c11_r3_c1 (e : Env) (t14 : Value) (t15 : Value) (t16 : Value) : Reg :=
  .op (.alloc 36 [(.int .i64 0), (.int .i64 0), (.int .i64 0), (.int .i64 0), (.int .i64 0), (.int .i64 0), (.int .i64 0), (.int .i64 0), (.int .i64 0), (.int .i64 0), (.slice none 0 0), (.int .i64 0)]) fun t6 =>
  .op (.store 12 t6 t14) fun _ =>
  .op (.mv t15) fun t7 =>
  .op (.mv t16) fun t8 =>
  .done (((e.upd 6 t6).upd 7 t7).upd 8 t8)
theorem c11_r3_c1_run {CP : CProg} (e : Env) (t14 : Value) (t15 : Value) (t16 : Value) (h : Heap) (Q : Post) : RunR CP (c11_r3_c1 e t14 t15 t16) h Q ↔ RunR CP (
  .op (.alloc 36 [(.int .i64 0), (.int .i64 0), (.int .i64 0), (.int .i64 0), (.int .i64 0), (.int .i64 0), (.int .i64 0), (.int .i64 0), (.int .i64 0), (.int .i64 0), (.slice none 0 0), (.int .i64 0)]) fun t6 =>
  .op (.store 12 t6 t14) fun _ =>
  .op (.mv t15) fun t7 =>
  .op (.mv t16) fun t8 =>
  .done (((e.upd 6 t6).upd 7 t7).upd 8 t8)) h Q := Iff.rfl
def c11_r3 : Env → Reg := fun e =>
  .op (.mv (e 0)) fun t10 =>
  .op (.mv (e 5)) fun t11 =>
  .op (.slice 5 1 t10 (some t11) none) fun t12 =>
  .op (.call 12 [t12]) fun t13 =>
  .op (.mv t13) fun t9 =>
  .op (.extract t9 0) fun t14 =>
  .op (.extract t9 1) fun t15 =>
  .op (.extract t9 2) fun t16 =>
  c11_r3_c1 e t14 t15 t16
theorem c11_r3_run {CP : CProg} (e : Env) (h : Heap) (Q : Post) : RunR CP (c11_r3 e) h Q ↔ RunR CP (
  .op (.mv (e 0)) fun t10 =>
  .op (.mv (e 5)) fun t11 =>
  .op (.slice 5 1 t10 (some t11) none) fun t12 =>
  .op (.call 12 [t12]) fun t13 =>
  .op (.mv t13) fun t9 =>
  .op (.extract t9 0) fun t14 =>
  .op (.extract t9 1) fun t15 =>
  .op (.extract t9 2) fun t16 =>
  c11_r3_c1 e t14 t15 t16) h Q := Iff.rfl
def c11_r4 : Env → Reg := fun e =>
  .op (.mv (e 8)) fun t17 =>
  .op (.un .not t17) fun t18 =>
  .done (e.upd 18 t18)
theorem c11_r4_run {CP : CProg} (e : Env) (h : Heap) (Q : Post) : RunR CP (c11_r4 e) h Q ↔ RunR CP (
  .op (.mv (e 8)) fun t17 =>
  .op (.un .not t17) fun t18 =>
  .done (e.upd 18 t18)) h Q := Iff.rfl
def c11_r5 : Env → Reg := fun e =>
  .op (.call 17 [(e 4)]) fun t19 =>
  .op (.mv (e 5)) fun t20 =>
  .op (.mv t19) fun t2 =>
  .op (.mv t20) fun t3 =>
  .done ((e.upd 2 t2).upd 3 t3)
theorem c11_r5_run {CP : CProg} (e : Env) (h : Heap) (Q : Post) : RunR CP (c11_r5 e) h Q ↔ RunR CP (
  .op (.call 17 [(e 4)]) fun t19 =>
  .op (.mv (e 5)) fun t20 =>
  .op (.mv t19) fun t2 =>
  .op (.mv t20) fun t3 =>
  .done ((e.upd 2 t2).upd 3 t3)) h Q := Iff.rfl
def c11_r6 : Env → Reg := fun e =>
  .op (.load (some 12) (e 6)) fun t21 =>
  .op (.call 10 [t21]) fun t22 =>
  .op (.call 18 [(e 4), t22]) fun t23 =>
  .done e
theorem c11_r6_run {CP : CProg} (e : Env) (h : Heap) (Q : Post) : RunR CP (c11_r6 e) h Q ↔ RunR CP (
  .op (.load (some 12) (e 6)) fun t21 =>
  .op (.call 10 [t21]) fun t22 =>
  .op (.call 18 [(e 4), t22]) fun t23 =>
  .done e) h Q := Iff.rfl
def c11_r7 : Env → Reg := fun e =>
  .op (.call 19 [(e 4), (.int .u8 10)]) fun t24 =>
  .done e
theorem c11_r7_run {CP : CProg} (e : Env) (h : Heap) (Q : Post) : RunR CP (c11_r7 e) h Q ↔ RunR CP (
  .op (.call 19 [(e 4), (.int .u8 10)]) fun t24 =>
  .done e) h Q := Iff.rfl
def c11_r8 : Env → Reg := fun e =>
  .op (.mv (e 5)) fun t25 =>
  .op (.mv (e 7)) fun t26 =>
  .op (.bin .add t25 t26) fun t27 =>
  .op (.mv t27) fun t5 =>
  .done (e.upd 5 t5)
theorem c11_r8_run {CP : CProg} (e : Env) (h : Heap) (Q : Post) : RunR CP (c11_r8 e) h Q ↔ RunR CP (
  .op (.mv (e 5)) fun t25 =>
  .op (.mv (e 7)) fun t26 =>
  .op (.bin .add t25 t26) fun t27 =>
  .op (.mv t27) fun t5 =>
  .done (e.upd 5 t5)) h Q := Iff.rfl
def c11_l0 : CC := (.block 1 (.seq (.region c11_r3) (.seq (.seq (.region c11_r4) (.cond (fun e => e 18) (.seq (.region c11_r5) .ret) .skip)) (.seq (.region c11_r6) (.seq (.region c11_r7) (.region c11_r8))))))
def c11 : CFn := ⟨(.seq (.region c11_r0) (.seq (.region c11_r1) (.seq (.region c11_r2) (.block 0 (.loop c11_l0))))), [.t 2, .t 3]⟩
def p11 : Pers := ⟨9, [18], 28⟩
-- 12: weighbridge/frame.Read
def c12_r0 : Env → Reg := fun e =>
  .op (.alloc 36 [(.int .i64 0), (.int .i64 0), (.int .i64 0), (.int .i64 0), (.int .i64 0), (.int .i64 0), (.int .i64 0), (.int .i64 0), (.int .i64 0), (.int .i64 0), (.slice none 0 0), (.int .i64 0)]) fun t2 =>
  .op (.mv (.int .i64 0)) fun t3 =>
  .op (.mv (.bool false)) fun t4 =>
  .done (((e.upd 2 t2).upd 3 t3).upd 4 t4)
theorem c12_r0_run {CP : CProg} (e : Env) (h : Heap) (Q : Post) : RunR CP (c12_r0 e) h Q ↔ RunR CP (
  .op (.alloc 36 [(.int .i64 0), (.int .i64 0), (.int .i64 0), (.int .i64 0), (.int .i64 0), (.int .i64 0), (.int .i64 0), (.int .i64 0), (.int .i64 0), (.int .i64 0), (.slice none 0 0), (.int .i64 0)]) fun t2 =>
  .op (.mv (.int .i64 0)) fun t3 =>
  .op (.mv (.bool false)) fun t4 =>
  .done (((e.upd 2 t2).upd 3 t3).upd 4 t4)) h Q := Iff.rfl
def c12_r1_c1 (e : Env) (t10 : Value) (t14 : Value) : Reg :=
  .op (.pick t10 (.bool true) t14) fun t15 =>
  .op (.mv t15) fun t16 =>
  .opg t16 false (.mv (e 0)) fun t17 =>
  .opg t16 false (.indexSl 1 t17 (.int .i64 1)) fun t18 =>
  .opg t16 false (.load none t18) fun t19 =>
  .opg t16 false (.bin .neq t19 (.int .u8 1)) fun t20 =>
  .op (.pick t16 (.bool true) t20) fun t21 =>
  .done (e.upd 21 t21)
theorem c12_r1_c1_run {CP : CProg} (e : Env) (t10 : Value) (t14 : Value) (h : Heap) (Q : Post) : RunR CP (c12_r1_c1 e t10 t14) h Q ↔ RunR CP (
  .op (.pick t10 (.bool true) t14) fun t15 =>
  .op (.mv t15) fun t16 =>
  .opg t16 false (.mv (e 0)) fun t17 =>
  .opg t16 false (.indexSl 1 t17 (.int .i64 1)) fun t18 =>
  .opg t16 false (.load none t18) fun t19 =>
  .opg t16 false (.bin .neq t19 (.int .u8 1)) fun t20 =>
  .op (.pick t16 (.bool true) t20) fun t21 =>
  .done (e.upd 21 t21)) h Q := Iff.rfl
def c12_r1 : Env → Reg := fun e =>
  .op (.mv (e 0)) fun t7 =>
  .op (.lenSl t7) fun t8 =>
  .op (.bin .lss t8 (.int .i64 6)) fun t9 =>
  .op (.mv t9) fun t10 =>
  .opg t10 false (.mv (e 0)) fun t11 =>
  .opg t10 false (.indexSl 1 t11 (.int .i64 0)) fun t12 =>
  .opg t10 false (.load none t12) fun t13 =>
  .opg t10 false (.bin .neq t13 (.int .u8 168)) fun t14 =>
  c12_r1_c1 e t10 t14
theorem c12_r1_run {CP : CProg} (e : Env) (h : Heap) (Q : Post) : RunR CP (c12_r1 e) h Q ↔ RunR CP (
  .op (.mv (e 0)) fun t7 =>
  .op (.lenSl t7) fun t8 =>
  .op (.bin .lss t8 (.int .i64 6)) fun t9 =>
  .op (.mv t9) fun t10 =>
  .opg t10 false (.mv (e 0)) fun t11 =>
  .opg t10 false (.indexSl 1 t11 (.int .i64 0)) fun t12 =>
  .opg t10 false (.load none t12) fun t13 =>
  .opg t10 false (.bin .neq t13 (.int .u8 168)) fun t14 =>
  c12_r1_c1 e t10 t14) h Q := Iff.rfl
def c12_r2 : Env → Reg := fun e =>
  .op (.build [(.int .i64 0), (.int .i64 0), (.int .i64 0), (.int .i64 0), (.int .i64 0), (.int .i64 0), (.int .i64 0), (.int .i64 0), (.int .i64 0), (.int .i64 0), (.slice none 0 0), (.int .i64 0)] []) fun t22 =>
  .op (.store 12 (e 2) t22) fun _ =>
  .op (.mv (.int .i64 0)) fun t3 =>
  .op (.mv (.bool false)) fun t4 =>
  .done ((e.upd 3 t3).upd 4 t4)
theorem c12_r2_run {CP : CProg} (e : Env) (h : Heap) (Q : Post) : RunR CP (c12_r2 e) h Q ↔ RunR CP (
  .op (.build [(.int .i64 0), (.int .i64 0), (.int .i64 0), (.int .i64 0), (.int .i64 0), (.int .i64 0), (.int .i64 0), (.int .i64 0), (.int .i64 0), (.int .i64 0), (.slice none 0 0), (.int .i64 0)] []) fun t22 =>
  .op (.store 12 (e 2) t22) fun _ =>
  .op (.mv (.int .i64 0)) fun t3 =>
  .op (.mv (.bool false)) fun t4 =>
  .done ((e.upd 3 t3).upd 4 t4)) h Q := Iff.rfl
def c12_r3 : Env → Reg := fun e =>
  .op (.mv (e 0)) fun t23 =>
  .op (.slice 5 1 t23 (some (.int .i64 2)) (some (.int .i64 4))) fun t24 =>
  .op (.call 20 [t24]) fun t25 =>
  .op (.conv .i64 t25) fun t26 =>
  .op (.bin .add (.int .i64 4) t26) fun t27 =>
  .op (.mv t27) fun t5 =>
  .done (e.upd 5 t5)
theorem c12_r3_run {CP : CProg} (e : Env) (h : Heap) (Q : Post) : RunR CP (c12_r3 e) h Q ↔ RunR CP (
  .op (.mv (e 0)) fun t23 =>
  .op (.slice 5 1 t23 (some (.int .i64 2)) (some (.int .i64 4))) fun t24 =>
  .op (.call 20 [t24]) fun t25 =>
  .op (.conv .i64 t25) fun t26 =>
  .op (.bin .add (.int .i64 4) t26) fun t27 =>
  .op (.mv t27) fun t5 =>
  .done (e.upd 5 t5)) h Q := Iff.rfl
def c12_r4_c1 (e : Env) (t35 : Value) : Reg :=
  .op (.mv t35) fun t36 =>
  .opg t36 false (.mv (e 0)) fun t37 =>
  .opg t36 false (.indexSl 1 t37 (.int .i64 4)) fun t38 =>
  .opg t36 false (.load none t38) fun t39 =>
  .opg t36 false (.bin .lss t39 (.int .u8 128)) fun t40 =>
  .op (.pick t36 (.bool true) t40) fun t41 =>
  .done (e.upd 41 t41)
theorem c12_r4_c1_run {CP : CProg} (e : Env) (t35 : Value) (h : Heap) (Q : Post) : RunR CP (c12_r4_c1 e t35) h Q ↔ RunR CP (
  .op (.mv t35) fun t36 =>
  .opg t36 false (.mv (e 0)) fun t37 =>
  .opg t36 false (.indexSl 1 t37 (.int .i64 4)) fun t38 =>
  .opg t36 false (.load none t38) fun t39 =>
  .opg t36 false (.bin .lss t39 (.int .u8 128)) fun t40 =>
  .op (.pick t36 (.bool true) t40) fun t41 =>
  .done (e.upd 41 t41)) h Q := Iff.rfl
def c12_r4 : Env → Reg := fun e =>
  .op (.mv (e 5)) fun t28 =>
  .op (.bin .lss t28 (.int .i64 6)) fun t29 =>
  .op (.mv t29) fun t30 =>
  .opg t30 false (.mv (e 0)) fun t31 =>
  .opg t30 false (.lenSl t31) fun t32 =>
  .opg t30 false (.mv (e 5)) fun t33 =>
  .opg t30 false (.bin .lss t32 t33) fun t34 =>
  .op (.pick t30 (.bool true) t34) fun t35 =>
  c12_r4_c1 e t35
theorem c12_r4_run {CP : CProg} (e : Env) (h : Heap) (Q : Post) : RunR CP (c12_r4 e) h Q ↔ RunR CP (
  .op (.mv (e 5)) fun t28 =>
  .op (.bin .lss t28 (.int .i64 6)) fun t29 =>
  .op (.mv t29) fun t30 =>
  .opg t30 false (.mv (e 0)) fun t31 =>
  .opg t30 false (.lenSl t31) fun t32 =>
  .opg t30 false (.mv (e 5)) fun t33 =>
  .opg t30 false (.bin .lss t32 t33) fun t34 =>
  .op (.pick t30 (.bool true) t34) fun t35 =>
  c12_r4_c1 e t35) h Q := Iff.rfl
def c12_r5 : Env → Reg := fun e =>
  .op (.build [(.int .i64 0), (.int .i64 0), (.int .i64 0), (.int .i64 0), (.int .i64 0), (.int .i64 0), (.int .i64 0), (.int .i64 0), (.int .i64 0), (.int .i64 0), (.slice none 0 0), (.int .i64 0)] []) fun t42 =>
  .op (.store 12 (e 2) t42) fun _ =>
  .op (.mv (.int .i64 0)) fun t3 =>
  .op (.mv (.bool false)) fun t4 =>
  .done ((e.upd 3 t3).upd 4 t4)
theorem c12_r5_run {CP : CProg} (e : Env) (h : Heap) (Q : Post) : RunR CP (c12_r5 e) h Q ↔ RunR CP (
  .op (.build [(.int .i64 0), (.int .i64 0), (.int .i64 0), (.int .i64 0), (.int .i64 0), (.int .i64 0), (.int .i64 0), (.int .i64 0), (.int .i64 0), (.int .i64 0), (.slice none 0 0), (.int .i64 0)] []) fun t42 =>
  .op (.store 12 (e 2) t42) fun _ =>
  .op (.mv (.int .i64 0)) fun t3 =>
  .op (.mv (.bool false)) fun t4 =>
  .done ((e.upd 3 t3).upd 4 t4)) h Q := Iff.rfl
def c12_r6 : Env → Reg := fun e =>
  .op (.mv (e 0)) fun t43 =>
  .op (.indexSl 1 t43 (.int .i64 4)) fun t44 =>
  .op (.load none t44) fun t45 =>
  .op (.bin .and t45 (.int .u8 127)) fun t46 =>
  .op (.conv .i64 t46) fun t47 =>
  .op (.build [(.int .i64 0), (.int .i64 0), (.int .i64 0), (.int .i64 0), (.int .i64 0), (.int .i64 0), (.int .i64 0), (.int .i64 0), (.int .i64 0), (.int .i64 0), (.slice none 0 0), (.int .i64 0)] [(0, 1, t47)]) fun t48 =>
  .op (.alloc 36 [(.int .i64 0), (.int .i64 0), (.int .i64 0), (.int .i64 0), (.int .i64 0), (.int .i64 0), (.int .i64 0), (.int .i64 0), (.int .i64 0), (.int .i64 0), (.slice none 0 0), (.int .i64 0)]) fun t6 =>
  .op (.store 12 t6 t48) fun _ =>
  .done (e.upd 6 t6)
theorem c12_r6_run {CP : CProg} (e : Env) (h : Heap) (Q : Post) : RunR CP (c12_r6 e) h Q ↔ RunR CP (
  .op (.mv (e 0)) fun t43 =>
  .op (.indexSl 1 t43 (.int .i64 4)) fun t44 =>
  .op (.load none t44) fun t45 =>
  .op (.bin .and t45 (.int .u8 127)) fun t46 =>
  .op (.conv .i64 t46) fun t47 =>
  .op (.build [(.int .i64 0), (.int .i64 0), (.int .i64 0), (.int .i64 0), (.int .i64 0), (.int .i64 0), (.int .i64 0), (.int .i64 0), (.int .i64 0), (.int .i64 0), (.slice none 0 0), (.int .i64 0)] [(0, 1, t47)]) fun t48 =>
  .op (.alloc 36 [(.int .i64 0), (.int .i64 0), (.int .i64 0), (.int .i64 0), (.int .i64 0), (.int .i64 0), (.int .i64 0), (.int .i64 0), (.int .i64 0), (.int .i64 0), (.slice none 0 0), (.int .i64 0)]) fun t6 =>
  .op (.store 12 t6 t48) fun _ =>
  .done (e.upd 6 t6)) h Q := Iff.rfl
def c12_r7 : Env → Reg := fun e =>
  .op (.mv (e 0)) fun t49 =>
  .op (.mv (e 5)) fun t50 =>
  .op (.slice 5 1 t49 (some (.int .i64 5)) (some t50)) fun t51 =>
  .op (.call 21 [(e 6), t51]) fun t52 =>
  .op (.un .not t52) fun t53 =>
  .done (e.upd 53 t53)
theorem c12_r7_run {CP : CProg} (e : Env) (h : Heap) (Q : Post) : RunR CP (c12_r7 e) h Q ↔ RunR CP (
  .op (.mv (e 0)) fun t49 =>
  .op (.mv (e 5)) fun t50 =>
  .op (.slice 5 1 t49 (some (.int .i64 5)) (some t50)) fun t51 =>
  .op (.call 21 [(e 6), t51]) fun t52 =>
  .op (.un .not t52) fun t53 =>
  .done (e.upd 53 t53)) h Q := Iff.rfl
def c12_r8 : Env → Reg := fun e =>
  .op (.build [(.int .i64 0), (.int .i64 0), (.int .i64 0), (.int .i64 0), (.int .i64 0), (.int .i64 0), (.int .i64 0), (.int .i64 0), (.int .i64 0), (.int .i64 0), (.slice none 0 0), (.int .i64 0)] []) fun t54 =>
  .op (.store 12 (e 2) t54) fun _ =>
  .op (.mv (.int .i64 0)) fun t3 =>
  .op (.mv (.bool false)) fun t4 =>
  .done ((e.upd 3 t3).upd 4 t4)
theorem c12_r8_run {CP : CProg} (e : Env) (h : Heap) (Q : Post) : RunR CP (c12_r8 e) h Q ↔ RunR CP (
  .op (.build [(.int .i64 0), (.int .i64 0), (.int .i64 0), (.int .i64 0), (.int .i64 0), (.int .i64 0), (.int .i64 0), (.int .i64 0), (.int .i64 0), (.int .i64 0), (.slice none 0 0), (.int .i64 0)] []) fun t54 =>
  .op (.store 12 (e 2) t54) fun _ =>
  .op (.mv (.int .i64 0)) fun t3 =>
  .op (.mv (.bool false)) fun t4 =>
  .done ((e.upd 3 t3).upd 4 t4)) h Q := Iff.rfl
def c12_r9 : Env → Reg := fun e =>
  .op (.load (some 12) (e 6)) fun t55 =>
  .op (.mv (e 5)) fun t56 =>
  .op (.store 12 (e 2) t55) fun _ =>
  .op (.mv t56) fun t3 =>
  .op (.mv (.bool true)) fun t4 =>
  .done ((e.upd 3 t3).upd 4 t4)
theorem c12_r9_run {CP : CProg} (e : Env) (h : Heap) (Q : Post) : RunR CP (c12_r9 e) h Q ↔ RunR CP (
  .op (.load (some 12) (e 6)) fun t55 =>
  .op (.mv (e 5)) fun t56 =>
  .op (.store 12 (e 2) t55) fun _ =>
  .op (.mv t56) fun t3 =>
  .op (.mv (.bool true)) fun t4 =>
  .done ((e.upd 3 t3).upd 4 t4)) h Q := Iff.rfl
def c12 : CFn := ⟨(.seq (.region c12_r0) (.seq (.seq (.region c12_r1) (.cond (fun e => e 21) (.seq (.region c12_r2) .ret) .skip)) (.seq (.region c12_r3) (.seq (.seq (.region c12_r4) (.cond (fun e => e 41) (.seq (.region c12_r5) .ret) .skip)) (.seq (.region c12_r6) (.seq (.seq (.region c12_r7) (.cond (fun e => e 53) (.seq (.region c12_r8) .ret) .skip)) (.seq (.region c12_r9) .ret))))))), [.c 2 (some 12), .t 3, .t 4]⟩
def p12 : Pers := ⟨7, [21, 41, 53], 57⟩
-- 13: weighbridge/frame.Answered
def c13_r0 : Env → Reg := fun e =>
  .op (.box 23 (e 1)) fun t3 =>
  .op (.mv (.slice none 0 0)) fun t4 =>
  .done ((e.upd 3 t3).upd 4 t4)
theorem c13_r0_run {CP : CProg} (e : Env) (h : Heap) (Q : Post) : RunR CP (c13_r0 e) h Q ↔ RunR CP (
  .op (.box 23 (e 1)) fun t3 =>
  .op (.mv (.slice none 0 0)) fun t4 =>
  .done ((e.upd 3 t3).upd 4 t4)) h Q := Iff.rfl
def c13_r1 : Env → Reg := fun e =>
  .op (.mv (e 0)) fun t6 =>
  .op (.bin .or t6 (.int .i64 128)) fun t7 =>
  .op (.conv .u8 t7) fun t8 =>
  .op (.fieldAddr 0 (e 3)) fun t9 =>
  .op (.load none t9) fun t10 =>
  .op (.conv .u8 t10) fun t11 =>
  .op (.buildSlice 5 2 [(.int .u8 0)] [(0, 1, t8), (1, 1, t11)]) fun t12 =>
  .op (.mv t12) fun t5 =>
  .done (e.upd 5 t5)
theorem c13_r1_run {CP : CProg} (e : Env) (h : Heap) (Q : Post) : RunR CP (c13_r1 e) h Q ↔ RunR CP (
  .op (.mv (e 0)) fun t6 =>
  .op (.bin .or t6 (.int .i64 128)) fun t7 =>
  .op (.conv .u8 t7) fun t8 =>
  .op (.fieldAddr 0 (e 3)) fun t9 =>
  .op (.load none t9) fun t10 =>
  .op (.conv .u8 t10) fun t11 =>
  .op (.buildSlice 5 2 [(.int .u8 0)] [(0, 1, t8), (1, 1, t11)]) fun t12 =>
  .op (.mv t12) fun t5 =>
  .done (e.upd 5 t5)) h Q := Iff.rfl
def c13_r2_c1 (e : Env) (h4 : Heap) (t17 : Value) (t18 : Value) (t19 : Value) : Reg :=
  .chk none (some h4) (.load none t18) t19 <|
  .op (.conv .u64 t19) fun t20 =>
  .snap fun h8 =>
  .op (.call 23 [t17, (.int .i64 8), t20]) fun t21 =>
  .snap fun h9 =>
  .op (.call 22 [(.int .u8 168), t21]) fun t22 =>
  .op (.mv t22) fun t4 =>
  .done (e.upd 4 t4)
theorem c13_r2_c1_run {CP : CProg} (e : Env) (h4 : Heap) (t17 : Value) (t18 : Value) (t19 : Value) (h : Heap) (Q : Post) : RunR CP (c13_r2_c1 e h4 t17 t18 t19) h Q ↔ RunR CP (
  .chk none (some h4) (.load none t18) t19 <|
  .op (.conv .u64 t19) fun t20 =>
  .snap fun h8 =>
  .op (.call 23 [t17, (.int .i64 8), t20]) fun t21 =>
  .snap fun h9 =>
  .op (.call 22 [(.int .u8 168), t21]) fun t22 =>
  .op (.mv t22) fun t4 =>
  .done (e.upd 4 t4)) h Q := Iff.rfl
def c13_r2 : Env → Reg := fun e =>
  .op (.mv (e 5)) fun t13 =>
  .op (.fieldAddr 1 (e 3)) fun t14 =>
  .op (.load none t14) fun t15 =>
  .op (.conv .u64 t15) fun t16 =>
  .snap fun h4 =>
  .op (.call 23 [t13, (.int .i64 8), t16]) fun t17 =>
  .op (.fieldAddr 2 (e 3)) fun t18 =>
  .op (.load none t18) fun t19 =>
  c13_r2_c1 e h4 t17 t18 t19
theorem c13_r2_run {CP : CProg} (e : Env) (h : Heap) (Q : Post) : RunR CP (c13_r2 e) h Q ↔ RunR CP (
  .op (.mv (e 5)) fun t13 =>
  .op (.fieldAddr 1 (e 3)) fun t14 =>
  .op (.load none t14) fun t15 =>
  .op (.conv .u64 t15) fun t16 =>
  .snap fun h4 =>
  .op (.call 23 [t13, (.int .i64 8), t16]) fun t17 =>
  .op (.fieldAddr 2 (e 3)) fun t18 =>
  .op (.load none t18) fun t19 =>
  c13_r2_c1 e h4 t17 t18 t19) h Q := Iff.rfl
def c13 : CFn := ⟨(.seq (.region c13_r0) (.seq (.region c13_r1) (.seq (.region c13_r2) .ret))), [.t 4]⟩
def p13 : Pers := ⟨6, [], 23⟩
-- 14: weighbridge/report.verdict
def c14_r0 : Env → Reg := fun e =>
  .op (.mv (.string ⟨#[]⟩)) fun t2 =>
  .done (e.upd 2 t2)
theorem c14_r0_run {CP : CProg} (e : Env) (h : Heap) (Q : Post) : RunR CP (c14_r0 e) h Q ↔ RunR CP (
  .op (.mv (.string ⟨#[]⟩)) fun t2 =>
  .done (e.upd 2 t2)) h Q := Iff.rfl
def c14_r1 : Env → Reg := fun e =>
  .op (.mv (.int .i64 0)) fun t3 =>
  .done (e.upd 3 t3)
theorem c14_r1_run {CP : CProg} (e : Env) (h : Heap) (Q : Post) : RunR CP (c14_r1 e) h Q ↔ RunR CP (
  .op (.mv (.int .i64 0)) fun t3 =>
  .done (e.upd 3 t3)) h Q := Iff.rfl
def c14_r2 : Env → Reg := fun e =>
  .op (.range (.string ⟨#[45, 32, 97, 108, 108, 111, 119, 32, 100, 101, 110, 121, 32, 99, 111, 115, 116, 32]⟩)) fun t6 =>
  .done (e.upd 6 t6)
theorem c14_r2_run {CP : CProg} (e : Env) (h : Heap) (Q : Post) : RunR CP (c14_r2 e) h Q ↔ RunR CP (
  .op (.range (.string ⟨#[45, 32, 97, 108, 108, 111, 119, 32, 100, 101, 110, 121, 32, 99, 111, 115, 116, 32]⟩)) fun t6 =>
  .done (e.upd 6 t6)) h Q := Iff.rfl
def c14_r3 : Env → Reg := fun e =>
  .op (.nextStr (e 6)) fun t7 =>
  .op (.extract t7 0) fun t8 =>
  .done ((e.upd 7 t7).upd 8 t8)
theorem c14_r3_run {CP : CProg} (e : Env) (h : Heap) (Q : Post) : RunR CP (c14_r3 e) h Q ↔ RunR CP (
  .op (.nextStr (e 6)) fun t7 =>
  .op (.extract t7 0) fun t8 =>
  .done ((e.upd 7 t7).upd 8 t8)) h Q := Iff.rfl
def c14_r4 : Env → Reg := fun e =>
  .op (.extract (e 7) 1) fun t9 =>
  .op (.extract (e 7) 2) fun t10 =>
  .op (.mv t9) fun t4 =>
  .op (.mv t10) fun t5 =>
  .done ((e.upd 4 t4).upd 5 t5)
theorem c14_r4_run {CP : CProg} (e : Env) (h : Heap) (Q : Post) : RunR CP (c14_r4 e) h Q ↔ RunR CP (
  .op (.extract (e 7) 1) fun t9 =>
  .op (.extract (e 7) 2) fun t10 =>
  .op (.mv t9) fun t4 =>
  .op (.mv t10) fun t5 =>
  .done ((e.upd 4 t4).upd 5 t5)) h Q := Iff.rfl
def c14_r5 : Env → Reg := fun e =>
  .op (.mv (e 5)) fun t11 =>
  .op (.bin .neq t11 (.int .i32 32)) fun t12 =>
  .done (e.upd 12 t12)
theorem c14_r5_run {CP : CProg} (e : Env) (h : Heap) (Q : Post) : RunR CP (c14_r5 e) h Q ↔ RunR CP (
  .op (.mv (e 5)) fun t11 =>
  .op (.bin .neq t11 (.int .i32 32)) fun t12 =>
  .done (e.upd 12 t12)) h Q := Iff.rfl
def c14_r6 : Env → Reg := fun e =>
  .op (.mv (e 0)) fun t13 =>
  .op (.bin .eql t13 (.int .i64 0)) fun t14 =>
  .done (e.upd 14 t14)
theorem c14_r6_run {CP : CProg} (e : Env) (h : Heap) (Q : Post) : RunR CP (c14_r6 e) h Q ↔ RunR CP (
  .op (.mv (e 0)) fun t13 =>
  .op (.bin .eql t13 (.int .i64 0)) fun t14 =>
  .done (e.upd 14 t14)) h Q := Iff.rfl
def c14_r7 : Env → Reg := fun e =>
  .op (.mv (e 3)) fun t15 =>
  .op (.mv (e 4)) fun t16 =>
  .op (.sliceStr (.string ⟨#[45, 32, 97, 108, 108, 111, 119, 32, 100, 101, 110, 121, 32, 99, 111, 115, 116, 32]⟩) (some t15) (some t16)) fun t17 =>
  .op (.mv t17) fun t2 =>
  .done (e.upd 2 t2)
theorem c14_r7_run {CP : CProg} (e : Env) (h : Heap) (Q : Post) : RunR CP (c14_r7 e) h Q ↔ RunR CP (
  .op (.mv (e 3)) fun t15 =>
  .op (.mv (e 4)) fun t16 =>
  .op (.sliceStr (.string ⟨#[45, 32, 97, 108, 108, 111, 119, 32, 100, 101, 110, 121, 32, 99, 111, 115, 116, 32]⟩) (some t15) (some t16)) fun t17 =>
  .op (.mv t17) fun t2 =>
  .done (e.upd 2 t2)) h Q := Iff.rfl
def c14_r8 : Env → Reg := fun e =>
  .op (.mv (e 4)) fun t18 =>
  .op (.bin .add t18 (.int .i64 1)) fun t19 =>
  .op (.mv t19) fun t3 =>
  .done (e.upd 3 t3)
theorem c14_r8_run {CP : CProg} (e : Env) (h : Heap) (Q : Post) : RunR CP (c14_r8 e) h Q ↔ RunR CP (
  .op (.mv (e 4)) fun t18 =>
  .op (.bin .add t18 (.int .i64 1)) fun t19 =>
  .op (.mv t19) fun t3 =>
  .done (e.upd 3 t3)) h Q := Iff.rfl
def c14_r9 : Env → Reg := fun e =>
  .op (.mv (e 0)) fun t20 =>
  .op (.bin .sub t20 (.int .i64 1)) fun t21 =>
  .op (.mv t21) fun t0 =>
  .done (e.upd 0 t0)
theorem c14_r9_run {CP : CProg} (e : Env) (h : Heap) (Q : Post) : RunR CP (c14_r9 e) h Q ↔ RunR CP (
  .op (.mv (e 0)) fun t20 =>
  .op (.bin .sub t20 (.int .i64 1)) fun t21 =>
  .op (.mv t21) fun t0 =>
  .done (e.upd 0 t0)) h Q := Iff.rfl
def c14_l0 : CC := (.seq (.region c14_r3) (.seq (.cond (fun e => e 8) .skip (.exit 0)) (.block 1 (.seq (.region c14_r4) (.seq (.seq (.region c14_r5) (.cond (fun e => e 12) (.exit 1) .skip)) (.seq (.seq (.region c14_r6) (.cond (fun e => e 14) (.seq (.region c14_r7) .ret) .skip)) (.seq (.region c14_r8) (.region c14_r9))))))))
def c14_r10 : Env → Reg := fun e =>
  .op (.mv (.string ⟨#[]⟩)) fun t2 =>
  .done (e.upd 2 t2)
theorem c14_r10_run {CP : CProg} (e : Env) (h : Heap) (Q : Post) : RunR CP (c14_r10 e) h Q ↔ RunR CP (
  .op (.mv (.string ⟨#[]⟩)) fun t2 =>
  .done (e.upd 2 t2)) h Q := Iff.rfl
def c14 : CFn := ⟨(.seq (.region c14_r0) (.seq (.region c14_r1) (.seq (.seq (.region c14_r2) (.block 0 (.loop c14_l0))) (.seq (.region c14_r10) .ret)))), [.t 2]⟩
def p14 : Pers := ⟨6, [6, 7, 8, 12, 14], 22⟩
-- 15: weighbridge/report.nums
def c15_r0 : Env → Reg := fun e =>
  .op (.mv (.string ⟨#[]⟩)) fun t2 =>
  .done (e.upd 2 t2)
theorem c15_r0_run {CP : CProg} (e : Env) (h : Heap) (Q : Post) : RunR CP (c15_r0 e) h Q ↔ RunR CP (
  .op (.mv (.string ⟨#[]⟩)) fun t2 =>
  .done (e.upd 2 t2)) h Q := Iff.rfl
def c15_r1 : Env → Reg := fun e =>
  .op (.alloc 52 [(.pointer none), (.slice none 0 0)]) fun t3 =>
  .done (e.upd 3 t3)
theorem c15_r1_run {CP : CProg} (e : Env) (h : Heap) (Q : Post) : RunR CP (c15_r1 e) h Q ↔ RunR CP (
  .op (.alloc 52 [(.pointer none), (.slice none 0 0)]) fun t3 =>
  .done (e.upd 3 t3)) h Q := Iff.rfl
def c15_r2 : Env → Reg := fun e =>
  .op (.mv (e 0)) fun t6 =>
  .op (.lenSl t6) fun t7 =>
  .op (.mv (.int .i64 0)) fun t8 =>
  .done (((e.upd 6 t6).upd 7 t7).upd 8 t8)
theorem c15_r2_run {CP : CProg} (e : Env) (h : Heap) (Q : Post) : RunR CP (c15_r2 e) h Q ↔ RunR CP (
  .op (.mv (e 0)) fun t6 =>
  .op (.lenSl t6) fun t7 =>
  .op (.mv (.int .i64 0)) fun t8 =>
  .done (((e.upd 6 t6).upd 7 t7).upd 8 t8)) h Q := Iff.rfl
def c15_r3 : Env → Reg := fun e =>
  .op (.bin .lss (e 8) (e 7)) fun t9 =>
  .done (e.upd 9 t9)
theorem c15_r3_run {CP : CProg} (e : Env) (h : Heap) (Q : Post) : RunR CP (c15_r3 e) h Q ↔ RunR CP (
  .op (.bin .lss (e 8) (e 7)) fun t9 =>
  .done (e.upd 9 t9)) h Q := Iff.rfl
def c15_r4 : Env → Reg := fun e =>
  .op (.indexSl 1 (e 6) (e 8)) fun t10 =>
  .op (.load none t10) fun t11 =>
  .op (.mv t11) fun t5 =>
  .done (e.upd 5 t5)
theorem c15_r4_run {CP : CProg} (e : Env) (h : Heap) (Q : Post) : RunR CP (c15_r4 e) h Q ↔ RunR CP (
  .op (.indexSl 1 (e 6) (e 8)) fun t10 =>
  .op (.load none t10) fun t11 =>
  .op (.mv t11) fun t5 =>
  .done (e.upd 5 t5)) h Q := Iff.rfl
def c15_r5 : Env → Reg := fun e =>
  .op (.mv (e 5)) fun t12 =>
  .op (.call 24 [t12, (.int .i64 10)]) fun t13 =>
  .op (.bin .add (.string ⟨#[32]⟩) t13) fun t14 =>
  .op (.call 18 [(e 3), t14]) fun t15 =>
  .done e
theorem c15_r5_run {CP : CProg} (e : Env) (h : Heap) (Q : Post) : RunR CP (c15_r5 e) h Q ↔ RunR CP (
  .op (.mv (e 5)) fun t12 =>
  .op (.call 24 [t12, (.int .i64 10)]) fun t13 =>
  .op (.bin .add (.string ⟨#[32]⟩) t13) fun t14 =>
  .op (.call 18 [(e 3), t14]) fun t15 =>
  .done e) h Q := Iff.rfl
def c15_r6 : Env → Reg := fun e =>
  .op (.bin .add (e 8) (.int .i64 1)) fun t16 =>
  .op (.mv t16) fun t8 =>
  .done (e.upd 8 t8)
theorem c15_r6_run {CP : CProg} (e : Env) (h : Heap) (Q : Post) : RunR CP (c15_r6 e) h Q ↔ RunR CP (
  .op (.bin .add (e 8) (.int .i64 1)) fun t16 =>
  .op (.mv t16) fun t8 =>
  .done (e.upd 8 t8)) h Q := Iff.rfl
def c15_l0 : CC := (.seq (.region c15_r3) (.seq (.cond (fun e => e 9) .skip (.exit 0)) (.seq (.block 1 (.seq (.region c15_r4) (.region c15_r5))) (.region c15_r6))))
def c15_r7 : Env → Reg := fun e =>
  .op (.call 17 [(e 3)]) fun t17 =>
  .op (.mv t17) fun t2 =>
  .done (e.upd 2 t2)
theorem c15_r7_run {CP : CProg} (e : Env) (h : Heap) (Q : Post) : RunR CP (c15_r7 e) h Q ↔ RunR CP (
  .op (.call 17 [(e 3)]) fun t17 =>
  .op (.mv t17) fun t2 =>
  .done (e.upd 2 t2)) h Q := Iff.rfl
def c15 : CFn := ⟨(.seq (.region c15_r0) (.seq (.region c15_r1) (.seq (.seq (.region c15_r2) (.block 0 (.loop c15_l0))) (.seq (.region c15_r7) .ret)))), [.t 2]⟩
def p15 : Pers := ⟨6, [6, 7, 8, 9], 18⟩
-- 16: weighbridge/report.key
def c16_r0 : Env → Reg := fun e =>
  .op (.mv (.string ⟨#[]⟩)) fun t2 =>
  .done (e.upd 2 t2)
theorem c16_r0_run {CP : CProg} (e : Env) (h : Heap) (Q : Post) : RunR CP (c16_r0 e) h Q ↔ RunR CP (
  .op (.mv (.string ⟨#[]⟩)) fun t2 =>
  .done (e.upd 2 t2)) h Q := Iff.rfl
def c16_r1 : Env → Reg := fun e =>
  .op (.mv (e 0)) fun t5 =>
  .op (.bin .eql t5 (.string ⟨#[]⟩)) fun t6 =>
  .done (e.upd 6 t6)
theorem c16_r1_run {CP : CProg} (e : Env) (h : Heap) (Q : Post) : RunR CP (c16_r1 e) h Q ↔ RunR CP (
  .op (.mv (e 0)) fun t5 =>
  .op (.bin .eql t5 (.string ⟨#[]⟩)) fun t6 =>
  .done (e.upd 6 t6)) h Q := Iff.rfl
def c16_r2 : Env → Reg := fun e =>
  .op (.mv (.string ⟨#[45]⟩)) fun t2 =>
  .done (e.upd 2 t2)
theorem c16_r2_run {CP : CProg} (e : Env) (h : Heap) (Q : Post) : RunR CP (c16_r2 e) h Q ↔ RunR CP (
  .op (.mv (.string ⟨#[45]⟩)) fun t2 =>
  .done (e.upd 2 t2)) h Q := Iff.rfl
def c16_r3 : Env → Reg := fun e =>
  .op (.alloc 52 [(.pointer none), (.slice none 0 0)]) fun t3 =>
  .done (e.upd 3 t3)
theorem c16_r3_run {CP : CProg} (e : Env) (h : Heap) (Q : Post) : RunR CP (c16_r3 e) h Q ↔ RunR CP (
  .op (.alloc 52 [(.pointer none), (.slice none 0 0)]) fun t3 =>
  .done (e.upd 3 t3)) h Q := Iff.rfl
def c16_r4 : Env → Reg := fun e =>
  .op (.mv (e 0)) fun t7 =>
  .op (.lenStr t7) fun t8 =>
  .op (.mv (.int .i64 0)) fun t9 =>
  .done ((e.upd 8 t8).upd 9 t9)
theorem c16_r4_run {CP : CProg} (e : Env) (h : Heap) (Q : Post) : RunR CP (c16_r4 e) h Q ↔ RunR CP (
  .op (.mv (e 0)) fun t7 =>
  .op (.lenStr t7) fun t8 =>
  .op (.mv (.int .i64 0)) fun t9 =>
  .done ((e.upd 8 t8).upd 9 t9)) h Q := Iff.rfl
def c16_r5 : Env → Reg := fun e =>
  .op (.bin .lss (e 9) (e 8)) fun t10 =>
  .done (e.upd 10 t10)
theorem c16_r5_run {CP : CProg} (e : Env) (h : Heap) (Q : Post) : RunR CP (c16_r5 e) h Q ↔ RunR CP (
  .op (.bin .lss (e 9) (e 8)) fun t10 =>
  .done (e.upd 10 t10)) h Q := Iff.rfl
def c16_r6 : Env → Reg := fun e =>
  .op (.mv (e 9)) fun t11 =>
  .op (.mv t11) fun t4 =>
  .done (e.upd 4 t4)
theorem c16_r6_run {CP : CProg} (e : Env) (h : Heap) (Q : Post) : RunR CP (c16_r6 e) h Q ↔ RunR CP (
  .op (.mv (e 9)) fun t11 =>
  .op (.mv t11) fun t4 =>
  .done (e.upd 4 t4)) h Q := Iff.rfl
def c16_r7 : Env → Reg := fun e =>
  .op (.mv (e 0)) fun t12 =>
  .op (.mv (e 4)) fun t13 =>
  .op (.indexStr t12 t13) fun t14 =>
  .op (.bin .shr t14 (.int .u64 4)) fun t15 =>
  .op (.indexStr (.string ⟨#[48, 49, 50, 51, 52, 53, 54, 55, 56, 57, 97, 98, 99, 100, 101, 102]⟩) t15) fun t16 =>
  .op (.call 19 [(e 3), t16]) fun t17 =>
  .done e
theorem c16_r7_run {CP : CProg} (e : Env) (h : Heap) (Q : Post) : RunR CP (c16_r7 e) h Q ↔ RunR CP (
  .op (.mv (e 0)) fun t12 =>
  .op (.mv (e 4)) fun t13 =>
  .op (.indexStr t12 t13) fun t14 =>
  .op (.bin .shr t14 (.int .u64 4)) fun t15 =>
  .op (.indexStr (.string ⟨#[48, 49, 50, 51, 52, 53, 54, 55, 56, 57, 97, 98, 99, 100, 101, 102]⟩) t15) fun t16 =>
  .op (.call 19 [(e 3), t16]) fun t17 =>
  .done e) h Q := Iff.rfl
def c16_r8 : Env → Reg := fun e =>
  .op (.mv (e 0)) fun t18 =>
  .op (.mv (e 4)) fun t19 =>
  .op (.indexStr t18 t19) fun t20 =>
  .op (.bin .and t20 (.int .u8 15)) fun t21 =>
  .op (.indexStr (.string ⟨#[48, 49, 50, 51, 52, 53, 54, 55, 56, 57, 97, 98, 99, 100, 101, 102]⟩) t21) fun t22 =>
  .op (.call 19 [(e 3), t22]) fun t23 =>
  .done e
theorem c16_r8_run {CP : CProg} (e : Env) (h : Heap) (Q : Post) : RunR CP (c16_r8 e) h Q ↔ RunR CP (
  .op (.mv (e 0)) fun t18 =>
  .op (.mv (e 4)) fun t19 =>
  .op (.indexStr t18 t19) fun t20 =>
  .op (.bin .and t20 (.int .u8 15)) fun t21 =>
  .op (.indexStr (.string ⟨#[48, 49, 50, 51, 52, 53, 54, 55, 56, 57, 97, 98, 99, 100, 101, 102]⟩) t21) fun t22 =>
  .op (.call 19 [(e 3), t22]) fun t23 =>
  .done e) h Q := Iff.rfl
def c16_r9 : Env → Reg := fun e =>
  .op (.bin .add (e 9) (.int .i64 1)) fun t24 =>
  .op (.mv t24) fun t9 =>
  .done (e.upd 9 t9)
theorem c16_r9_run {CP : CProg} (e : Env) (h : Heap) (Q : Post) : RunR CP (c16_r9 e) h Q ↔ RunR CP (
  .op (.bin .add (e 9) (.int .i64 1)) fun t24 =>
  .op (.mv t24) fun t9 =>
  .done (e.upd 9 t9)) h Q := Iff.rfl
def c16_l0 : CC := (.seq (.region c16_r5) (.seq (.cond (fun e => e 10) .skip (.exit 0)) (.seq (.block 1 (.seq (.region c16_r6) (.seq (.region c16_r7) (.region c16_r8)))) (.region c16_r9))))
def c16_r10 : Env → Reg := fun e =>
  .op (.call 17 [(e 3)]) fun t25 =>
  .op (.mv t25) fun t2 =>
  .done (e.upd 2 t2)
theorem c16_r10_run {CP : CProg} (e : Env) (h : Heap) (Q : Post) : RunR CP (c16_r10 e) h Q ↔ RunR CP (
  .op (.call 17 [(e 3)]) fun t25 =>
  .op (.mv t25) fun t2 =>
  .done (e.upd 2 t2)) h Q := Iff.rfl
def c16 : CFn := ⟨(.seq (.region c16_r0) (.seq (.seq (.region c16_r1) (.cond (fun e => e 6) (.seq (.region c16_r2) .ret) .skip)) (.seq (.region c16_r3) (.seq (.seq (.region c16_r4) (.block 0 (.loop c16_l0))) (.seq (.region c16_r10) .ret))))), [.t 2]⟩
def p16 : Pers := ⟨5, [6, 8, 9, 10], 26⟩
-- 17: (*strings.Builder).String
def c17_r0 : Env → Reg := fun e =>
  .op (.mv (.string ⟨#[]⟩)) fun t2 =>
  .done (e.upd 2 t2)
theorem c17_r0_run {CP : CProg} (e : Env) (h : Heap) (Q : Post) : RunR CP (c17_r0 e) h Q ↔ RunR CP (
  .op (.mv (.string ⟨#[]⟩)) fun t2 =>
  .done (e.upd 2 t2)) h Q := Iff.rfl
def c17_r1_c1 (e : Env) (t7 : Value) (t10 : Value) : Reg :=
  .op (.load none t10) fun t11 =>
  .op (.lenSl t11) fun t12 =>
  .snap fun h10 =>
  .op (.unsafeStr 5 t7 t12) fun t13 =>
  .op (.mv t13) fun t2 =>
  .done (e.upd 2 t2)
theorem c17_r1_c1_run {CP : CProg} (e : Env) (t7 : Value) (t10 : Value) (h : Heap) (Q : Post) : RunR CP (c17_r1_c1 e t7 t10) h Q ↔ RunR CP (
  .op (.load none t10) fun t11 =>
  .op (.lenSl t11) fun t12 =>
  .snap fun h10 =>
  .op (.unsafeStr 5 t7 t12) fun t13 =>
  .op (.mv t13) fun t2 =>
  .done (e.upd 2 t2)) h Q := Iff.rfl
def c17_r1 : Env → Reg := fun e =>
  .op (.mv (e 0)) fun t3 =>
  .op (.nilCheck t3) fun t4 =>
  .op (.fieldAddr 1 t4) fun t5 =>
  .op (.load none t5) fun t6 =>
  .op (.sliceData t6) fun t7 =>
  .op (.mv (e 0)) fun t8 =>
  .op (.nilCheck t8) fun t9 =>
  .op (.fieldAddr 1 t9) fun t10 =>
  c17_r1_c1 e t7 t10
theorem c17_r1_run {CP : CProg} (e : Env) (h : Heap) (Q : Post) : RunR CP (c17_r1 e) h Q ↔ RunR CP (
  .op (.mv (e 0)) fun t3 =>
  .op (.nilCheck t3) fun t4 =>
  .op (.fieldAddr 1 t4) fun t5 =>
  .op (.load none t5) fun t6 =>
  .op (.sliceData t6) fun t7 =>
  .op (.mv (e 0)) fun t8 =>
  .op (.nilCheck t8) fun t9 =>
  .op (.fieldAddr 1 t9) fun t10 =>
  c17_r1_c1 e t7 t10) h Q := Iff.rfl
def c17 : CFn := ⟨(.seq (.region c17_r0) (.seq (.region c17_r1) .ret)), [.t 2]⟩
def p17 : Pers := ⟨3, [], 14⟩
-- 18: (*strings.Builder).WriteString
def c18_r0 : Env → Reg := fun e =>
  .op (.mv (.int .i64 0)) fun t4 =>
  .op (.mv .nilIface) fun t5 =>
  .done ((e.upd 4 t4).upd 5 t5)
theorem c18_r0_run {CP : CProg} (e : Env) (h : Heap) (Q : Post) : RunR CP (c18_r0 e) h Q ↔ RunR CP (
  .op (.mv (.int .i64 0)) fun t4 =>
  .op (.mv .nilIface) fun t5 =>
  .done ((e.upd 4 t4).upd 5 t5)) h Q := Iff.rfl
def c18_r1 : Env → Reg := fun e =>
  .op (.mv (e 0)) fun t6 =>
  .op (.call 25 [t6]) fun t7 =>
  .done e
theorem c18_r1_run {CP : CProg} (e : Env) (h : Heap) (Q : Post) : RunR CP (c18_r1 e) h Q ↔ RunR CP (
  .op (.mv (e 0)) fun t6 =>
  .op (.call 25 [t6]) fun t7 =>
  .done e) h Q := Iff.rfl
def c18_r2 : Env → Reg := fun e =>
  .op (.mv (e 0)) fun t8 =>
  .op (.mv (e 0)) fun t9 =>
  .op (.nilCheck t9) fun t10 =>
  .op (.fieldAddr 1 t10) fun t11 =>
  .op (.load none t11) fun t12 =>
  .op (.mv (e 1)) fun t13 =>
  .op (.append 5 1 1 t12 t13) fun t14 =>
  .op (.nilCheck t8) fun t15 =>
  .op (.fieldAddr 1 t15) fun t16 =>
  .op (.store 1 t16 t14) fun _ =>
  .done e
theorem c18_r2_run {CP : CProg} (e : Env) (h : Heap) (Q : Post) : RunR CP (c18_r2 e) h Q ↔ RunR CP (
  .op (.mv (e 0)) fun t8 =>
  .op (.mv (e 0)) fun t9 =>
  .op (.nilCheck t9) fun t10 =>
  .op (.fieldAddr 1 t10) fun t11 =>
  .op (.load none t11) fun t12 =>
  .op (.mv (e 1)) fun t13 =>
  .op (.append 5 1 1 t12 t13) fun t14 =>
  .op (.nilCheck t8) fun t15 =>
  .op (.fieldAddr 1 t15) fun t16 =>
  .op (.store 1 t16 t14) fun _ =>
  .done e) h Q := Iff.rfl
def c18_r3 : Env → Reg := fun e =>
  .op (.mv (e 1)) fun t17 =>
  .op (.lenStr t17) fun t18 =>
  .op (.mv t18) fun t4 =>
  .op (.mv .nilIface) fun t5 =>
  .done ((e.upd 4 t4).upd 5 t5)
theorem c18_r3_run {CP : CProg} (e : Env) (h : Heap) (Q : Post) : RunR CP (c18_r3 e) h Q ↔ RunR CP (
  .op (.mv (e 1)) fun t17 =>
  .op (.lenStr t17) fun t18 =>
  .op (.mv t18) fun t4 =>
  .op (.mv .nilIface) fun t5 =>
  .done ((e.upd 4 t4).upd 5 t5)) h Q := Iff.rfl
def c18 : CFn := ⟨(.seq (.region c18_r0) (.seq (.region c18_r1) (.seq (.region c18_r2) (.seq (.region c18_r3) .ret)))), [.t 4, .t 5]⟩
def p18 : Pers := ⟨6, [], 19⟩
-- 19: (*strings.Builder).WriteByte
def c19_r0 : Env → Reg := fun e =>
  .op (.mv .nilIface) fun t4 =>
  .done (e.upd 4 t4)
theorem c19_r0_run {CP : CProg} (e : Env) (h : Heap) (Q : Post) : RunR CP (c19_r0 e) h Q ↔ RunR CP (
  .op (.mv .nilIface) fun t4 =>
  .done (e.upd 4 t4)) h Q := Iff.rfl
def c19_r1 : Env → Reg := fun e =>
  .op (.mv (e 0)) fun t5 =>
  .op (.call 25 [t5]) fun t6 =>
  .done e
theorem c19_r1_run {CP : CProg} (e : Env) (h : Heap) (Q : Post) : RunR CP (c19_r1 e) h Q ↔ RunR CP (
  .op (.mv (e 0)) fun t5 =>
  .op (.call 25 [t5]) fun t6 =>
  .done e) h Q := Iff.rfl
def c19_r2_c1 (e : Env) (t7 : Value) (t14 : Value) : Reg :=
  .op (.nilCheck t7) fun t15 =>
  .op (.fieldAddr 1 t15) fun t16 =>
  .op (.store 1 t16 t14) fun _ =>
  .done e
theorem c19_r2_c1_run {CP : CProg} (e : Env) (t7 : Value) (t14 : Value) (h : Heap) (Q : Post) : RunR CP (c19_r2_c1 e t7 t14) h Q ↔ RunR CP (
  .op (.nilCheck t7) fun t15 =>
  .op (.fieldAddr 1 t15) fun t16 =>
  .op (.store 1 t16 t14) fun _ =>
  .done e) h Q := Iff.rfl
def c19_r2 : Env → Reg := fun e =>
  .op (.mv (e 0)) fun t7 =>
  .op (.mv (e 0)) fun t8 =>
  .op (.nilCheck t8) fun t9 =>
  .op (.fieldAddr 1 t9) fun t10 =>
  .op (.load none t10) fun t11 =>
  .op (.mv (e 1)) fun t12 =>
  .op (.buildSlice 5 1 [(.int .u8 0)] [(0, 1, t12)]) fun t13 =>
  .op (.append 5 1 1 t11 t13) fun t14 =>
  c19_r2_c1 e t7 t14
theorem c19_r2_run {CP : CProg} (e : Env) (h : Heap) (Q : Post) : RunR CP (c19_r2 e) h Q ↔ RunR CP (
  .op (.mv (e 0)) fun t7 =>
  .op (.mv (e 0)) fun t8 =>
  .op (.nilCheck t8) fun t9 =>
  .op (.fieldAddr 1 t9) fun t10 =>
  .op (.load none t10) fun t11 =>
  .op (.mv (e 1)) fun t12 =>
  .op (.buildSlice 5 1 [(.int .u8 0)] [(0, 1, t12)]) fun t13 =>
  .op (.append 5 1 1 t11 t13) fun t14 =>
  c19_r2_c1 e t7 t14) h Q := Iff.rfl
def c19_r3 : Env → Reg := fun e =>
  .op (.mv .nilIface) fun t4 =>
  .done (e.upd 4 t4)
theorem c19_r3_run {CP : CProg} (e : Env) (h : Heap) (Q : Post) : RunR CP (c19_r3 e) h Q ↔ RunR CP (
  .op (.mv .nilIface) fun t4 =>
  .done (e.upd 4 t4)) h Q := Iff.rfl
def c19 : CFn := ⟨(.seq (.region c19_r0) (.seq (.region c19_r1) (.seq (.region c19_r2) (.seq (.region c19_r3) .ret)))), [.t 4]⟩
def p19 : Pers := ⟨5, [], 17⟩
-- 20: weighbridge/frame.num
def c20_r0 : Env → Reg := fun e =>
  .op (.mv (.int .u64 0)) fun t2 =>
  .done (e.upd 2 t2)
theorem c20_r0_run {CP : CProg} (e : Env) (h : Heap) (Q : Post) : RunR CP (c20_r0 e) h Q ↔ RunR CP (
  .op (.mv (.int .u64 0)) fun t2 =>
  .done (e.upd 2 t2)) h Q := Iff.rfl
def c20_r1 : Env → Reg := fun e =>
  .op (.mv (.int .u64 0)) fun t3 =>
  .done (e.upd 3 t3)
theorem c20_r1_run {CP : CProg} (e : Env) (h : Heap) (Q : Post) : RunR CP (c20_r1 e) h Q ↔ RunR CP (
  .op (.mv (.int .u64 0)) fun t3 =>
  .done (e.upd 3 t3)) h Q := Iff.rfl
def c20_r2 : Env → Reg := fun e =>
  .op (.mv (e 0)) fun t6 =>
  .op (.lenSl t6) fun t7 =>
  .op (.mv (.int .i64 0)) fun t8 =>
  .done (((e.upd 6 t6).upd 7 t7).upd 8 t8)
theorem c20_r2_run {CP : CProg} (e : Env) (h : Heap) (Q : Post) : RunR CP (c20_r2 e) h Q ↔ RunR CP (
  .op (.mv (e 0)) fun t6 =>
  .op (.lenSl t6) fun t7 =>
  .op (.mv (.int .i64 0)) fun t8 =>
  .done (((e.upd 6 t6).upd 7 t7).upd 8 t8)) h Q := Iff.rfl
def c20_r3 : Env → Reg := fun e =>
  .op (.bin .lss (e 8) (e 7)) fun t9 =>
  .done (e.upd 9 t9)
theorem c20_r3_run {CP : CProg} (e : Env) (h : Heap) (Q : Post) : RunR CP (c20_r3 e) h Q ↔ RunR CP (
  .op (.bin .lss (e 8) (e 7)) fun t9 =>
  .done (e.upd 9 t9)) h Q := Iff.rfl
def c20_r4 : Env → Reg := fun e =>
  .op (.indexSl 1 (e 6) (e 8)) fun t10 =>
  .op (.load none t10) fun t11 =>
  .op (.mv t11) fun t5 =>
  .done (e.upd 5 t5)
theorem c20_r4_run {CP : CProg} (e : Env) (h : Heap) (Q : Post) : RunR CP (c20_r4 e) h Q ↔ RunR CP (
  .op (.indexSl 1 (e 6) (e 8)) fun t10 =>
  .op (.load none t10) fun t11 =>
  .op (.mv t11) fun t5 =>
  .done (e.upd 5 t5)) h Q := Iff.rfl
def c20_r5 : Env → Reg := fun e =>
  .op (.mv (e 3)) fun t12 =>
  .op (.bin .shl t12 (.int .u64 8)) fun t13 =>
  .op (.mv (e 5)) fun t14 =>
  .op (.conv .u64 t14) fun t15 =>
  .op (.bin .or t13 t15) fun t16 =>
  .op (.mv t16) fun t3 =>
  .done (e.upd 3 t3)
theorem c20_r5_run {CP : CProg} (e : Env) (h : Heap) (Q : Post) : RunR CP (c20_r5 e) h Q ↔ RunR CP (
  .op (.mv (e 3)) fun t12 =>
  .op (.bin .shl t12 (.int .u64 8)) fun t13 =>
  .op (.mv (e 5)) fun t14 =>
  .op (.conv .u64 t14) fun t15 =>
  .op (.bin .or t13 t15) fun t16 =>
  .op (.mv t16) fun t3 =>
  .done (e.upd 3 t3)) h Q := Iff.rfl
def c20_r6 : Env → Reg := fun e =>
  .op (.bin .add (e 8) (.int .i64 1)) fun t17 =>
  .op (.mv t17) fun t8 =>
  .done (e.upd 8 t8)
theorem c20_r6_run {CP : CProg} (e : Env) (h : Heap) (Q : Post) : RunR CP (c20_r6 e) h Q ↔ RunR CP (
  .op (.bin .add (e 8) (.int .i64 1)) fun t17 =>
  .op (.mv t17) fun t8 =>
  .done (e.upd 8 t8)) h Q := Iff.rfl
def c20_l0 : CC := (.seq (.region c20_r3) (.seq (.cond (fun e => e 9) .skip (.exit 0)) (.seq (.block 1 (.seq (.region c20_r4) (.region c20_r5))) (.region c20_r6))))
def c20_r7 : Env → Reg := fun e =>
  .op (.mv (e 3)) fun t18 =>
  .op (.mv t18) fun t2 =>
  .done (e.upd 2 t2)
theorem c20_r7_run {CP : CProg} (e : Env) (h : Heap) (Q : Post) : RunR CP (c20_r7 e) h Q ↔ RunR CP (
  .op (.mv (e 3)) fun t18 =>
  .op (.mv t18) fun t2 =>
  .done (e.upd 2 t2)) h Q := Iff.rfl
def c20 : CFn := ⟨(.seq (.region c20_r0) (.seq (.region c20_r1) (.seq (.seq (.region c20_r2) (.block 0 (.loop c20_l0))) (.seq (.region c20_r7) .ret)))), [.t 2]⟩
def p20 : Pers := ⟨6, [6, 7, 8, 9], 19⟩
-- 21: (*weighbridge/frame.Said).read
def c21_r0 : Env → Reg := fun e =>
  .op (.box 38 (e 1)) fun t3 =>
  .op (.mv (.bool false)) fun t4 =>
  .done ((e.upd 3 t3).upd 4 t4)
theorem c21_r0_run {CP : CProg} (e : Env) (h : Heap) (Q : Post) : RunR CP (c21_r0 e) h Q ↔ RunR CP (
  .op (.box 38 (e 1)) fun t3 =>
  .op (.mv (.bool false)) fun t4 =>
  .done ((e.upd 3 t3).upd 4 t4)) h Q := Iff.rfl
def c21_r2_c3 (e : Env) (t30 : Value) : Reg :=
  .opg t30 true (.load none (e 3)) fun t31 =>
  .opg t30 true (.indexSl 1 t31 (.int .i64 0)) fun t32 =>
  .opg t30 true (.load none t32) fun t33 =>
  .opg t30 true (.bin .leq t33 (.int .u8 3)) fun t34 =>
  .op (.pick t30 t34 (.bool false)) fun t35 =>
  .op (.mv t35) fun t6 =>
  .done (e.upd 6 t6)
theorem c21_r2_c3_run {CP : CProg} (e : Env) (t30 : Value) (h : Heap) (Q : Post) : RunR CP (c21_r2_c3 e t30) h Q ↔ RunR CP (
  .opg t30 true (.load none (e 3)) fun t31 =>
  .opg t30 true (.indexSl 1 t31 (.int .i64 0)) fun t32 =>
  .opg t30 true (.load none t32) fun t33 =>
  .opg t30 true (.bin .leq t33 (.int .u8 3)) fun t34 =>
  .op (.pick t30 t34 (.bool false)) fun t35 =>
  .op (.mv t35) fun t6 =>
  .done (e.upd 6 t6)) h Q := Iff.rfl
def c21_r2_c2 (e : Env) (t19 : Value) (t22 : Value) : Reg :=
  .op (.pick t19 t22 (.bool false)) fun t23 =>
  .op (.mv t23) fun t24 =>
  .opg t24 true (.load none (e 3)) fun t25 =>
  .opg t24 true (.indexSl 1 t25 (.int .i64 0)) fun t26 =>
  .opg t24 true (.load none t26) fun t27 =>
  .opg t24 true (.bin .geq t27 (.int .u8 1)) fun t28 =>
  .op (.pick t24 t28 (.bool false)) fun t29 =>
  .op (.mv t29) fun t30 =>
  c21_r2_c3 e t30
theorem c21_r2_c2_run {CP : CProg} (e : Env) (t19 : Value) (t22 : Value) (h : Heap) (Q : Post) : RunR CP (c21_r2_c2 e t19 t22) h Q ↔ RunR CP (
  .op (.pick t19 t22 (.bool false)) fun t23 =>
  .op (.mv t23) fun t24 =>
  .opg t24 true (.load none (e 3)) fun t25 =>
  .opg t24 true (.indexSl 1 t25 (.int .i64 0)) fun t26 =>
  .opg t24 true (.load none t26) fun t27 =>
  .opg t24 true (.bin .geq t27 (.int .u8 1)) fun t28 =>
  .op (.pick t24 t28 (.bool false)) fun t29 =>
  .op (.mv t29) fun t30 =>
  c21_r2_c3 e t30) h Q := Iff.rfl
def c21_r2_c1 (e : Env) (t12 : Value) (t14 : Value) : Reg :=
  .opg t12 false (.fieldAddr 0 t14) fun t15 =>
  .opg t12 false (.load none t15) fun t16 =>
  .opg t12 false (.bin .eql t16 (.int .i64 2)) fun t17 =>
  .op (.pick t12 (.bool true) t17) fun t18 =>
  .op (.mv t18) fun t19 =>
  .opg t19 true (.load none (e 3)) fun t20 =>
  .opg t19 true (.lenSl t20) fun t21 =>
  .opg t19 true (.bin .eql t21 (.int .i64 17)) fun t22 =>
  c21_r2_c2 e t19 t22
theorem c21_r2_c1_run {CP : CProg} (e : Env) (t12 : Value) (t14 : Value) (h : Heap) (Q : Post) : RunR CP (c21_r2_c1 e t12 t14) h Q ↔ RunR CP (
  .opg t12 false (.fieldAddr 0 t14) fun t15 =>
  .opg t12 false (.load none t15) fun t16 =>
  .opg t12 false (.bin .eql t16 (.int .i64 2)) fun t17 =>
  .op (.pick t12 (.bool true) t17) fun t18 =>
  .op (.mv t18) fun t19 =>
  .opg t19 true (.load none (e 3)) fun t20 =>
  .opg t19 true (.lenSl t20) fun t21 =>
  .opg t19 true (.bin .eql t21 (.int .i64 17)) fun t22 =>
  c21_r2_c2 e t19 t22) h Q := Iff.rfl
def c21_r2 : Env → Reg := fun e =>
  .op (.mv (e 0)) fun t7 =>
  .op (.nilCheck t7) fun t8 =>
  .op (.fieldAddr 0 t8) fun t9 =>
  .op (.load none t9) fun t10 =>
  .op (.bin .eql t10 (.int .i64 1)) fun t11 =>
  .op (.mv t11) fun t12 =>
  .opg t12 false (.mv (e 0)) fun t13 =>
  .opg t12 false (.nilCheck t13) fun t14 =>
  c21_r2_c1 e t12 t14
theorem c21_r2_run {CP : CProg} (e : Env) (h : Heap) (Q : Post) : RunR CP (c21_r2 e) h Q ↔ RunR CP (
  .op (.mv (e 0)) fun t7 =>
  .op (.nilCheck t7) fun t8 =>
  .op (.fieldAddr 0 t8) fun t9 =>
  .op (.load none t9) fun t10 =>
  .op (.bin .eql t10 (.int .i64 1)) fun t11 =>
  .op (.mv t11) fun t12 =>
  .opg t12 false (.mv (e 0)) fun t13 =>
  .opg t12 false (.nilCheck t13) fun t14 =>
  c21_r2_c1 e t12 t14) h Q := Iff.rfl
def c21_r3_c2 (e : Env) (t36 : Value) (t37 : Value) (t38 : Value) (t39 : Value) (t40 : Value) (t44 : Value) (t46 : Value) : Reg :=
  .snap fun h11 =>
  .op (.call 20 [t46]) fun t47 =>
  .chk none none (.load none t38) t39 <|
  .chk none none (.load none (e 3)) t37 <|
  .op (.conv .i64 t47) fun t48 =>
  .op (.build [(.int .i64 0), (.int .i64 0), (.int .i64 0)] [(0, 1, t40), (1, 1, t44), (2, 1, t48)]) fun t49 =>
  .op (.nilCheck t36) fun t50 =>
  .op (.fieldAddr 2 t50) fun t51 =>
  .snap fun h16 =>
  .op (.store 3 t51 t49) fun _ =>
  .done e
theorem c21_r3_c2_run {CP : CProg} (e : Env) (t36 : Value) (t37 : Value) (t38 : Value) (t39 : Value) (t40 : Value) (t44 : Value) (t46 : Value) (h : Heap) (Q : Post) : RunR CP (c21_r3_c2 e t36 t37 t38 t39 t40 t44 t46) h Q ↔ RunR CP (
  .snap fun h11 =>
  .op (.call 20 [t46]) fun t47 =>
  .chk none none (.load none t38) t39 <|
  .chk none none (.load none (e 3)) t37 <|
  .op (.conv .i64 t47) fun t48 =>
  .op (.build [(.int .i64 0), (.int .i64 0), (.int .i64 0)] [(0, 1, t40), (1, 1, t44), (2, 1, t48)]) fun t49 =>
  .op (.nilCheck t36) fun t50 =>
  .op (.fieldAddr 2 t50) fun t51 =>
  .snap fun h16 =>
  .op (.store 3 t51 t49) fun _ =>
  .done e) h Q := Iff.rfl
def c21_r3_c1 (e : Env) (t36 : Value) (t37 : Value) (t38 : Value) (t39 : Value) (t40 : Value) (t42 : Value) (h7 : Heap) : Reg :=
  .op (.call 20 [t42]) fun t43 =>
  .chk none none (.load none t38) t39 <|
  .chk none none (.load none (e 3)) t37 <|
  .op (.conv .i64 t43) fun t44 =>
  .op (.load none (e 3)) fun t45 =>
  .chk none (some h7) (.load none (e 3)) t45 <|
  .op (.slice 5 1 t45 (some (.int .i64 9)) none) fun t46 =>
  .chk none (some h7) (.slice 5 1 t45 (some (.int .i64 9)) none) t46 <|
  c21_r3_c2 e t36 t37 t38 t39 t40 t44 t46
theorem c21_r3_c1_run {CP : CProg} (e : Env) (t36 : Value) (t37 : Value) (t38 : Value) (t39 : Value) (t40 : Value) (t42 : Value) (h7 : Heap) (h : Heap) (Q : Post) : RunR CP (c21_r3_c1 e t36 t37 t38 t39 t40 t42 h7) h Q ↔ RunR CP (
  .op (.call 20 [t42]) fun t43 =>
  .chk none none (.load none t38) t39 <|
  .chk none none (.load none (e 3)) t37 <|
  .op (.conv .i64 t43) fun t44 =>
  .op (.load none (e 3)) fun t45 =>
  .chk none (some h7) (.load none (e 3)) t45 <|
  .op (.slice 5 1 t45 (some (.int .i64 9)) none) fun t46 =>
  .chk none (some h7) (.slice 5 1 t45 (some (.int .i64 9)) none) t46 <|
  c21_r3_c2 e t36 t37 t38 t39 t40 t44 t46) h Q := Iff.rfl
def c21_r3 : Env → Reg := fun e =>
  .op (.mv (e 0)) fun t36 =>
  .op (.load none (e 3)) fun t37 =>
  .op (.indexSl 1 t37 (.int .i64 0)) fun t38 =>
  .op (.load none t38) fun t39 =>
  .op (.conv .i64 t39) fun t40 =>
  .op (.load none (e 3)) fun t41 =>
  .op (.slice 5 1 t41 (some (.int .i64 1)) (some (.int .i64 9))) fun t42 =>
  .snap fun h7 =>
  c21_r3_c1 e t36 t37 t38 t39 t40 t42 h7
theorem c21_r3_run {CP : CProg} (e : Env) (h : Heap) (Q : Post) : RunR CP (c21_r3 e) h Q ↔ RunR CP (
  .op (.mv (e 0)) fun t36 =>
  .op (.load none (e 3)) fun t37 =>
  .op (.indexSl 1 t37 (.int .i64 0)) fun t38 =>
  .op (.load none t38) fun t39 =>
  .op (.conv .i64 t39) fun t40 =>
  .op (.load none (e 3)) fun t41 =>
  .op (.slice 5 1 t41 (some (.int .i64 1)) (some (.int .i64 9))) fun t42 =>
  .snap fun h7 =>
  c21_r3_c1 e t36 t37 t38 t39 t40 t42 h7) h Q := Iff.rfl
def c21_r4_c1 (e : Env) (t58 : Value) (t60 : Value) : Reg :=
  .opg t58 true (.bin .eql t60 (.int .i64 41)) fun t61 =>
  .op (.pick t58 t61 (.bool false)) fun t62 =>
  .op (.mv t62) fun t52 =>
  .done (e.upd 52 t52)
theorem c21_r4_c1_run {CP : CProg} (e : Env) (t58 : Value) (t60 : Value) (h : Heap) (Q : Post) : RunR CP (c21_r4_c1 e t58 t60) h Q ↔ RunR CP (
  .opg t58 true (.bin .eql t60 (.int .i64 41)) fun t61 =>
  .op (.pick t58 t61 (.bool false)) fun t62 =>
  .op (.mv t62) fun t52 =>
  .done (e.upd 52 t52)) h Q := Iff.rfl
def c21_r4 : Env → Reg := fun e =>
  .op (.mv (e 0)) fun t53 =>
  .op (.nilCheck t53) fun t54 =>
  .op (.fieldAddr 0 t54) fun t55 =>
  .op (.load none t55) fun t56 =>
  .op (.bin .eql t56 (.int .i64 3)) fun t57 =>
  .op (.mv t57) fun t58 =>
  .opg t58 true (.load none (e 3)) fun t59 =>
  .opg t58 true (.lenSl t59) fun t60 =>
  c21_r4_c1 e t58 t60
theorem c21_r4_run {CP : CProg} (e : Env) (h : Heap) (Q : Post) : RunR CP (c21_r4 e) h Q ↔ RunR CP (
  .op (.mv (e 0)) fun t53 =>
  .op (.nilCheck t53) fun t54 =>
  .op (.fieldAddr 0 t54) fun t55 =>
  .op (.load none t55) fun t56 =>
  .op (.bin .eql t56 (.int .i64 3)) fun t57 =>
  .op (.mv t57) fun t58 =>
  .opg t58 true (.load none (e 3)) fun t59 =>
  .opg t58 true (.lenSl t59) fun t60 =>
  c21_r4_c1 e t58 t60) h Q := Iff.rfl
def c21_r5 : Env → Reg := fun e =>
  .op (.mv (e 0)) fun t63 =>
  .op (.load none (e 3)) fun t64 =>
  .op (.indexSl 1 t64 (.int .i64 0)) fun t65 =>
  .op (.load none t65) fun t66 =>
  .op (.conv .i64 t66) fun t67 =>
  .op (.nilCheck t63) fun t68 =>
  .op (.fieldAddr 1 t68) fun t69 =>
  .op (.store 1 t69 t67) fun _ =>
  .done e
theorem c21_r5_run {CP : CProg} (e : Env) (h : Heap) (Q : Post) : RunR CP (c21_r5 e) h Q ↔ RunR CP (
  .op (.mv (e 0)) fun t63 =>
  .op (.load none (e 3)) fun t64 =>
  .op (.indexSl 1 t64 (.int .i64 0)) fun t65 =>
  .op (.load none t65) fun t66 =>
  .op (.conv .i64 t66) fun t67 =>
  .op (.nilCheck t63) fun t68 =>
  .op (.fieldAddr 1 t68) fun t69 =>
  .op (.store 1 t69 t67) fun _ =>
  .done e) h Q := Iff.rfl
def c21_r6 : Env → Reg := fun e =>
  .op (.makeFunc 26 [] [(e 3)]) fun t70 =>
  .op (.mv t70) fun t5 =>
  .done (e.upd 5 t5)
theorem c21_r6_run {CP : CProg} (e : Env) (h : Heap) (Q : Post) : RunR CP (c21_r6 e) h Q ↔ RunR CP (
  .op (.makeFunc 26 [] [(e 3)]) fun t70 =>
  .op (.mv t70) fun t5 =>
  .done (e.upd 5 t5)) h Q := Iff.rfl
def c21_r7_c1 (e : Env) (t71 : Value) (t73 : Value) (t75 : Value) (t77 : Value) (t78 : Value) : Reg :=
  .op (.callv t78 [(.int .i64 3)]) fun t79 =>
  .op (.mv (e 5)) fun t80 =>
  .op (.callv t80 [(.int .i64 4)]) fun t81 =>
  .op (.build [(.int .i64 0), (.int .i64 0), (.int .i64 0), (.int .i64 0), (.int .i64 0)] [(0, 1, t73), (1, 1, t75), (2, 1, t77), (3, 1, t79), (4, 1, t81)]) fun t82 =>
  .op (.nilCheck t71) fun t83 =>
  .op (.fieldAddr 5 t83) fun t84 =>
  .op (.store 5 t84 t82) fun _ =>
  .done e
theorem c21_r7_c1_run {CP : CProg} (e : Env) (t71 : Value) (t73 : Value) (t75 : Value) (t77 : Value) (t78 : Value) (h : Heap) (Q : Post) : RunR CP (c21_r7_c1 e t71 t73 t75 t77 t78) h Q ↔ RunR CP (
  .op (.callv t78 [(.int .i64 3)]) fun t79 =>
  .op (.mv (e 5)) fun t80 =>
  .op (.callv t80 [(.int .i64 4)]) fun t81 =>
  .op (.build [(.int .i64 0), (.int .i64 0), (.int .i64 0), (.int .i64 0), (.int .i64 0)] [(0, 1, t73), (1, 1, t75), (2, 1, t77), (3, 1, t79), (4, 1, t81)]) fun t82 =>
  .op (.nilCheck t71) fun t83 =>
  .op (.fieldAddr 5 t83) fun t84 =>
  .op (.store 5 t84 t82) fun _ =>
  .done e) h Q := Iff.rfl
def c21_r7 : Env → Reg := fun e =>
  .op (.mv (e 0)) fun t71 =>
  .op (.mv (e 5)) fun t72 =>
  .op (.callv t72 [(.int .i64 0)]) fun t73 =>
  .op (.mv (e 5)) fun t74 =>
  .op (.callv t74 [(.int .i64 1)]) fun t75 =>
  .op (.mv (e 5)) fun t76 =>
  .op (.callv t76 [(.int .i64 2)]) fun t77 =>
  .op (.mv (e 5)) fun t78 =>
  c21_r7_c1 e t71 t73 t75 t77 t78
theorem c21_r7_run {CP : CProg} (e : Env) (h : Heap) (Q : Post) : RunR CP (c21_r7 e) h Q ↔ RunR CP (
  .op (.mv (e 0)) fun t71 =>
  .op (.mv (e 5)) fun t72 =>
  .op (.callv t72 [(.int .i64 0)]) fun t73 =>
  .op (.mv (e 5)) fun t74 =>
  .op (.callv t74 [(.int .i64 1)]) fun t75 =>
  .op (.mv (e 5)) fun t76 =>
  .op (.callv t76 [(.int .i64 2)]) fun t77 =>
  .op (.mv (e 5)) fun t78 =>
  c21_r7_c1 e t71 t73 t75 t77 t78) h Q := Iff.rfl
def c21_r8_c1 (e : Env) (t91 : Value) (t93 : Value) : Reg :=
  .opg t91 true (.bin .geq t93 (.int .i64 2)) fun t94 =>
  .op (.pick t91 t94 (.bool false)) fun t95 =>
  .op (.mv t95) fun t85 =>
  .done (e.upd 85 t85)
theorem c21_r8_c1_run {CP : CProg} (e : Env) (t91 : Value) (t93 : Value) (h : Heap) (Q : Post) : RunR CP (c21_r8_c1 e t91 t93) h Q ↔ RunR CP (
  .opg t91 true (.bin .geq t93 (.int .i64 2)) fun t94 =>
  .op (.pick t91 t94 (.bool false)) fun t95 =>
  .op (.mv t95) fun t85 =>
  .done (e.upd 85 t85)) h Q := Iff.rfl
def c21_r8 : Env → Reg := fun e =>
  .op (.mv (e 0)) fun t86 =>
  .op (.nilCheck t86) fun t87 =>
  .op (.fieldAddr 0 t87) fun t88 =>
  .op (.load none t88) fun t89 =>
  .op (.bin .eql t89 (.int .i64 4)) fun t90 =>
  .op (.mv t90) fun t91 =>
  .opg t91 true (.load none (e 3)) fun t92 =>
  .opg t91 true (.lenSl t92) fun t93 =>
  c21_r8_c1 e t91 t93
theorem c21_r8_run {CP : CProg} (e : Env) (h : Heap) (Q : Post) : RunR CP (c21_r8 e) h Q ↔ RunR CP (
  .op (.mv (e 0)) fun t86 =>
  .op (.nilCheck t86) fun t87 =>
  .op (.fieldAddr 0 t87) fun t88 =>
  .op (.load none t88) fun t89 =>
  .op (.bin .eql t89 (.int .i64 4)) fun t90 =>
  .op (.mv t90) fun t91 =>
  .opg t91 true (.load none (e 3)) fun t92 =>
  .opg t91 true (.lenSl t92) fun t93 =>
  c21_r8_c1 e t91 t93) h Q := Iff.rfl
def c21_r9 : Env → Reg := fun e =>
  .op (.mv (e 0)) fun t96 =>
  .op (.load none (e 3)) fun t97 =>
  .op (.indexSl 1 t97 (.int .i64 0)) fun t98 =>
  .op (.load none t98) fun t99 =>
  .op (.conv .i64 t99) fun t100 =>
  .op (.nilCheck t96) fun t101 =>
  .op (.fieldAddr 1 t101) fun t102 =>
  .op (.store 1 t102 t100) fun _ =>
  .done e
theorem c21_r9_run {CP : CProg} (e : Env) (h : Heap) (Q : Post) : RunR CP (c21_r9 e) h Q ↔ RunR CP (
  .op (.mv (e 0)) fun t96 =>
  .op (.load none (e 3)) fun t97 =>
  .op (.indexSl 1 t97 (.int .i64 0)) fun t98 =>
  .op (.load none t98) fun t99 =>
  .op (.conv .i64 t99) fun t100 =>
  .op (.nilCheck t96) fun t101 =>
  .op (.fieldAddr 1 t101) fun t102 =>
  .op (.store 1 t102 t100) fun _ =>
  .done e) h Q := Iff.rfl
def c21_r10 : Env → Reg := fun e =>
  .op (.mv (e 0)) fun t103 =>
  .op (.load none (e 3)) fun t104 =>
  .op (.slice 5 1 t104 (some (.int .i64 2)) none) fun t105 =>
  .op (.load none (e 3)) fun t106 =>
  .op (.indexSl 1 t106 (.int .i64 1)) fun t107 =>
  .op (.load none t107) fun t108 =>
  .op (.conv .i64 t108) fun t109 =>
  .snap fun h7 =>
  .op (.call 27 [t103, t105, t109]) fun t110 =>
  .op (.mv t110) fun t4 =>
  .done (e.upd 4 t4)
theorem c21_r10_run {CP : CProg} (e : Env) (h : Heap) (Q : Post) : RunR CP (c21_r10 e) h Q ↔ RunR CP (
  .op (.mv (e 0)) fun t103 =>
  .op (.load none (e 3)) fun t104 =>
  .op (.slice 5 1 t104 (some (.int .i64 2)) none) fun t105 =>
  .op (.load none (e 3)) fun t106 =>
  .op (.indexSl 1 t106 (.int .i64 1)) fun t107 =>
  .op (.load none t107) fun t108 =>
  .op (.conv .i64 t108) fun t109 =>
  .snap fun h7 =>
  .op (.call 27 [t103, t105, t109]) fun t110 =>
  .op (.mv t110) fun t4 =>
  .done (e.upd 4 t4)) h Q := Iff.rfl
def c21_r11_c1 (e : Env) (t117 : Value) (t119 : Value) : Reg :=
  .opg t117 true (.bin .eql t119 (.int .i64 1)) fun t120 =>
  .op (.pick t117 t120 (.bool false)) fun t121 =>
  .op (.mv t121) fun t122 =>
  .opg t122 true (.load none (e 3)) fun t123 =>
  .opg t122 true (.indexSl 1 t123 (.int .i64 0)) fun t124 =>
  .opg t122 true (.load none t124) fun t125 =>
  .opg t122 true (.bin .gtr t125 (.int .u8 0)) fun t126 =>
  .op (.pick t122 t126 (.bool false)) fun t127 =>
  .op (.mv t127) fun t111 =>
  .done (e.upd 111 t111)
theorem c21_r11_c1_run {CP : CProg} (e : Env) (t117 : Value) (t119 : Value) (h : Heap) (Q : Post) : RunR CP (c21_r11_c1 e t117 t119) h Q ↔ RunR CP (
  .opg t117 true (.bin .eql t119 (.int .i64 1)) fun t120 =>
  .op (.pick t117 t120 (.bool false)) fun t121 =>
  .op (.mv t121) fun t122 =>
  .opg t122 true (.load none (e 3)) fun t123 =>
  .opg t122 true (.indexSl 1 t123 (.int .i64 0)) fun t124 =>
  .opg t122 true (.load none t124) fun t125 =>
  .opg t122 true (.bin .gtr t125 (.int .u8 0)) fun t126 =>
  .op (.pick t122 t126 (.bool false)) fun t127 =>
  .op (.mv t127) fun t111 =>
  .done (e.upd 111 t111)) h Q := Iff.rfl
def c21_r11 : Env → Reg := fun e =>
  .op (.mv (e 0)) fun t112 =>
  .op (.nilCheck t112) fun t113 =>
  .op (.fieldAddr 0 t113) fun t114 =>
  .op (.load none t114) fun t115 =>
  .op (.bin .eql t115 (.int .i64 127)) fun t116 =>
  .op (.mv t116) fun t117 =>
  .opg t117 true (.load none (e 3)) fun t118 =>
  .opg t117 true (.lenSl t118) fun t119 =>
  c21_r11_c1 e t117 t119
theorem c21_r11_run {CP : CProg} (e : Env) (h : Heap) (Q : Post) : RunR CP (c21_r11 e) h Q ↔ RunR CP (
  .op (.mv (e 0)) fun t112 =>
  .op (.nilCheck t112) fun t113 =>
  .op (.fieldAddr 0 t113) fun t114 =>
  .op (.load none t114) fun t115 =>
  .op (.bin .eql t115 (.int .i64 127)) fun t116 =>
  .op (.mv t116) fun t117 =>
  .opg t117 true (.load none (e 3)) fun t118 =>
  .opg t117 true (.lenSl t118) fun t119 =>
  c21_r11_c1 e t117 t119) h Q := Iff.rfl
def c21_r12 : Env → Reg := fun e =>
  .op (.mv (e 0)) fun t128 =>
  .op (.load none (e 3)) fun t129 =>
  .op (.indexSl 1 t129 (.int .i64 0)) fun t130 =>
  .op (.load none t130) fun t131 =>
  .op (.conv .i64 t131) fun t132 =>
  .op (.nilCheck t128) fun t133 =>
  .op (.fieldAddr 11 t133) fun t134 =>
  .op (.store 1 t134 t132) fun _ =>
  .done e
theorem c21_r12_run {CP : CProg} (e : Env) (h : Heap) (Q : Post) : RunR CP (c21_r12 e) h Q ↔ RunR CP (
  .op (.mv (e 0)) fun t128 =>
  .op (.load none (e 3)) fun t129 =>
  .op (.indexSl 1 t129 (.int .i64 0)) fun t130 =>
  .op (.load none t130) fun t131 =>
  .op (.conv .i64 t131) fun t132 =>
  .op (.nilCheck t128) fun t133 =>
  .op (.fieldAddr 11 t133) fun t134 =>
  .op (.store 1 t134 t132) fun _ =>
  .done e) h Q := Iff.rfl
def c21_r1 : Env → Reg := fun e =>
  .op (.mv (.bool false)) fun t4 =>
  .done (e.upd 4 t4)
theorem c21_r1_run {CP : CProg} (e : Env) (h : Heap) (Q : Post) : RunR CP (c21_r1 e) h Q ↔ RunR CP (
  .op (.mv (.bool false)) fun t4 =>
  .done (e.upd 4 t4)) h Q := Iff.rfl
def c21_r13 : Env → Reg := fun e =>
  .op (.mv (.bool true)) fun t4 =>
  .done (e.upd 4 t4)
theorem c21_r13_run {CP : CProg} (e : Env) (h : Heap) (Q : Post) : RunR CP (c21_r13 e) h Q ↔ RunR CP (
  .op (.mv (.bool true)) fun t4 =>
  .done (e.upd 4 t4)) h Q := Iff.rfl
def c21 : CFn := ⟨(.seq (.region c21_r0) (.seq (.block 0 (.seq (.region c21_r2) (.cond (fun e => e 6) (.region c21_r3) (.seq (.region c21_r4) (.cond (fun e => e 52) (.seq (.region c21_r5) (.seq (.region c21_r6) (.region c21_r7))) (.seq (.region c21_r8) (.cond (fun e => e 85) (.seq (.region c21_r9) (.seq (.region c21_r10) .ret)) (.seq (.region c21_r11) (.cond (fun e => e 111) (.region c21_r12) (.seq (.region c21_r1) .ret)))))))))) (.seq (.region c21_r13) .ret))), [.t 4]⟩
def p21 : Pers := ⟨6, [6, 52, 85, 111], 135⟩
-- 22: weighbridge/frame.whole
def c22_r0 : Env → Reg := fun e =>
  .op (.mv (.slice none 0 0)) fun t4 =>
  .done (e.upd 4 t4)
theorem c22_r0_run {CP : CProg} (e : Env) (h : Heap) (Q : Post) : RunR CP (c22_r0 e) h Q ↔ RunR CP (
  .op (.mv (.slice none 0 0)) fun t4 =>
  .done (e.upd 4 t4)) h Q := Iff.rfl
def c22_r1_c1 (e : Env) (t5 : Value) (t9 : Value) (t12 : Value) : Reg :=
  .op (.buildSlice 5 4 [(.int .u8 0)] [(0, 1, t5), (1, 1, (.int .u8 1)), (2, 1, t9), (3, 1, t12)]) fun t13 =>
  .op (.mv (e 1)) fun t14 =>
  .op (.append 5 1 1 t13 t14) fun t15 =>
  .op (.mv t15) fun t4 =>
  .done (e.upd 4 t4)
theorem c22_r1_c1_run {CP : CProg} (e : Env) (t5 : Value) (t9 : Value) (t12 : Value) (h : Heap) (Q : Post) : RunR CP (c22_r1_c1 e t5 t9 t12) h Q ↔ RunR CP (
  .op (.buildSlice 5 4 [(.int .u8 0)] [(0, 1, t5), (1, 1, (.int .u8 1)), (2, 1, t9), (3, 1, t12)]) fun t13 =>
  .op (.mv (e 1)) fun t14 =>
  .op (.append 5 1 1 t13 t14) fun t15 =>
  .op (.mv t15) fun t4 =>
  .done (e.upd 4 t4)) h Q := Iff.rfl
def c22_r1 : Env → Reg := fun e =>
  .op (.mv (e 0)) fun t5 =>
  .op (.mv (e 1)) fun t6 =>
  .op (.lenSl t6) fun t7 =>
  .op (.bin .shr t7 (.int .u64 8)) fun t8 =>
  .op (.conv .u8 t8) fun t9 =>
  .op (.mv (e 1)) fun t10 =>
  .op (.lenSl t10) fun t11 =>
  .op (.conv .u8 t11) fun t12 =>
  c22_r1_c1 e t5 t9 t12
theorem c22_r1_run {CP : CProg} (e : Env) (h : Heap) (Q : Post) : RunR CP (c22_r1 e) h Q ↔ RunR CP (
  .op (.mv (e 0)) fun t5 =>
  .op (.mv (e 1)) fun t6 =>
  .op (.lenSl t6) fun t7 =>
  .op (.bin .shr t7 (.int .u64 8)) fun t8 =>
  .op (.conv .u8 t8) fun t9 =>
  .op (.mv (e 1)) fun t10 =>
  .op (.lenSl t10) fun t11 =>
  .op (.conv .u8 t11) fun t12 =>
  c22_r1_c1 e t5 t9 t12) h Q := Iff.rfl
def c22 : CFn := ⟨(.seq (.region c22_r0) (.seq (.region c22_r1) .ret)), [.t 4]⟩
def p22 : Pers := ⟨5, [], 16⟩
-- 23: weighbridge/frame.put
def c23_r0 : Env → Reg := fun e =>
  .op (.mv (.slice none 0 0)) fun t6 =>
  .done (e.upd 6 t6)
theorem c23_r0_run {CP : CProg} (e : Env) (h : Heap) (Q : Post) : RunR CP (c23_r0 e) h Q ↔ RunR CP (
  .op (.mv (.slice none 0 0)) fun t6 =>
  .done (e.upd 6 t6)) h Q := Iff.rfl
def c23_r1 : Env → Reg := fun e =>
  .op (.mv (e 1)) fun t8 =>
  .op (.bin .sub t8 (.int .i64 1)) fun t9 =>
  .op (.mv t9) fun t7 =>
  .done (e.upd 7 t7)
theorem c23_r1_run {CP : CProg} (e : Env) (h : Heap) (Q : Post) : RunR CP (c23_r1 e) h Q ↔ RunR CP (
  .op (.mv (e 1)) fun t8 =>
  .op (.bin .sub t8 (.int .i64 1)) fun t9 =>
  .op (.mv t9) fun t7 =>
  .done (e.upd 7 t7)) h Q := Iff.rfl
def c23_r2 : Env → Reg := fun e =>
  .op (.mv (e 7)) fun t10 =>
  .op (.bin .geq t10 (.int .i64 0)) fun t11 =>
  .done (e.upd 11 t11)
theorem c23_r2_run {CP : CProg} (e : Env) (h : Heap) (Q : Post) : RunR CP (c23_r2 e) h Q ↔ RunR CP (
  .op (.mv (e 7)) fun t10 =>
  .op (.bin .geq t10 (.int .i64 0)) fun t11 =>
  .done (e.upd 11 t11)) h Q := Iff.rfl
def c23_r4 : Env → Reg := fun e =>
  .op (.mv (e 0)) fun t14 =>
  .op (.mv (e 2)) fun t15 =>
  .op (.mv (e 7)) fun t16 =>
  .op (.bin .mul (.int .i64 8) t16) fun t17 =>
  .op (.bin .shr t15 t17) fun t18 =>
  .op (.conv .u8 t18) fun t19 =>
  .op (.buildSlice 5 1 [(.int .u8 0)] [(0, 1, t19)]) fun t20 =>
  .op (.append 5 1 1 t14 t20) fun t21 =>
  .op (.mv t21) fun t0 =>
  .done (e.upd 0 t0)
theorem c23_r4_run {CP : CProg} (e : Env) (h : Heap) (Q : Post) : RunR CP (c23_r4 e) h Q ↔ RunR CP (
  .op (.mv (e 0)) fun t14 =>
  .op (.mv (e 2)) fun t15 =>
  .op (.mv (e 7)) fun t16 =>
  .op (.bin .mul (.int .i64 8) t16) fun t17 =>
  .op (.bin .shr t15 t17) fun t18 =>
  .op (.conv .u8 t18) fun t19 =>
  .op (.buildSlice 5 1 [(.int .u8 0)] [(0, 1, t19)]) fun t20 =>
  .op (.append 5 1 1 t14 t20) fun t21 =>
  .op (.mv t21) fun t0 =>
  .done (e.upd 0 t0)) h Q := Iff.rfl
def c23_r3 : Env → Reg := fun e =>
  .op (.mv (e 7)) fun t12 =>
  .op (.bin .sub t12 (.int .i64 1)) fun t13 =>
  .op (.mv t13) fun t7 =>
  .done (e.upd 7 t7)
theorem c23_r3_run {CP : CProg} (e : Env) (h : Heap) (Q : Post) : RunR CP (c23_r3 e) h Q ↔ RunR CP (
  .op (.mv (e 7)) fun t12 =>
  .op (.bin .sub t12 (.int .i64 1)) fun t13 =>
  .op (.mv t13) fun t7 =>
  .done (e.upd 7 t7)) h Q := Iff.rfl
def c23_l0 : CC := (.seq (.seq (.region c23_r2) (.cond (fun e => e 11) .skip (.exit 0))) (.seq (.block 1 (.region c23_r4)) (.region c23_r3)))
def c23_r5 : Env → Reg := fun e =>
  .op (.mv (e 0)) fun t22 =>
  .op (.mv t22) fun t6 =>
  .done (e.upd 6 t6)
theorem c23_r5_run {CP : CProg} (e : Env) (h : Heap) (Q : Post) : RunR CP (c23_r5 e) h Q ↔ RunR CP (
  .op (.mv (e 0)) fun t22 =>
  .op (.mv t22) fun t6 =>
  .done (e.upd 6 t6)) h Q := Iff.rfl
def c23 : CFn := ⟨(.seq (.region c23_r0) (.seq (.seq (.region c23_r1) (.block 0 (.loop c23_l0))) (.seq (.region c23_r5) .ret))), [.t 6]⟩
def p23 : Pers := ⟨8, [11], 23⟩
-- 24: strconv.FormatInt
def c24_r0 : Env → Reg := fun e =>
  .op (.mv (.string ⟨#[]⟩)) fun t4 =>
  .done (e.upd 4 t4)
theorem c24_r0_run {CP : CProg} (e : Env) (h : Heap) (Q : Post) : RunR CP (c24_r0 e) h Q ↔ RunR CP (
  .op (.mv (.string ⟨#[]⟩)) fun t4 =>
  .done (e.upd 4 t4)) h Q := Iff.rfl
def c24_r1 : Env → Reg := fun e =>
  .op (.mv (e 0)) fun t5 =>
  .op (.mv (e 1)) fun t6 =>
  .op (.call 28 [t5, t6]) fun t7 =>
  .op (.mv t7) fun t4 =>
  .done (e.upd 4 t4)
theorem c24_r1_run {CP : CProg} (e : Env) (h : Heap) (Q : Post) : RunR CP (c24_r1 e) h Q ↔ RunR CP (
  .op (.mv (e 0)) fun t5 =>
  .op (.mv (e 1)) fun t6 =>
  .op (.call 28 [t5, t6]) fun t7 =>
  .op (.mv t7) fun t4 =>
  .done (e.upd 4 t4)) h Q := Iff.rfl
def c24 : CFn := ⟨(.seq (.region c24_r0) (.seq (.region c24_r1) .ret)), [.t 4]⟩
def p24 : Pers := ⟨5, [], 8⟩
-- 25: (*strings.Builder).copyCheck
def c25_r0 : Env → Reg := fun e =>
  .op (.mv (e 0)) fun t2 =>
  .op (.nilCheck t2) fun t3 =>
  .op (.fieldAddr 0 t3) fun t4 =>
  .op (.load none t4) fun t5 =>
  .op (.eqK .ptr false t5 (.pointer none)) fun t6 =>
  .done (e.upd 6 t6)
theorem c25_r0_run {CP : CProg} (e : Env) (h : Heap) (Q : Post) : RunR CP (c25_r0 e) h Q ↔ RunR CP (
  .op (.mv (e 0)) fun t2 =>
  .op (.nilCheck t2) fun t3 =>
  .op (.fieldAddr 0 t3) fun t4 =>
  .op (.load none t4) fun t5 =>
  .op (.eqK .ptr false t5 (.pointer none)) fun t6 =>
  .done (e.upd 6 t6)) h Q := Iff.rfl
def c25_r1 : Env → Reg := fun e =>
  .op (.mv (e 0)) fun t7 =>
  .op (.mv (e 0)) fun t8 =>
  .op (.ptrSame 52 2 t8) fun t9 =>
  .op (.mv t9) fun t10 =>
  .op (.ptrSame 52 2 t10) fun t11 =>
  .op (.nilCheck t7) fun t12 =>
  .op (.fieldAddr 0 t12) fun t13 =>
  .op (.store 1 t13 t11) fun _ =>
  .done e
theorem c25_r1_run {CP : CProg} (e : Env) (h : Heap) (Q : Post) : RunR CP (c25_r1 e) h Q ↔ RunR CP (
  .op (.mv (e 0)) fun t7 =>
  .op (.mv (e 0)) fun t8 =>
  .op (.ptrSame 52 2 t8) fun t9 =>
  .op (.mv t9) fun t10 =>
  .op (.ptrSame 52 2 t10) fun t11 =>
  .op (.nilCheck t7) fun t12 =>
  .op (.fieldAddr 0 t12) fun t13 =>
  .op (.store 1 t13 t11) fun _ =>
  .done e) h Q := Iff.rfl
def c25_r2 : Env → Reg := fun e =>
  .op (.mv (e 0)) fun t14 =>
  .op (.nilCheck t14) fun t15 =>
  .op (.fieldAddr 0 t15) fun t16 =>
  .op (.load none t16) fun t17 =>
  .op (.mv (e 0)) fun t18 =>
  .op (.eqK .ptr true t17 t18) fun t19 =>
  .done (e.upd 19 t19)
theorem c25_r2_run {CP : CProg} (e : Env) (h : Heap) (Q : Post) : RunR CP (c25_r2 e) h Q ↔ RunR CP (
  .op (.mv (e 0)) fun t14 =>
  .op (.nilCheck t14) fun t15 =>
  .op (.fieldAddr 0 t15) fun t16 =>
  .op (.load none t16) fun t17 =>
  .op (.mv (e 0)) fun t18 =>
  .op (.eqK .ptr true t17 t18) fun t19 =>
  .done (e.upd 19 t19)) h Q := Iff.rfl
def c25 : CFn := ⟨(.seq (.region c25_r0) (.cond (fun e => e 6) (.region c25_r1) (.seq (.region c25_r2) (.cond (fun e => e 19) .bad .skip)))), []⟩
def p25 : Pers := ⟨2, [6, 19], 20⟩
-- 26: (*weighbridge/frame.Said).read$1
def c26_r0 : Env → Reg := fun e =>
  .op (.mv (.int .i64 0)) fun t3 =>
  .done (e.upd 3 t3)
theorem c26_r0_run {CP : CProg} (e : Env) (h : Heap) (Q : Post) : RunR CP (c26_r0 e) h Q ↔ RunR CP (
  .op (.mv (.int .i64 0)) fun t3 =>
  .done (e.upd 3 t3)) h Q := Iff.rfl
def c26_r1_c1 (e : Env) (t11 : Value) : Reg :=
  .op (.call 20 [t11]) fun t12 =>
  .op (.conv .i64 t12) fun t13 =>
  .op (.mv t13) fun t3 =>
  .done (e.upd 3 t3)
theorem c26_r1_c1_run {CP : CProg} (e : Env) (t11 : Value) (h : Heap) (Q : Post) : RunR CP (c26_r1_c1 e t11) h Q ↔ RunR CP (
  .op (.call 20 [t11]) fun t12 =>
  .op (.conv .i64 t12) fun t13 =>
  .op (.mv t13) fun t3 =>
  .done (e.upd 3 t3)) h Q := Iff.rfl
def c26_r1 : Env → Reg := fun e =>
  .op (.load none (e 1)) fun t4 =>
  .op (.mv (e 0)) fun t5 =>
  .op (.bin .mul (.int .i64 8) t5) fun t6 =>
  .op (.bin .add (.int .i64 1) t6) fun t7 =>
  .op (.mv (e 0)) fun t8 =>
  .op (.bin .mul (.int .i64 8) t8) fun t9 =>
  .op (.bin .add (.int .i64 9) t9) fun t10 =>
  .op (.slice 5 1 t4 (some t7) (some t10)) fun t11 =>
  c26_r1_c1 e t11
theorem c26_r1_run {CP : CProg} (e : Env) (h : Heap) (Q : Post) : RunR CP (c26_r1 e) h Q ↔ RunR CP (
  .op (.load none (e 1)) fun t4 =>
  .op (.mv (e 0)) fun t5 =>
  .op (.bin .mul (.int .i64 8) t5) fun t6 =>
  .op (.bin .add (.int .i64 1) t6) fun t7 =>
  .op (.mv (e 0)) fun t8 =>
  .op (.bin .mul (.int .i64 8) t8) fun t9 =>
  .op (.bin .add (.int .i64 9) t9) fun t10 =>
  .op (.slice 5 1 t4 (some t7) (some t10)) fun t11 =>
  c26_r1_c1 e t11) h Q := Iff.rfl
def c26 : CFn := ⟨(.seq (.region c26_r0) (.seq (.region c26_r1) .ret)), [.t 3]⟩
def p26 : Pers := ⟨4, [], 14⟩
-- 27: (*weighbridge/frame.Said).list
def c27_r0 : Env → Reg := fun e =>
  .op (.mv (.bool false)) fun t6 =>
  .done (e.upd 6 t6)
theorem c27_r0_run {CP : CProg} (e : Env) (h : Heap) (Q : Post) : RunR CP (c27_r0 e) h Q ↔ RunR CP (
  .op (.mv (.bool false)) fun t6 =>
  .done (e.upd 6 t6)) h Q := Iff.rfl
def c27_r1 : Env → Reg := fun e =>
  .op (.mv (e 2)) fun t8 =>
  .op (.mv (.int .i64 0)) fun t9 =>
  .done ((e.upd 8 t8).upd 9 t9)
theorem c27_r1_run {CP : CProg} (e : Env) (h : Heap) (Q : Post) : RunR CP (c27_r1 e) h Q ↔ RunR CP (
  .op (.mv (e 2)) fun t8 =>
  .op (.mv (.int .i64 0)) fun t9 =>
  .done ((e.upd 8 t8).upd 9 t9)) h Q := Iff.rfl
def c27_r2 : Env → Reg := fun e =>
  .op (.bin .lss (e 9) (e 8)) fun t10 =>
  .done (e.upd 10 t10)
theorem c27_r2_run {CP : CProg} (e : Env) (h : Heap) (Q : Post) : RunR CP (c27_r2 e) h Q ↔ RunR CP (
  .op (.bin .lss (e 9) (e 8)) fun t10 =>
  .done (e.upd 10 t10)) h Q := Iff.rfl
def c27_r3_c2 (e : Env) (t21 : Value) (t23 : Value) (t26 : Value) : Reg :=
  .opg t21 false (.conv .i64 t26) fun t27 =>
  .opg t21 false (.bin .add (.int .i64 17) t27) fun t28 =>
  .opg t21 false (.bin .lss t23 t28) fun t29 =>
  .op (.pick t21 (.bool true) t29) fun t30 =>
  .done (e.upd 30 t30)
theorem c27_r3_c2_run {CP : CProg} (e : Env) (t21 : Value) (t23 : Value) (t26 : Value) (h : Heap) (Q : Post) : RunR CP (c27_r3_c2 e t21 t23 t26) h Q ↔ RunR CP (
  .opg t21 false (.conv .i64 t26) fun t27 =>
  .opg t21 false (.bin .add (.int .i64 17) t27) fun t28 =>
  .opg t21 false (.bin .lss t23 t28) fun t29 =>
  .op (.pick t21 (.bool true) t29) fun t30 =>
  .done (e.upd 30 t30)) h Q := Iff.rfl
def c27_r3_c1 (e : Env) (t14 : Value) (t18 : Value) : Reg :=
  .opg t14 false (.bin .gtr t18 (.int .i64 64)) fun t19 =>
  .op (.pick t14 (.bool true) t19) fun t20 =>
  .op (.mv t20) fun t21 =>
  .opg t21 false (.mv (e 1)) fun t22 =>
  .opg t21 false (.lenSl t22) fun t23 =>
  .opg t21 false (.mv (e 1)) fun t24 =>
  .opg t21 false (.indexSl 1 t24 (.int .i64 0)) fun t25 =>
  .opg t21 false (.load none t25) fun t26 =>
  c27_r3_c2 e t21 t23 t26
theorem c27_r3_c1_run {CP : CProg} (e : Env) (t14 : Value) (t18 : Value) (h : Heap) (Q : Post) : RunR CP (c27_r3_c1 e t14 t18) h Q ↔ RunR CP (
  .opg t14 false (.bin .gtr t18 (.int .i64 64)) fun t19 =>
  .op (.pick t14 (.bool true) t19) fun t20 =>
  .op (.mv t20) fun t21 =>
  .opg t21 false (.mv (e 1)) fun t22 =>
  .opg t21 false (.lenSl t22) fun t23 =>
  .opg t21 false (.mv (e 1)) fun t24 =>
  .opg t21 false (.indexSl 1 t24 (.int .i64 0)) fun t25 =>
  .opg t21 false (.load none t25) fun t26 =>
  c27_r3_c2 e t21 t23 t26) h Q := Iff.rfl
def c27_r3 : Env → Reg := fun e =>
  .op (.mv (e 1)) fun t11 =>
  .op (.lenSl t11) fun t12 =>
  .op (.bin .lss t12 (.int .i64 1)) fun t13 =>
  .op (.mv t13) fun t14 =>
  .opg t14 false (.mv (e 1)) fun t15 =>
  .opg t14 false (.indexSl 1 t15 (.int .i64 0)) fun t16 =>
  .opg t14 false (.load none t16) fun t17 =>
  .opg t14 false (.conv .i64 t17) fun t18 =>
  c27_r3_c1 e t14 t18
theorem c27_r3_run {CP : CProg} (e : Env) (h : Heap) (Q : Post) : RunR CP (c27_r3 e) h Q ↔ RunR CP (
  .op (.mv (e 1)) fun t11 =>
  .op (.lenSl t11) fun t12 =>
  .op (.bin .lss t12 (.int .i64 1)) fun t13 =>
  .op (.mv t13) fun t14 =>
  .opg t14 false (.mv (e 1)) fun t15 =>
  .opg t14 false (.indexSl 1 t15 (.int .i64 0)) fun t16 =>
  .opg t14 false (.load none t16) fun t17 =>
  .opg t14 false (.conv .i64 t17) fun t18 =>
  c27_r3_c1 e t14 t18) h Q := Iff.rfl
def c27_r4 : Env → Reg := fun e =>
  .op (.mv (.bool false)) fun t6 =>
  .done (e.upd 6 t6)
theorem c27_r4_run {CP : CProg} (e : Env) (h : Heap) (Q : Post) : RunR CP (c27_r4 e) h Q ↔ RunR CP (
  .op (.mv (.bool false)) fun t6 =>
  .done (e.upd 6 t6)) h Q := Iff.rfl
def c27_r5 : Env → Reg := fun e =>
  .op (.mv (e 1)) fun t31 =>
  .op (.indexSl 1 t31 (.int .i64 0)) fun t32 =>
  .op (.load none t32) fun t33 =>
  .op (.conv .i64 t33) fun t34 =>
  .op (.bin .add (.int .i64 1) t34) fun t35 =>
  .op (.mv t35) fun t7 =>
  .done (e.upd 7 t7)
theorem c27_r5_run {CP : CProg} (e : Env) (h : Heap) (Q : Post) : RunR CP (c27_r5 e) h Q ↔ RunR CP (
  .op (.mv (e 1)) fun t31 =>
  .op (.indexSl 1 t31 (.int .i64 0)) fun t32 =>
  .op (.load none t32) fun t33 =>
  .op (.conv .i64 t33) fun t34 =>
  .op (.bin .add (.int .i64 1) t34) fun t35 =>
  .op (.mv t35) fun t7 =>
  .done (e.upd 7 t7)) h Q := Iff.rfl
def c27_r6_c4 (e : Env) (t36 : Value) (t40 : Value) (t44 : Value) (t51 : Value) (t58 : Value) : Reg :=
  .op (.conv .i64 t58) fun t59 =>
  .op (.build [(.string ⟨#[]⟩), (.int .i64 0), (.int .i64 0)] [(0, 1, t44), (1, 1, t51), (2, 1, t59)]) fun t60 =>
  .op (.buildSlice 29 1 [(.string ⟨#[]⟩), (.int .i64 0), (.int .i64 0)] [(0, 3, t60)]) fun t61 =>
  .snap fun h26 =>
  .op (.append 29 3 32 t40 t61) fun t62 =>
  .op (.nilCheck t36) fun t63 =>
  .op (.fieldAddr 10 t63) fun t64 =>
  .snap fun h29 =>
  .op (.store 1 t64 t62) fun _ =>
  .done e
theorem c27_r6_c4_run {CP : CProg} (e : Env) (t36 : Value) (t40 : Value) (t44 : Value) (t51 : Value) (t58 : Value) (h : Heap) (Q : Post) : RunR CP (c27_r6_c4 e t36 t40 t44 t51 t58) h Q ↔ RunR CP (
  .op (.conv .i64 t58) fun t59 =>
  .op (.build [(.string ⟨#[]⟩), (.int .i64 0), (.int .i64 0)] [(0, 1, t44), (1, 1, t51), (2, 1, t59)]) fun t60 =>
  .op (.buildSlice 29 1 [(.string ⟨#[]⟩), (.int .i64 0), (.int .i64 0)] [(0, 3, t60)]) fun t61 =>
  .snap fun h26 =>
  .op (.append 29 3 32 t40 t61) fun t62 =>
  .op (.nilCheck t36) fun t63 =>
  .op (.fieldAddr 10 t63) fun t64 =>
  .snap fun h29 =>
  .op (.store 1 t64 t62) fun _ =>
  .done e) h Q := Iff.rfl
def c27_r6_c3 (e : Env) (t36 : Value) (t39 : Value) (t40 : Value) (t41 : Value) (t42 : Value) (t43 : Value) (t44 : Value) (h14 : Heap) (t51 : Value) (t52 : Value) (t54 : Value) (t55 : Value) : Reg :=
  .op (.bin .add t55 (.int .i64 16)) fun t56 =>
  .op (.slice 5 1 t52 (some t54) (some t56)) fun t57 =>
  .chk none (some h14) (.slice 5 1 t52 (some t54) (some t56)) t57 <|
  .snap fun h22 =>
  .op (.call 20 [t57]) fun t58 =>
  .chk none none (.toStr t43) t44 <|
  .chk none none (.slice 5 1 t41 (some (.int .i64 1)) (some t42)) t43 <|
  .chk none none (.load none t39) t40 <|
  c27_r6_c4 e t36 t40 t44 t51 t58
theorem c27_r6_c3_run {CP : CProg} (e : Env) (t36 : Value) (t39 : Value) (t40 : Value) (t41 : Value) (t42 : Value) (t43 : Value) (t44 : Value) (h14 : Heap) (t51 : Value) (t52 : Value) (t54 : Value) (t55 : Value) (h : Heap) (Q : Post) : RunR CP (c27_r6_c3 e t36 t39 t40 t41 t42 t43 t44 h14 t51 t52 t54 t55) h Q ↔ RunR CP (
  .op (.bin .add t55 (.int .i64 16)) fun t56 =>
  .op (.slice 5 1 t52 (some t54) (some t56)) fun t57 =>
  .chk none (some h14) (.slice 5 1 t52 (some t54) (some t56)) t57 <|
  .snap fun h22 =>
  .op (.call 20 [t57]) fun t58 =>
  .chk none none (.toStr t43) t44 <|
  .chk none none (.slice 5 1 t41 (some (.int .i64 1)) (some t42)) t43 <|
  .chk none none (.load none t39) t40 <|
  c27_r6_c4 e t36 t40 t44 t51 t58) h Q := Iff.rfl
def c27_r6_c2 (e : Env) (t36 : Value) (t39 : Value) (t40 : Value) (t41 : Value) (t42 : Value) (t43 : Value) (t44 : Value) (h14 : Heap) (t50 : Value) : Reg :=
  .chk none none (.toStr t43) t44 <|
  .chk none none (.slice 5 1 t41 (some (.int .i64 1)) (some t42)) t43 <|
  .chk none none (.load none t39) t40 <|
  .op (.conv .i64 t50) fun t51 =>
  .op (.mv (e 1)) fun t52 =>
  .op (.mv (e 7)) fun t53 =>
  .op (.bin .add t53 (.int .i64 8)) fun t54 =>
  .op (.mv (e 7)) fun t55 =>
  c27_r6_c3 e t36 t39 t40 t41 t42 t43 t44 h14 t51 t52 t54 t55
theorem c27_r6_c2_run {CP : CProg} (e : Env) (t36 : Value) (t39 : Value) (t40 : Value) (t41 : Value) (t42 : Value) (t43 : Value) (t44 : Value) (h14 : Heap) (t50 : Value) (h : Heap) (Q : Post) : RunR CP (c27_r6_c2 e t36 t39 t40 t41 t42 t43 t44 h14 t50) h Q ↔ RunR CP (
  .chk none none (.toStr t43) t44 <|
  .chk none none (.slice 5 1 t41 (some (.int .i64 1)) (some t42)) t43 <|
  .chk none none (.load none t39) t40 <|
  .op (.conv .i64 t50) fun t51 =>
  .op (.mv (e 1)) fun t52 =>
  .op (.mv (e 7)) fun t53 =>
  .op (.bin .add t53 (.int .i64 8)) fun t54 =>
  .op (.mv (e 7)) fun t55 =>
  c27_r6_c3 e t36 t39 t40 t41 t42 t43 t44 h14 t51 t52 t54 t55) h Q := Iff.rfl
def c27_r6_c1 (e : Env) (t36 : Value) (t39 : Value) (t40 : Value) (t41 : Value) (t42 : Value) (t43 : Value) : Reg :=
  .op (.toStr t43) fun t44 =>
  .op (.mv (e 1)) fun t45 =>
  .op (.mv (e 7)) fun t46 =>
  .op (.mv (e 7)) fun t47 =>
  .op (.bin .add t47 (.int .i64 8)) fun t48 =>
  .op (.slice 5 1 t45 (some t46) (some t48)) fun t49 =>
  .snap fun h14 =>
  .op (.call 20 [t49]) fun t50 =>
  c27_r6_c2 e t36 t39 t40 t41 t42 t43 t44 h14 t50
theorem c27_r6_c1_run {CP : CProg} (e : Env) (t36 : Value) (t39 : Value) (t40 : Value) (t41 : Value) (t42 : Value) (t43 : Value) (h : Heap) (Q : Post) : RunR CP (c27_r6_c1 e t36 t39 t40 t41 t42 t43) h Q ↔ RunR CP (
  .op (.toStr t43) fun t44 =>
  .op (.mv (e 1)) fun t45 =>
  .op (.mv (e 7)) fun t46 =>
  .op (.mv (e 7)) fun t47 =>
  .op (.bin .add t47 (.int .i64 8)) fun t48 =>
  .op (.slice 5 1 t45 (some t46) (some t48)) fun t49 =>
  .snap fun h14 =>
  .op (.call 20 [t49]) fun t50 =>
  c27_r6_c2 e t36 t39 t40 t41 t42 t43 t44 h14 t50) h Q := Iff.rfl
def c27_r6 : Env → Reg := fun e =>
  .op (.mv (e 0)) fun t36 =>
  .op (.mv (e 0)) fun t37 =>
  .op (.nilCheck t37) fun t38 =>
  .op (.fieldAddr 10 t38) fun t39 =>
  .op (.load none t39) fun t40 =>
  .op (.mv (e 1)) fun t41 =>
  .op (.mv (e 7)) fun t42 =>
  .op (.slice 5 1 t41 (some (.int .i64 1)) (some t42)) fun t43 =>
  c27_r6_c1 e t36 t39 t40 t41 t42 t43
theorem c27_r6_run {CP : CProg} (e : Env) (h : Heap) (Q : Post) : RunR CP (c27_r6 e) h Q ↔ RunR CP (
  .op (.mv (e 0)) fun t36 =>
  .op (.mv (e 0)) fun t37 =>
  .op (.nilCheck t37) fun t38 =>
  .op (.fieldAddr 10 t38) fun t39 =>
  .op (.load none t39) fun t40 =>
  .op (.mv (e 1)) fun t41 =>
  .op (.mv (e 7)) fun t42 =>
  .op (.slice 5 1 t41 (some (.int .i64 1)) (some t42)) fun t43 =>
  c27_r6_c1 e t36 t39 t40 t41 t42 t43) h Q := Iff.rfl
def c27_r7 : Env → Reg := fun e =>
  .op (.mv (e 1)) fun t65 =>
  .op (.mv (e 7)) fun t66 =>
  .op (.bin .add t66 (.int .i64 16)) fun t67 =>
  .op (.slice 5 1 t65 (some t67) none) fun t68 =>
  .op (.mv t68) fun t1 =>
  .done (e.upd 1 t1)
theorem c27_r7_run {CP : CProg} (e : Env) (h : Heap) (Q : Post) : RunR CP (c27_r7 e) h Q ↔ RunR CP (
  .op (.mv (e 1)) fun t65 =>
  .op (.mv (e 7)) fun t66 =>
  .op (.bin .add t66 (.int .i64 16)) fun t67 =>
  .op (.slice 5 1 t65 (some t67) none) fun t68 =>
  .op (.mv t68) fun t1 =>
  .done (e.upd 1 t1)) h Q := Iff.rfl
def c27_r8 : Env → Reg := fun e =>
  .op (.bin .add (e 9) (.int .i64 1)) fun t69 =>
  .op (.mv t69) fun t9 =>
  .done (e.upd 9 t9)
theorem c27_r8_run {CP : CProg} (e : Env) (h : Heap) (Q : Post) : RunR CP (c27_r8 e) h Q ↔ RunR CP (
  .op (.bin .add (e 9) (.int .i64 1)) fun t69 =>
  .op (.mv t69) fun t9 =>
  .done (e.upd 9 t9)) h Q := Iff.rfl
def c27_l0 : CC := (.seq (.region c27_r2) (.seq (.cond (fun e => e 10) .skip (.exit 0)) (.seq (.block 1 (.seq (.seq (.region c27_r3) (.cond (fun e => e 30) (.seq (.region c27_r4) .ret) .skip)) (.seq (.region c27_r5) (.seq (.region c27_r6) (.region c27_r7))))) (.region c27_r8))))
def c27_r9 : Env → Reg := fun e =>
  .op (.mv (e 1)) fun t70 =>
  .op (.lenSl t70) fun t71 =>
  .op (.bin .eql t71 (.int .i64 0)) fun t72 =>
  .op (.mv t72) fun t6 =>
  .done (e.upd 6 t6)
theorem c27_r9_run {CP : CProg} (e : Env) (h : Heap) (Q : Post) : RunR CP (c27_r9 e) h Q ↔ RunR CP (
  .op (.mv (e 1)) fun t70 =>
  .op (.lenSl t70) fun t71 =>
  .op (.bin .eql t71 (.int .i64 0)) fun t72 =>
  .op (.mv t72) fun t6 =>
  .done (e.upd 6 t6)) h Q := Iff.rfl
def c27 : CFn := ⟨(.seq (.region c27_r0) (.seq (.seq (.region c27_r1) (.block 0 (.loop c27_l0))) (.seq (.region c27_r9) .ret))), [.t 6]⟩
def p27 : Pers := ⟨8, [8, 9, 10, 30], 73⟩
-- 28: internal/strconv.FormatInt
def c28_r0 : Env → Reg := fun e =>
  .op (.mv (.string ⟨#[]⟩)) fun t4 =>
  .done (e.upd 4 t4)
theorem c28_r0_run {CP : CProg} (e : Env) (h : Heap) (Q : Post) : RunR CP (c28_r0 e) h Q ↔ RunR CP (
  .op (.mv (.string ⟨#[]⟩)) fun t4 =>
  .done (e.upd 4 t4)) h Q := Iff.rfl
def c28_r1 : Env → Reg := fun e =>
  .op (.mv (e 1)) fun t10 =>
  .op (.bin .eql t10 (.int .i64 10)) fun t11 =>
  .done (e.upd 11 t11)
theorem c28_r1_run {CP : CProg} (e : Env) (h : Heap) (Q : Post) : RunR CP (c28_r1 e) h Q ↔ RunR CP (
  .op (.mv (e 1)) fun t10 =>
  .op (.bin .eql t10 (.int .i64 10)) fun t11 =>
  .done (e.upd 11 t11)) h Q := Iff.rfl
def c28_r2 : Env → Reg := fun e =>
  .op (.mv (e 0)) fun t12 =>
  .op (.bin .leq (.int .i64 0) t12) fun t13 =>
  .op (.mv t13) fun t14 =>
  .opg t14 true (.mv (e 0)) fun t15 =>
  .opg t14 true (.bin .lss t15 (.int .i64 100)) fun t16 =>
  .op (.pick t14 t16 (.bool false)) fun t17 =>
  .done (e.upd 17 t17)
theorem c28_r2_run {CP : CProg} (e : Env) (h : Heap) (Q : Post) : RunR CP (c28_r2 e) h Q ↔ RunR CP (
  .op (.mv (e 0)) fun t12 =>
  .op (.bin .leq (.int .i64 0) t12) fun t13 =>
  .op (.mv t13) fun t14 =>
  .opg t14 true (.mv (e 0)) fun t15 =>
  .opg t14 true (.bin .lss t15 (.int .i64 100)) fun t16 =>
  .op (.pick t14 t16 (.bool false)) fun t17 =>
  .done (e.upd 17 t17)) h Q := Iff.rfl
def c28_r3 : Env → Reg := fun e =>
  .op (.mv (e 0)) fun t18 =>
  .op (.call 30 [t18]) fun t19 =>
  .op (.mv t19) fun t4 =>
  .done (e.upd 4 t4)
theorem c28_r3_run {CP : CProg} (e : Env) (h : Heap) (Q : Post) : RunR CP (c28_r3 e) h Q ↔ RunR CP (
  .op (.mv (e 0)) fun t18 =>
  .op (.call 30 [t18]) fun t19 =>
  .op (.mv t19) fun t4 =>
  .done (e.upd 4 t4)) h Q := Iff.rfl
def c28_r4 : Env → Reg := fun e =>
  .op (.alloc 72 [(.int .u8 0), (.int .u8 0), (.int .u8 0), (.int .u8 0), (.int .u8 0), (.int .u8 0), (.int .u8 0), (.int .u8 0), (.int .u8 0), (.int .u8 0), (.int .u8 0), (.int .u8 0), (.int .u8 0), (.int .u8 0), (.int .u8 0), (.int .u8 0), (.int .u8 0), (.int .u8 0), (.int .u8 0), (.int .u8 0), (.int .u8 0), (.int .u8 0), (.int .u8 0), (.int .u8 0)]) fun t5 =>
  .done (e.upd 5 t5)
theorem c28_r4_run {CP : CProg} (e : Env) (h : Heap) (Q : Post) : RunR CP (c28_r4 e) h Q ↔ RunR CP (
  .op (.alloc 72 [(.int .u8 0), (.int .u8 0), (.int .u8 0), (.int .u8 0), (.int .u8 0), (.int .u8 0), (.int .u8 0), (.int .u8 0), (.int .u8 0), (.int .u8 0), (.int .u8 0), (.int .u8 0), (.int .u8 0), (.int .u8 0), (.int .u8 0), (.int .u8 0), (.int .u8 0), (.int .u8 0), (.int .u8 0), (.int .u8 0), (.int .u8 0), (.int .u8 0), (.int .u8 0), (.int .u8 0)]) fun t5 =>
  .done (e.upd 5 t5)) h Q := Iff.rfl
def c28_r5 : Env → Reg := fun e =>
  .op (.mv (e 0)) fun t20 =>
  .op (.conv .u64 t20) fun t21 =>
  .op (.mv t21) fun t6 =>
  .done (e.upd 6 t6)
theorem c28_r5_run {CP : CProg} (e : Env) (h : Heap) (Q : Post) : RunR CP (c28_r5 e) h Q ↔ RunR CP (
  .op (.mv (e 0)) fun t20 =>
  .op (.conv .u64 t20) fun t21 =>
  .op (.mv t21) fun t6 =>
  .done (e.upd 6 t6)) h Q := Iff.rfl
def c28_r6 : Env → Reg := fun e =>
  .op (.mv (e 0)) fun t22 =>
  .op (.bin .lss t22 (.int .i64 0)) fun t23 =>
  .done (e.upd 23 t23)
theorem c28_r6_run {CP : CProg} (e : Env) (h : Heap) (Q : Post) : RunR CP (c28_r6 e) h Q ↔ RunR CP (
  .op (.mv (e 0)) fun t22 =>
  .op (.bin .lss t22 (.int .i64 0)) fun t23 =>
  .done (e.upd 23 t23)) h Q := Iff.rfl
def c28_r7 : Env → Reg := fun e =>
  .op (.mv (e 6)) fun t24 =>
  .op (.un .neg t24) fun t25 =>
  .op (.mv t25) fun t6 =>
  .done (e.upd 6 t6)
theorem c28_r7_run {CP : CProg} (e : Env) (h : Heap) (Q : Post) : RunR CP (c28_r7 e) h Q ↔ RunR CP (
  .op (.mv (e 6)) fun t24 =>
  .op (.un .neg t24) fun t25 =>
  .op (.mv t25) fun t6 =>
  .done (e.upd 6 t6)) h Q := Iff.rfl
def c28_r8 : Env → Reg := fun e =>
  .op (.mv (e 6)) fun t26 =>
  .op (.call 31 [t26]) fun t27 =>
  .op (.mv t27) fun t7 =>
  .done (e.upd 7 t7)
theorem c28_r8_run {CP : CProg} (e : Env) (h : Heap) (Q : Post) : RunR CP (c28_r8 e) h Q ↔ RunR CP (
  .op (.mv (e 6)) fun t26 =>
  .op (.call 31 [t26]) fun t27 =>
  .op (.mv t27) fun t7 =>
  .done (e.upd 7 t7)) h Q := Iff.rfl
def c28_r9 : Env → Reg := fun e =>
  .op (.mv (e 7)) fun t28 =>
  .op (.bin .add (.int .i64 1) t28) fun t29 =>
  .op (.sliceArr 24 1 (e 5) (some (.int .i64 1)) (some t29)) fun t30 =>
  .op (.mv (e 6)) fun t31 =>
  .op (.call 32 [t30, t31]) fun t32 =>
  .done e
theorem c28_r9_run {CP : CProg} (e : Env) (h : Heap) (Q : Post) : RunR CP (c28_r9 e) h Q ↔ RunR CP (
  .op (.mv (e 7)) fun t28 =>
  .op (.bin .add (.int .i64 1) t28) fun t29 =>
  .op (.sliceArr 24 1 (e 5) (some (.int .i64 1)) (some t29)) fun t30 =>
  .op (.mv (e 6)) fun t31 =>
  .op (.call 32 [t30, t31]) fun t32 =>
  .done e) h Q := Iff.rfl
def c28_r10 : Env → Reg := fun e =>
  .op (.mv (e 0)) fun t33 =>
  .op (.bin .lss t33 (.int .i64 0)) fun t34 =>
  .done (e.upd 34 t34)
theorem c28_r10_run {CP : CProg} (e : Env) (h : Heap) (Q : Post) : RunR CP (c28_r10 e) h Q ↔ RunR CP (
  .op (.mv (e 0)) fun t33 =>
  .op (.bin .lss t33 (.int .i64 0)) fun t34 =>
  .done (e.upd 34 t34)) h Q := Iff.rfl
def c28_r11 : Env → Reg := fun e =>
  .op (.indexArr 24 1 (e 5) (.int .i64 0)) fun t35 =>
  .op (.store 1 t35 (.int .u8 45)) fun _ =>
  .done e
theorem c28_r11_run {CP : CProg} (e : Env) (h : Heap) (Q : Post) : RunR CP (c28_r11 e) h Q ↔ RunR CP (
  .op (.indexArr 24 1 (e 5) (.int .i64 0)) fun t35 =>
  .op (.store 1 t35 (.int .u8 45)) fun _ =>
  .done e) h Q := Iff.rfl
def c28_r12 : Env → Reg := fun e =>
  .op (.mv (e 7)) fun t36 =>
  .op (.bin .add (.int .i64 1) t36) fun t37 =>
  .op (.sliceArr 24 1 (e 5) none (some t37)) fun t38 =>
  .op (.toStr t38) fun t39 =>
  .op (.mv t39) fun t4 =>
  .done (e.upd 4 t4)
theorem c28_r12_run {CP : CProg} (e : Env) (h : Heap) (Q : Post) : RunR CP (c28_r12 e) h Q ↔ RunR CP (
  .op (.mv (e 7)) fun t36 =>
  .op (.bin .add (.int .i64 1) t36) fun t37 =>
  .op (.sliceArr 24 1 (e 5) none (some t37)) fun t38 =>
  .op (.toStr t38) fun t39 =>
  .op (.mv t39) fun t4 =>
  .done (e.upd 4 t4)) h Q := Iff.rfl
def c28_r13 : Env → Reg := fun e =>
  .op (.mv (e 7)) fun t40 =>
  .op (.bin .add (.int .i64 1) t40) fun t41 =>
  .op (.sliceArr 24 1 (e 5) (some (.int .i64 1)) (some t41)) fun t42 =>
  .op (.toStr t42) fun t43 =>
  .op (.mv t43) fun t4 =>
  .done (e.upd 4 t4)
theorem c28_r13_run {CP : CProg} (e : Env) (h : Heap) (Q : Post) : RunR CP (c28_r13 e) h Q ↔ RunR CP (
  .op (.mv (e 7)) fun t40 =>
  .op (.bin .add (.int .i64 1) t40) fun t41 =>
  .op (.sliceArr 24 1 (e 5) (some (.int .i64 1)) (some t41)) fun t42 =>
  .op (.toStr t42) fun t43 =>
  .op (.mv t43) fun t4 =>
  .done (e.upd 4 t4)) h Q := Iff.rfl
def c28_r14_c1 (e : Env) (t44 : Value) (t51 : Value) : Reg :=
  .op (.extract t44 1) fun t52 =>
  .op (.mv t51) fun t8 =>
  .op (.mv t52) fun t9 =>
  .done ((e.upd 8 t8).upd 9 t9)
theorem c28_r14_c1_run {CP : CProg} (e : Env) (t44 : Value) (t51 : Value) (h : Heap) (Q : Post) : RunR CP (c28_r14_c1 e t44 t51) h Q ↔ RunR CP (
  .op (.extract t44 1) fun t52 =>
  .op (.mv t51) fun t8 =>
  .op (.mv t52) fun t9 =>
  .done ((e.upd 8 t8).upd 9 t9)) h Q := Iff.rfl
def c28_r14 : Env → Reg := fun e =>
  .op (.mv (e 0)) fun t45 =>
  .op (.conv .u64 t45) fun t46 =>
  .op (.mv (e 1)) fun t47 =>
  .op (.mv (e 0)) fun t48 =>
  .op (.bin .lss t48 (.int .i64 0)) fun t49 =>
  .op (.call 33 [(.slice none 0 0), t46, t47, t49, (.bool false)]) fun t50 =>
  .op (.mv t50) fun t44 =>
  .op (.extract t44 0) fun t51 =>
  c28_r14_c1 e t44 t51
theorem c28_r14_run {CP : CProg} (e : Env) (h : Heap) (Q : Post) : RunR CP (c28_r14 e) h Q ↔ RunR CP (
  .op (.mv (e 0)) fun t45 =>
  .op (.conv .u64 t45) fun t46 =>
  .op (.mv (e 1)) fun t47 =>
  .op (.mv (e 0)) fun t48 =>
  .op (.bin .lss t48 (.int .i64 0)) fun t49 =>
  .op (.call 33 [(.slice none 0 0), t46, t47, t49, (.bool false)]) fun t50 =>
  .op (.mv t50) fun t44 =>
  .op (.extract t44 0) fun t51 =>
  c28_r14_c1 e t44 t51) h Q := Iff.rfl
def c28_r15 : Env → Reg := fun e =>
  .op (.mv (e 9)) fun t53 =>
  .op (.mv t53) fun t4 =>
  .done (e.upd 4 t4)
theorem c28_r15_run {CP : CProg} (e : Env) (h : Heap) (Q : Post) : RunR CP (c28_r15 e) h Q ↔ RunR CP (
  .op (.mv (e 9)) fun t53 =>
  .op (.mv t53) fun t4 =>
  .done (e.upd 4 t4)) h Q := Iff.rfl
def c28 : CFn := ⟨(.seq (.region c28_r0) (.seq (.seq (.region c28_r1) (.cond (fun e => e 11) (.seq (.seq (.region c28_r2) (.cond (fun e => e 17) (.seq (.region c28_r3) .ret) .skip)) (.seq (.region c28_r4) (.seq (.region c28_r5) (.seq (.seq (.region c28_r6) (.cond (fun e => e 23) (.region c28_r7) .skip)) (.seq (.region c28_r8) (.seq (.region c28_r9) (.seq (.seq (.region c28_r10) (.cond (fun e => e 34) (.seq (.region c28_r11) (.seq (.region c28_r12) .ret)) .skip)) (.seq (.region c28_r13) .ret)))))))) .skip)) (.seq (.region c28_r14) (.seq (.region c28_r15) .ret)))), [.t 4]⟩
def p28 : Pers := ⟨10, [11, 17, 23, 34], 54⟩
-- 30: internal/strconv.small
def c30_r0 : Env → Reg := fun e =>
  .op (.mv (.string ⟨#[]⟩)) fun t2 =>
  .done (e.upd 2 t2)
theorem c30_r0_run {CP : CProg} (e : Env) (h : Heap) (Q : Post) : RunR CP (c30_r0 e) h Q ↔ RunR CP (
  .op (.mv (.string ⟨#[]⟩)) fun t2 =>
  .done (e.upd 2 t2)) h Q := Iff.rfl
def c30_r1 : Env → Reg := fun e =>
  .op (.mv (e 0)) fun t3 =>
  .op (.bin .lss t3 (.int .i64 10)) fun t4 =>
  .done (e.upd 4 t4)
theorem c30_r1_run {CP : CProg} (e : Env) (h : Heap) (Q : Post) : RunR CP (c30_r1 e) h Q ↔ RunR CP (
  .op (.mv (e 0)) fun t3 =>
  .op (.bin .lss t3 (.int .i64 10)) fun t4 =>
  .done (e.upd 4 t4)) h Q := Iff.rfl
def c30_r2 : Env → Reg := fun e =>
  .op (.mv (e 0)) fun t5 =>
  .op (.mv (e 0)) fun t6 =>
  .op (.bin .add t6 (.int .i64 1)) fun t7 =>
  .op (.sliceStr (.string ⟨#[48, 49, 50, 51, 52, 53, 54, 55, 56, 57, 97, 98, 99, 100, 101, 102, 103, 104, 105, 106, 107, 108, 109, 110, 111, 112, 113, 114, 115, 116, 117, 118, 119, 120, 121, 122]⟩) (some t5) (some t7)) fun t8 =>
  .op (.mv t8) fun t2 =>
  .done (e.upd 2 t2)
theorem c30_r2_run {CP : CProg} (e : Env) (h : Heap) (Q : Post) : RunR CP (c30_r2 e) h Q ↔ RunR CP (
  .op (.mv (e 0)) fun t5 =>
  .op (.mv (e 0)) fun t6 =>
  .op (.bin .add t6 (.int .i64 1)) fun t7 =>
  .op (.sliceStr (.string ⟨#[48, 49, 50, 51, 52, 53, 54, 55, 56, 57, 97, 98, 99, 100, 101, 102, 103, 104, 105, 106, 107, 108, 109, 110, 111, 112, 113, 114, 115, 116, 117, 118, 119, 120, 121, 122]⟩) (some t5) (some t7)) fun t8 =>
  .op (.mv t8) fun t2 =>
  .done (e.upd 2 t2)) h Q := Iff.rfl
def c30_r3 : Env → Reg := fun e =>
  .op (.mv (e 0)) fun t9 =>
  .op (.bin .mul t9 (.int .i64 2)) fun t10 =>
  .op (.mv (e 0)) fun t11 =>
  .op (.bin .mul t11 (.int .i64 2)) fun t12 =>
  .op (.bin .add t12 (.int .i64 2)) fun t13 =>
  .op (.sliceStr (.string big0) (some t10) (some t13)) fun t14 =>
  .op (.mv t14) fun t2 =>
  .done (e.upd 2 t2)
theorem c30_r3_run {CP : CProg} (e : Env) (h : Heap) (Q : Post) : RunR CP (c30_r3 e) h Q ↔ RunR CP (
  .op (.mv (e 0)) fun t9 =>
  .op (.bin .mul t9 (.int .i64 2)) fun t10 =>
  .op (.mv (e 0)) fun t11 =>
  .op (.bin .mul t11 (.int .i64 2)) fun t12 =>
  .op (.bin .add t12 (.int .i64 2)) fun t13 =>
  .op (.sliceStr (.string big0) (some t10) (some t13)) fun t14 =>
  .op (.mv t14) fun t2 =>
  .done (e.upd 2 t2)) h Q := Iff.rfl
def c30 : CFn := ⟨(.seq (.region c30_r0) (.seq (.seq (.region c30_r1) (.cond (fun e => e 4) (.seq (.region c30_r2) .ret) .skip)) (.seq (.region c30_r3) .ret))), [.t 2]⟩
def p30 : Pers := ⟨3, [4], 15⟩
-- 31: internal/strconv.numDigits
def c31_r0 : Env → Reg := fun e =>
  .op (.mv (.int .i64 0)) fun t2 =>
  .done (e.upd 2 t2)
theorem c31_r0_run {CP : CProg} (e : Env) (h : Heap) (Q : Post) : RunR CP (c31_r0 e) h Q ↔ RunR CP (
  .op (.mv (.int .i64 0)) fun t2 =>
  .done (e.upd 2 t2)) h Q := Iff.rfl
def c31_r1 : Env → Reg := fun e =>
  .op (.mv (e 0)) fun t4 =>
  .op (.call 35 [t4]) fun t5 =>
  .op (.call 34 [t5]) fun t6 =>
  .op (.mv t6) fun t3 =>
  .done (e.upd 3 t3)
theorem c31_r1_run {CP : CProg} (e : Env) (h : Heap) (Q : Post) : RunR CP (c31_r1 e) h Q ↔ RunR CP (
  .op (.mv (e 0)) fun t4 =>
  .op (.call 35 [t4]) fun t5 =>
  .op (.call 34 [t5]) fun t6 =>
  .op (.mv t6) fun t3 =>
  .done (e.upd 3 t3)) h Q := Iff.rfl
def c31_r2 : Env → Reg := fun e =>
  .op (.mv (e 3)) fun t7 =>
  .op (.mv (e 0)) fun t8 =>
  .op (.mv (e 3)) fun t9 =>
  .op (.indexArr 20 1 (.pointer (some ⟨0, 0, none⟩)) t9) fun t10 =>
  .op (.load none t10) fun t11 =>
  .op (.bin .geq t8 t11) fun t12 =>
  .op (.call 36 [t12]) fun t13 =>
  .op (.bin .add t7 t13) fun t14 =>
  .op (.mv t14) fun t2 =>
  .done (e.upd 2 t2)
theorem c31_r2_run {CP : CProg} (e : Env) (h : Heap) (Q : Post) : RunR CP (c31_r2 e) h Q ↔ RunR CP (
  .op (.mv (e 3)) fun t7 =>
  .op (.mv (e 0)) fun t8 =>
  .op (.mv (e 3)) fun t9 =>
  .op (.indexArr 20 1 (.pointer (some ⟨0, 0, none⟩)) t9) fun t10 =>
  .op (.load none t10) fun t11 =>
  .op (.bin .geq t8 t11) fun t12 =>
  .op (.call 36 [t12]) fun t13 =>
  .op (.bin .add t7 t13) fun t14 =>
  .op (.mv t14) fun t2 =>
  .done (e.upd 2 t2)) h Q := Iff.rfl
def c31 : CFn := ⟨(.seq (.region c31_r0) (.seq (.region c31_r1) (.seq (.region c31_r2) .ret))), [.t 2]⟩
def p31 : Pers := ⟨4, [], 15⟩
-- 32: internal/strconv.formatBase10
def c32_r0 : Env → Reg := fun e =>
  .op (.mv (e 0)) fun t17 =>
  .op (.lenSl t17) fun t18 =>
  .op (.mv t18) fun t4 =>
  .done (e.upd 4 t4)
theorem c32_r0_run {CP : CProg} (e : Env) (h : Heap) (Q : Post) : RunR CP (c32_r0 e) h Q ↔ RunR CP (
  .op (.mv (e 0)) fun t17 =>
  .op (.lenSl t17) fun t18 =>
  .op (.mv t18) fun t4 =>
  .done (e.upd 4 t4)) h Q := Iff.rfl
def c32_r1 : Env → Reg := fun e =>
  .op (.mv (e 4)) fun t19 =>
  .op (.bin .geq t19 (.int .i64 8)) fun t20 =>
  .done (e.upd 20 t20)
theorem c32_r1_run {CP : CProg} (e : Env) (h : Heap) (Q : Post) : RunR CP (c32_r1 e) h Q ↔ RunR CP (
  .op (.mv (e 4)) fun t19 =>
  .op (.bin .geq t19 (.int .i64 8)) fun t20 =>
  .done (e.upd 20 t20)) h Q := Iff.rfl
def c32_r2 : Env → Reg := fun e =>
  .op (.mv (e 1)) fun t21 =>
  .op (.bin .rem t21 (.int .u64 100000000)) fun t22 =>
  .op (.conv .u32 t22) fun t23 =>
  .op (.mv t23) fun t5 =>
  .done (e.upd 5 t5)
theorem c32_r2_run {CP : CProg} (e : Env) (h : Heap) (Q : Post) : RunR CP (c32_r2 e) h Q ↔ RunR CP (
  .op (.mv (e 1)) fun t21 =>
  .op (.bin .rem t21 (.int .u64 100000000)) fun t22 =>
  .op (.conv .u32 t22) fun t23 =>
  .op (.mv t23) fun t5 =>
  .done (e.upd 5 t5)) h Q := Iff.rfl
def c32_r3 : Env → Reg := fun e =>
  .op (.mv (e 1)) fun t24 =>
  .op (.bin .quo t24 (.int .u64 100000000)) fun t25 =>
  .op (.mv t25) fun t1 =>
  .done (e.upd 1 t1)
theorem c32_r3_run {CP : CProg} (e : Env) (h : Heap) (Q : Post) : RunR CP (c32_r3 e) h Q ↔ RunR CP (
  .op (.mv (e 1)) fun t24 =>
  .op (.bin .quo t24 (.int .u64 100000000)) fun t25 =>
  .op (.mv t25) fun t1 =>
  .done (e.upd 1 t1)) h Q := Iff.rfl
def c32_r4 : Env → Reg := fun e =>
  .op (.mv (e 5)) fun t26 =>
  .op (.bin .quo t26 (.int .u32 10000)) fun t27 =>
  .op (.mv (e 5)) fun t28 =>
  .op (.bin .rem t28 (.int .u32 10000)) fun t29 =>
  .op (.mv t27) fun t6 =>
  .op (.mv t29) fun t7 =>
  .done ((e.upd 6 t6).upd 7 t7)
theorem c32_r4_run {CP : CProg} (e : Env) (h : Heap) (Q : Post) : RunR CP (c32_r4 e) h Q ↔ RunR CP (
  .op (.mv (e 5)) fun t26 =>
  .op (.bin .quo t26 (.int .u32 10000)) fun t27 =>
  .op (.mv (e 5)) fun t28 =>
  .op (.bin .rem t28 (.int .u32 10000)) fun t29 =>
  .op (.mv t27) fun t6 =>
  .op (.mv t29) fun t7 =>
  .done ((e.upd 6 t6).upd 7 t7)) h Q := Iff.rfl
def c32_r5 : Env → Reg := fun e =>
  .op (.mv (e 7)) fun t30 =>
  .op (.bin .quo t30 (.int .u32 100)) fun t31 =>
  .op (.bin .mul t31 (.int .u32 2)) fun t32 =>
  .op (.mv (e 7)) fun t33 =>
  .op (.bin .rem t33 (.int .u32 100)) fun t34 =>
  .op (.bin .mul t34 (.int .u32 2)) fun t35 =>
  .op (.mv t32) fun t8 =>
  .op (.mv t35) fun t9 =>
  .done ((e.upd 8 t8).upd 9 t9)
theorem c32_r5_run {CP : CProg} (e : Env) (h : Heap) (Q : Post) : RunR CP (c32_r5 e) h Q ↔ RunR CP (
  .op (.mv (e 7)) fun t30 =>
  .op (.bin .quo t30 (.int .u32 100)) fun t31 =>
  .op (.bin .mul t31 (.int .u32 2)) fun t32 =>
  .op (.mv (e 7)) fun t33 =>
  .op (.bin .rem t33 (.int .u32 100)) fun t34 =>
  .op (.bin .mul t34 (.int .u32 2)) fun t35 =>
  .op (.mv t32) fun t8 =>
  .op (.mv t35) fun t9 =>
  .done ((e.upd 8 t8).upd 9 t9)) h Q := Iff.rfl
def c32_r6 : Env → Reg := fun e =>
  .op (.mv (e 6)) fun t36 =>
  .op (.bin .quo t36 (.int .u32 100)) fun t37 =>
  .op (.bin .mul t37 (.int .u32 2)) fun t38 =>
  .op (.mv (e 6)) fun t39 =>
  .op (.bin .rem t39 (.int .u32 100)) fun t40 =>
  .op (.bin .mul t40 (.int .u32 2)) fun t41 =>
  .op (.mv t38) fun t10 =>
  .op (.mv t41) fun t11 =>
  .done ((e.upd 10 t10).upd 11 t11)
theorem c32_r6_run {CP : CProg} (e : Env) (h : Heap) (Q : Post) : RunR CP (c32_r6 e) h Q ↔ RunR CP (
  .op (.mv (e 6)) fun t36 =>
  .op (.bin .quo t36 (.int .u32 100)) fun t37 =>
  .op (.bin .mul t37 (.int .u32 2)) fun t38 =>
  .op (.mv (e 6)) fun t39 =>
  .op (.bin .rem t39 (.int .u32 100)) fun t40 =>
  .op (.bin .mul t40 (.int .u32 2)) fun t41 =>
  .op (.mv t38) fun t10 =>
  .op (.mv t41) fun t11 =>
  .done ((e.upd 10 t10).upd 11 t11)) h Q := Iff.rfl
def c32_r7_c1 (e : Env) (t42 : Value) (t44 : Value) (t45 : Value) (t47 : Value) (t49 : Value) : Reg :=
  .op (.indexStr (.string big0) t49) fun t50 =>
  .op (.mv (e 9)) fun t51 =>
  .op (.indexStr (.string big0) t51) fun t52 =>
  .op (.indexSl 1 t42 t44) fun t53 =>
  .snap fun h12 =>
  .op (.store 1 t53 t50) fun _ =>
  .op (.indexSl 1 t45 t47) fun t54 =>
  .snap fun h14 =>
  .op (.store 1 t54 t52) fun _ =>
  .done e
theorem c32_r7_c1_run {CP : CProg} (e : Env) (t42 : Value) (t44 : Value) (t45 : Value) (t47 : Value) (t49 : Value) (h : Heap) (Q : Post) : RunR CP (c32_r7_c1 e t42 t44 t45 t47 t49) h Q ↔ RunR CP (
  .op (.indexStr (.string big0) t49) fun t50 =>
  .op (.mv (e 9)) fun t51 =>
  .op (.indexStr (.string big0) t51) fun t52 =>
  .op (.indexSl 1 t42 t44) fun t53 =>
  .snap fun h12 =>
  .op (.store 1 t53 t50) fun _ =>
  .op (.indexSl 1 t45 t47) fun t54 =>
  .snap fun h14 =>
  .op (.store 1 t54 t52) fun _ =>
  .done e) h Q := Iff.rfl
def c32_r7 : Env → Reg := fun e =>
  .op (.mv (e 0)) fun t42 =>
  .op (.mv (e 4)) fun t43 =>
  .op (.bin .sub t43 (.int .i64 1)) fun t44 =>
  .op (.mv (e 0)) fun t45 =>
  .op (.mv (e 4)) fun t46 =>
  .op (.bin .sub t46 (.int .i64 2)) fun t47 =>
  .op (.mv (e 9)) fun t48 =>
  .op (.bin .add t48 (.int .u32 1)) fun t49 =>
  c32_r7_c1 e t42 t44 t45 t47 t49
theorem c32_r7_run {CP : CProg} (e : Env) (h : Heap) (Q : Post) : RunR CP (c32_r7 e) h Q ↔ RunR CP (
  .op (.mv (e 0)) fun t42 =>
  .op (.mv (e 4)) fun t43 =>
  .op (.bin .sub t43 (.int .i64 1)) fun t44 =>
  .op (.mv (e 0)) fun t45 =>
  .op (.mv (e 4)) fun t46 =>
  .op (.bin .sub t46 (.int .i64 2)) fun t47 =>
  .op (.mv (e 9)) fun t48 =>
  .op (.bin .add t48 (.int .u32 1)) fun t49 =>
  c32_r7_c1 e t42 t44 t45 t47 t49) h Q := Iff.rfl
def c32_r8_c1 (e : Env) (t55 : Value) (t57 : Value) (t58 : Value) (t60 : Value) (t62 : Value) : Reg :=
  .op (.indexStr (.string big0) t62) fun t63 =>
  .op (.mv (e 8)) fun t64 =>
  .op (.indexStr (.string big0) t64) fun t65 =>
  .op (.indexSl 1 t55 t57) fun t66 =>
  .snap fun h12 =>
  .op (.store 1 t66 t63) fun _ =>
  .op (.indexSl 1 t58 t60) fun t67 =>
  .snap fun h14 =>
  .op (.store 1 t67 t65) fun _ =>
  .done e
theorem c32_r8_c1_run {CP : CProg} (e : Env) (t55 : Value) (t57 : Value) (t58 : Value) (t60 : Value) (t62 : Value) (h : Heap) (Q : Post) : RunR CP (c32_r8_c1 e t55 t57 t58 t60 t62) h Q ↔ RunR CP (
  .op (.indexStr (.string big0) t62) fun t63 =>
  .op (.mv (e 8)) fun t64 =>
  .op (.indexStr (.string big0) t64) fun t65 =>
  .op (.indexSl 1 t55 t57) fun t66 =>
  .snap fun h12 =>
  .op (.store 1 t66 t63) fun _ =>
  .op (.indexSl 1 t58 t60) fun t67 =>
  .snap fun h14 =>
  .op (.store 1 t67 t65) fun _ =>
  .done e) h Q := Iff.rfl
def c32_r8 : Env → Reg := fun e =>
  .op (.mv (e 0)) fun t55 =>
  .op (.mv (e 4)) fun t56 =>
  .op (.bin .sub t56 (.int .i64 3)) fun t57 =>
  .op (.mv (e 0)) fun t58 =>
  .op (.mv (e 4)) fun t59 =>
  .op (.bin .sub t59 (.int .i64 4)) fun t60 =>
  .op (.mv (e 8)) fun t61 =>
  .op (.bin .add t61 (.int .u32 1)) fun t62 =>
  c32_r8_c1 e t55 t57 t58 t60 t62
theorem c32_r8_run {CP : CProg} (e : Env) (h : Heap) (Q : Post) : RunR CP (c32_r8 e) h Q ↔ RunR CP (
  .op (.mv (e 0)) fun t55 =>
  .op (.mv (e 4)) fun t56 =>
  .op (.bin .sub t56 (.int .i64 3)) fun t57 =>
  .op (.mv (e 0)) fun t58 =>
  .op (.mv (e 4)) fun t59 =>
  .op (.bin .sub t59 (.int .i64 4)) fun t60 =>
  .op (.mv (e 8)) fun t61 =>
  .op (.bin .add t61 (.int .u32 1)) fun t62 =>
  c32_r8_c1 e t55 t57 t58 t60 t62) h Q := Iff.rfl
def c32_r9_c1 (e : Env) (t68 : Value) (t70 : Value) (t71 : Value) (t73 : Value) (t75 : Value) : Reg :=
  .op (.indexStr (.string big0) t75) fun t76 =>
  .op (.mv (e 11)) fun t77 =>
  .op (.indexStr (.string big0) t77) fun t78 =>
  .op (.indexSl 1 t68 t70) fun t79 =>
  .snap fun h12 =>
  .op (.store 1 t79 t76) fun _ =>
  .op (.indexSl 1 t71 t73) fun t80 =>
  .snap fun h14 =>
  .op (.store 1 t80 t78) fun _ =>
  .done e
theorem c32_r9_c1_run {CP : CProg} (e : Env) (t68 : Value) (t70 : Value) (t71 : Value) (t73 : Value) (t75 : Value) (h : Heap) (Q : Post) : RunR CP (c32_r9_c1 e t68 t70 t71 t73 t75) h Q ↔ RunR CP (
  .op (.indexStr (.string big0) t75) fun t76 =>
  .op (.mv (e 11)) fun t77 =>
  .op (.indexStr (.string big0) t77) fun t78 =>
  .op (.indexSl 1 t68 t70) fun t79 =>
  .snap fun h12 =>
  .op (.store 1 t79 t76) fun _ =>
  .op (.indexSl 1 t71 t73) fun t80 =>
  .snap fun h14 =>
  .op (.store 1 t80 t78) fun _ =>
  .done e) h Q := Iff.rfl
def c32_r9 : Env → Reg := fun e =>
  .op (.mv (e 0)) fun t68 =>
  .op (.mv (e 4)) fun t69 =>
  .op (.bin .sub t69 (.int .i64 5)) fun t70 =>
  .op (.mv (e 0)) fun t71 =>
  .op (.mv (e 4)) fun t72 =>
  .op (.bin .sub t72 (.int .i64 6)) fun t73 =>
  .op (.mv (e 11)) fun t74 =>
  .op (.bin .add t74 (.int .u32 1)) fun t75 =>
  c32_r9_c1 e t68 t70 t71 t73 t75
theorem c32_r9_run {CP : CProg} (e : Env) (h : Heap) (Q : Post) : RunR CP (c32_r9 e) h Q ↔ RunR CP (
  .op (.mv (e 0)) fun t68 =>
  .op (.mv (e 4)) fun t69 =>
  .op (.bin .sub t69 (.int .i64 5)) fun t70 =>
  .op (.mv (e 0)) fun t71 =>
  .op (.mv (e 4)) fun t72 =>
  .op (.bin .sub t72 (.int .i64 6)) fun t73 =>
  .op (.mv (e 11)) fun t74 =>
  .op (.bin .add t74 (.int .u32 1)) fun t75 =>
  c32_r9_c1 e t68 t70 t71 t73 t75) h Q := Iff.rfl
def c32_r10_c1 (e : Env) (t81 : Value) (t83 : Value) (t84 : Value) (t86 : Value) (t88 : Value) : Reg :=
  .op (.indexStr (.string big0) t88) fun t89 =>
  .op (.mv (e 10)) fun t90 =>
  .op (.indexStr (.string big0) t90) fun t91 =>
  .op (.indexSl 1 t81 t83) fun t92 =>
  .snap fun h12 =>
  .op (.store 1 t92 t89) fun _ =>
  .op (.indexSl 1 t84 t86) fun t93 =>
  .snap fun h14 =>
  .op (.store 1 t93 t91) fun _ =>
  .done e
theorem c32_r10_c1_run {CP : CProg} (e : Env) (t81 : Value) (t83 : Value) (t84 : Value) (t86 : Value) (t88 : Value) (h : Heap) (Q : Post) : RunR CP (c32_r10_c1 e t81 t83 t84 t86 t88) h Q ↔ RunR CP (
  .op (.indexStr (.string big0) t88) fun t89 =>
  .op (.mv (e 10)) fun t90 =>
  .op (.indexStr (.string big0) t90) fun t91 =>
  .op (.indexSl 1 t81 t83) fun t92 =>
  .snap fun h12 =>
  .op (.store 1 t92 t89) fun _ =>
  .op (.indexSl 1 t84 t86) fun t93 =>
  .snap fun h14 =>
  .op (.store 1 t93 t91) fun _ =>
  .done e) h Q := Iff.rfl
def c32_r10 : Env → Reg := fun e =>
  .op (.mv (e 0)) fun t81 =>
  .op (.mv (e 4)) fun t82 =>
  .op (.bin .sub t82 (.int .i64 7)) fun t83 =>
  .op (.mv (e 0)) fun t84 =>
  .op (.mv (e 4)) fun t85 =>
  .op (.bin .sub t85 (.int .i64 8)) fun t86 =>
  .op (.mv (e 10)) fun t87 =>
  .op (.bin .add t87 (.int .u32 1)) fun t88 =>
  c32_r10_c1 e t81 t83 t84 t86 t88
theorem c32_r10_run {CP : CProg} (e : Env) (h : Heap) (Q : Post) : RunR CP (c32_r10 e) h Q ↔ RunR CP (
  .op (.mv (e 0)) fun t81 =>
  .op (.mv (e 4)) fun t82 =>
  .op (.bin .sub t82 (.int .i64 7)) fun t83 =>
  .op (.mv (e 0)) fun t84 =>
  .op (.mv (e 4)) fun t85 =>
  .op (.bin .sub t85 (.int .i64 8)) fun t86 =>
  .op (.mv (e 10)) fun t87 =>
  .op (.bin .add t87 (.int .u32 1)) fun t88 =>
  c32_r10_c1 e t81 t83 t84 t86 t88) h Q := Iff.rfl
def c32_r11 : Env → Reg := fun e =>
  .op (.mv (e 4)) fun t94 =>
  .op (.bin .sub t94 (.int .i64 8)) fun t95 =>
  .op (.mv t95) fun t4 =>
  .done (e.upd 4 t4)
theorem c32_r11_run {CP : CProg} (e : Env) (h : Heap) (Q : Post) : RunR CP (c32_r11 e) h Q ↔ RunR CP (
  .op (.mv (e 4)) fun t94 =>
  .op (.bin .sub t94 (.int .i64 8)) fun t95 =>
  .op (.mv t95) fun t4 =>
  .done (e.upd 4 t4)) h Q := Iff.rfl
def c32_l0 : CC := (.seq (.seq (.region c32_r1) (.cond (fun e => e 20) .skip (.exit 0))) (.block 1 (.seq (.region c32_r2) (.seq (.region c32_r3) (.seq (.region c32_r4) (.seq (.region c32_r5) (.seq (.region c32_r6) (.seq (.region c32_r7) (.seq (.region c32_r8) (.seq (.region c32_r9) (.seq (.region c32_r10) (.region c32_r11))))))))))))
def c32_r12 : Env → Reg := fun e =>
  .op (.mv (e 1)) fun t96 =>
  .op (.conv .u32 t96) fun t97 =>
  .op (.mv t97) fun t12 =>
  .done (e.upd 12 t12)
theorem c32_r12_run {CP : CProg} (e : Env) (h : Heap) (Q : Post) : RunR CP (c32_r12 e) h Q ↔ RunR CP (
  .op (.mv (e 1)) fun t96 =>
  .op (.conv .u32 t96) fun t97 =>
  .op (.mv t97) fun t12 =>
  .done (e.upd 12 t12)) h Q := Iff.rfl
def c32_r13 : Env → Reg := fun e =>
  .op (.mv (e 4)) fun t98 =>
  .op (.bin .geq t98 (.int .i64 4)) fun t99 =>
  .done (e.upd 99 t99)
theorem c32_r13_run {CP : CProg} (e : Env) (h : Heap) (Q : Post) : RunR CP (c32_r13 e) h Q ↔ RunR CP (
  .op (.mv (e 4)) fun t98 =>
  .op (.bin .geq t98 (.int .i64 4)) fun t99 =>
  .done (e.upd 99 t99)) h Q := Iff.rfl
def c32_r14 : Env → Reg := fun e =>
  .op (.mv (e 12)) fun t100 =>
  .op (.bin .rem t100 (.int .u32 10000)) fun t101 =>
  .op (.mv t101) fun t13 =>
  .done (e.upd 13 t13)
theorem c32_r14_run {CP : CProg} (e : Env) (h : Heap) (Q : Post) : RunR CP (c32_r14 e) h Q ↔ RunR CP (
  .op (.mv (e 12)) fun t100 =>
  .op (.bin .rem t100 (.int .u32 10000)) fun t101 =>
  .op (.mv t101) fun t13 =>
  .done (e.upd 13 t13)) h Q := Iff.rfl
def c32_r15 : Env → Reg := fun e =>
  .op (.mv (e 12)) fun t102 =>
  .op (.bin .quo t102 (.int .u32 10000)) fun t103 =>
  .op (.mv t103) fun t12 =>
  .done (e.upd 12 t12)
theorem c32_r15_run {CP : CProg} (e : Env) (h : Heap) (Q : Post) : RunR CP (c32_r15 e) h Q ↔ RunR CP (
  .op (.mv (e 12)) fun t102 =>
  .op (.bin .quo t102 (.int .u32 10000)) fun t103 =>
  .op (.mv t103) fun t12 =>
  .done (e.upd 12 t12)) h Q := Iff.rfl
def c32_r16 : Env → Reg := fun e =>
  .op (.mv (e 13)) fun t104 =>
  .op (.bin .quo t104 (.int .u32 100)) fun t105 =>
  .op (.bin .mul t105 (.int .u32 2)) fun t106 =>
  .op (.mv (e 13)) fun t107 =>
  .op (.bin .rem t107 (.int .u32 100)) fun t108 =>
  .op (.bin .mul t108 (.int .u32 2)) fun t109 =>
  .op (.mv t106) fun t14 =>
  .op (.mv t109) fun t15 =>
  .done ((e.upd 14 t14).upd 15 t15)
theorem c32_r16_run {CP : CProg} (e : Env) (h : Heap) (Q : Post) : RunR CP (c32_r16 e) h Q ↔ RunR CP (
  .op (.mv (e 13)) fun t104 =>
  .op (.bin .quo t104 (.int .u32 100)) fun t105 =>
  .op (.bin .mul t105 (.int .u32 2)) fun t106 =>
  .op (.mv (e 13)) fun t107 =>
  .op (.bin .rem t107 (.int .u32 100)) fun t108 =>
  .op (.bin .mul t108 (.int .u32 2)) fun t109 =>
  .op (.mv t106) fun t14 =>
  .op (.mv t109) fun t15 =>
  .done ((e.upd 14 t14).upd 15 t15)) h Q := Iff.rfl
def c32_r17_c1 (e : Env) (t110 : Value) (t112 : Value) (t113 : Value) (t115 : Value) (t117 : Value) : Reg :=
  .op (.indexStr (.string big0) t117) fun t118 =>
  .op (.mv (e 15)) fun t119 =>
  .op (.indexStr (.string big0) t119) fun t120 =>
  .op (.indexSl 1 t110 t112) fun t121 =>
  .snap fun h12 =>
  .op (.store 1 t121 t118) fun _ =>
  .op (.indexSl 1 t113 t115) fun t122 =>
  .snap fun h14 =>
  .op (.store 1 t122 t120) fun _ =>
  .done e
theorem c32_r17_c1_run {CP : CProg} (e : Env) (t110 : Value) (t112 : Value) (t113 : Value) (t115 : Value) (t117 : Value) (h : Heap) (Q : Post) : RunR CP (c32_r17_c1 e t110 t112 t113 t115 t117) h Q ↔ RunR CP (
  .op (.indexStr (.string big0) t117) fun t118 =>
  .op (.mv (e 15)) fun t119 =>
  .op (.indexStr (.string big0) t119) fun t120 =>
  .op (.indexSl 1 t110 t112) fun t121 =>
  .snap fun h12 =>
  .op (.store 1 t121 t118) fun _ =>
  .op (.indexSl 1 t113 t115) fun t122 =>
  .snap fun h14 =>
  .op (.store 1 t122 t120) fun _ =>
  .done e) h Q := Iff.rfl
def c32_r17 : Env → Reg := fun e =>
  .op (.mv (e 0)) fun t110 =>
  .op (.mv (e 4)) fun t111 =>
  .op (.bin .sub t111 (.int .i64 1)) fun t112 =>
  .op (.mv (e 0)) fun t113 =>
  .op (.mv (e 4)) fun t114 =>
  .op (.bin .sub t114 (.int .i64 2)) fun t115 =>
  .op (.mv (e 15)) fun t116 =>
  .op (.bin .add t116 (.int .u32 1)) fun t117 =>
  c32_r17_c1 e t110 t112 t113 t115 t117
theorem c32_r17_run {CP : CProg} (e : Env) (h : Heap) (Q : Post) : RunR CP (c32_r17 e) h Q ↔ RunR CP (
  .op (.mv (e 0)) fun t110 =>
  .op (.mv (e 4)) fun t111 =>
  .op (.bin .sub t111 (.int .i64 1)) fun t112 =>
  .op (.mv (e 0)) fun t113 =>
  .op (.mv (e 4)) fun t114 =>
  .op (.bin .sub t114 (.int .i64 2)) fun t115 =>
  .op (.mv (e 15)) fun t116 =>
  .op (.bin .add t116 (.int .u32 1)) fun t117 =>
  c32_r17_c1 e t110 t112 t113 t115 t117) h Q := Iff.rfl
def c32_r18_c1 (e : Env) (t123 : Value) (t125 : Value) (t126 : Value) (t128 : Value) (t130 : Value) : Reg :=
  .op (.indexStr (.string big0) t130) fun t131 =>
  .op (.mv (e 14)) fun t132 =>
  .op (.indexStr (.string big0) t132) fun t133 =>
  .op (.indexSl 1 t123 t125) fun t134 =>
  .snap fun h12 =>
  .op (.store 1 t134 t131) fun _ =>
  .op (.indexSl 1 t126 t128) fun t135 =>
  .snap fun h14 =>
  .op (.store 1 t135 t133) fun _ =>
  .done e
theorem c32_r18_c1_run {CP : CProg} (e : Env) (t123 : Value) (t125 : Value) (t126 : Value) (t128 : Value) (t130 : Value) (h : Heap) (Q : Post) : RunR CP (c32_r18_c1 e t123 t125 t126 t128 t130) h Q ↔ RunR CP (
  .op (.indexStr (.string big0) t130) fun t131 =>
  .op (.mv (e 14)) fun t132 =>
  .op (.indexStr (.string big0) t132) fun t133 =>
  .op (.indexSl 1 t123 t125) fun t134 =>
  .snap fun h12 =>
  .op (.store 1 t134 t131) fun _ =>
  .op (.indexSl 1 t126 t128) fun t135 =>
  .snap fun h14 =>
  .op (.store 1 t135 t133) fun _ =>
  .done e) h Q := Iff.rfl
def c32_r18 : Env → Reg := fun e =>
  .op (.mv (e 0)) fun t123 =>
  .op (.mv (e 4)) fun t124 =>
  .op (.bin .sub t124 (.int .i64 3)) fun t125 =>
  .op (.mv (e 0)) fun t126 =>
  .op (.mv (e 4)) fun t127 =>
  .op (.bin .sub t127 (.int .i64 4)) fun t128 =>
  .op (.mv (e 14)) fun t129 =>
  .op (.bin .add t129 (.int .u32 1)) fun t130 =>
  c32_r18_c1 e t123 t125 t126 t128 t130
theorem c32_r18_run {CP : CProg} (e : Env) (h : Heap) (Q : Post) : RunR CP (c32_r18 e) h Q ↔ RunR CP (
  .op (.mv (e 0)) fun t123 =>
  .op (.mv (e 4)) fun t124 =>
  .op (.bin .sub t124 (.int .i64 3)) fun t125 =>
  .op (.mv (e 0)) fun t126 =>
  .op (.mv (e 4)) fun t127 =>
  .op (.bin .sub t127 (.int .i64 4)) fun t128 =>
  .op (.mv (e 14)) fun t129 =>
  .op (.bin .add t129 (.int .u32 1)) fun t130 =>
  c32_r18_c1 e t123 t125 t126 t128 t130) h Q := Iff.rfl
def c32_r19 : Env → Reg := fun e =>
  .op (.mv (e 4)) fun t136 =>
  .op (.bin .sub t136 (.int .i64 4)) fun t137 =>
  .op (.mv t137) fun t4 =>
  .done (e.upd 4 t4)
theorem c32_r19_run {CP : CProg} (e : Env) (h : Heap) (Q : Post) : RunR CP (c32_r19 e) h Q ↔ RunR CP (
  .op (.mv (e 4)) fun t136 =>
  .op (.bin .sub t136 (.int .i64 4)) fun t137 =>
  .op (.mv t137) fun t4 =>
  .done (e.upd 4 t4)) h Q := Iff.rfl
def c32_r20 : Env → Reg := fun e =>
  .op (.mv (e 4)) fun t138 =>
  .op (.bin .geq t138 (.int .i64 2)) fun t139 =>
  .done (e.upd 139 t139)
theorem c32_r20_run {CP : CProg} (e : Env) (h : Heap) (Q : Post) : RunR CP (c32_r20 e) h Q ↔ RunR CP (
  .op (.mv (e 4)) fun t138 =>
  .op (.bin .geq t138 (.int .i64 2)) fun t139 =>
  .done (e.upd 139 t139)) h Q := Iff.rfl
def c32_r21 : Env → Reg := fun e =>
  .op (.mv (e 12)) fun t140 =>
  .op (.bin .rem t140 (.int .u32 100)) fun t141 =>
  .op (.bin .mul t141 (.int .u32 2)) fun t142 =>
  .op (.mv t142) fun t16 =>
  .done (e.upd 16 t16)
theorem c32_r21_run {CP : CProg} (e : Env) (h : Heap) (Q : Post) : RunR CP (c32_r21 e) h Q ↔ RunR CP (
  .op (.mv (e 12)) fun t140 =>
  .op (.bin .rem t140 (.int .u32 100)) fun t141 =>
  .op (.bin .mul t141 (.int .u32 2)) fun t142 =>
  .op (.mv t142) fun t16 =>
  .done (e.upd 16 t16)) h Q := Iff.rfl
def c32_r22 : Env → Reg := fun e =>
  .op (.mv (e 12)) fun t143 =>
  .op (.bin .quo t143 (.int .u32 100)) fun t144 =>
  .op (.mv t144) fun t12 =>
  .done (e.upd 12 t12)
theorem c32_r22_run {CP : CProg} (e : Env) (h : Heap) (Q : Post) : RunR CP (c32_r22 e) h Q ↔ RunR CP (
  .op (.mv (e 12)) fun t143 =>
  .op (.bin .quo t143 (.int .u32 100)) fun t144 =>
  .op (.mv t144) fun t12 =>
  .done (e.upd 12 t12)) h Q := Iff.rfl
def c32_r23_c1 (e : Env) (t145 : Value) (t147 : Value) (t148 : Value) (t150 : Value) (t152 : Value) : Reg :=
  .op (.indexStr (.string big0) t152) fun t153 =>
  .op (.mv (e 16)) fun t154 =>
  .op (.indexStr (.string big0) t154) fun t155 =>
  .op (.indexSl 1 t145 t147) fun t156 =>
  .snap fun h12 =>
  .op (.store 1 t156 t153) fun _ =>
  .op (.indexSl 1 t148 t150) fun t157 =>
  .snap fun h14 =>
  .op (.store 1 t157 t155) fun _ =>
  .done e
theorem c32_r23_c1_run {CP : CProg} (e : Env) (t145 : Value) (t147 : Value) (t148 : Value) (t150 : Value) (t152 : Value) (h : Heap) (Q : Post) : RunR CP (c32_r23_c1 e t145 t147 t148 t150 t152) h Q ↔ RunR CP (
  .op (.indexStr (.string big0) t152) fun t153 =>
  .op (.mv (e 16)) fun t154 =>
  .op (.indexStr (.string big0) t154) fun t155 =>
  .op (.indexSl 1 t145 t147) fun t156 =>
  .snap fun h12 =>
  .op (.store 1 t156 t153) fun _ =>
  .op (.indexSl 1 t148 t150) fun t157 =>
  .snap fun h14 =>
  .op (.store 1 t157 t155) fun _ =>
  .done e) h Q := Iff.rfl
def c32_r23 : Env → Reg := fun e =>
  .op (.mv (e 0)) fun t145 =>
  .op (.mv (e 4)) fun t146 =>
  .op (.bin .sub t146 (.int .i64 1)) fun t147 =>
  .op (.mv (e 0)) fun t148 =>
  .op (.mv (e 4)) fun t149 =>
  .op (.bin .sub t149 (.int .i64 2)) fun t150 =>
  .op (.mv (e 16)) fun t151 =>
  .op (.bin .add t151 (.int .u32 1)) fun t152 =>
  c32_r23_c1 e t145 t147 t148 t150 t152
theorem c32_r23_run {CP : CProg} (e : Env) (h : Heap) (Q : Post) : RunR CP (c32_r23 e) h Q ↔ RunR CP (
  .op (.mv (e 0)) fun t145 =>
  .op (.mv (e 4)) fun t146 =>
  .op (.bin .sub t146 (.int .i64 1)) fun t147 =>
  .op (.mv (e 0)) fun t148 =>
  .op (.mv (e 4)) fun t149 =>
  .op (.bin .sub t149 (.int .i64 2)) fun t150 =>
  .op (.mv (e 16)) fun t151 =>
  .op (.bin .add t151 (.int .u32 1)) fun t152 =>
  c32_r23_c1 e t145 t147 t148 t150 t152) h Q := Iff.rfl
def c32_r24 : Env → Reg := fun e =>
  .op (.mv (e 4)) fun t158 =>
  .op (.bin .sub t158 (.int .i64 2)) fun t159 =>
  .op (.mv t159) fun t4 =>
  .done (e.upd 4 t4)
theorem c32_r24_run {CP : CProg} (e : Env) (h : Heap) (Q : Post) : RunR CP (c32_r24 e) h Q ↔ RunR CP (
  .op (.mv (e 4)) fun t158 =>
  .op (.bin .sub t158 (.int .i64 2)) fun t159 =>
  .op (.mv t159) fun t4 =>
  .done (e.upd 4 t4)) h Q := Iff.rfl
def c32_r25 : Env → Reg := fun e =>
  .op (.mv (e 4)) fun t160 =>
  .op (.bin .gtr t160 (.int .i64 0)) fun t161 =>
  .done (e.upd 161 t161)
theorem c32_r25_run {CP : CProg} (e : Env) (h : Heap) (Q : Post) : RunR CP (c32_r25 e) h Q ↔ RunR CP (
  .op (.mv (e 4)) fun t160 =>
  .op (.bin .gtr t160 (.int .i64 0)) fun t161 =>
  .done (e.upd 161 t161)) h Q := Iff.rfl
def c32_r26 : Env → Reg := fun e =>
  .op (.mv (e 0)) fun t162 =>
  .op (.mv (e 12)) fun t163 =>
  .op (.bin .add (.int .u32 48) t163) fun t164 =>
  .op (.conv .u8 t164) fun t165 =>
  .op (.indexSl 1 t162 (.int .i64 0)) fun t166 =>
  .op (.store 1 t166 t165) fun _ =>
  .done e
theorem c32_r26_run {CP : CProg} (e : Env) (h : Heap) (Q : Post) : RunR CP (c32_r26 e) h Q ↔ RunR CP (
  .op (.mv (e 0)) fun t162 =>
  .op (.mv (e 12)) fun t163 =>
  .op (.bin .add (.int .u32 48) t163) fun t164 =>
  .op (.conv .u8 t164) fun t165 =>
  .op (.indexSl 1 t162 (.int .i64 0)) fun t166 =>
  .op (.store 1 t166 t165) fun _ =>
  .done e) h Q := Iff.rfl
def c32 : CFn := ⟨(.seq (.region c32_r0) (.seq (.block 0 (.loop c32_l0)) (.seq (.region c32_r12) (.seq (.seq (.region c32_r13) (.cond (fun e => e 99) (.seq (.region c32_r14) (.seq (.region c32_r15) (.seq (.region c32_r16) (.seq (.region c32_r17) (.seq (.region c32_r18) (.region c32_r19)))))) .skip)) (.seq (.seq (.region c32_r20) (.cond (fun e => e 139) (.seq (.region c32_r21) (.seq (.region c32_r22) (.seq (.region c32_r23) (.region c32_r24)))) .skip)) (.seq (.region c32_r25) (.cond (fun e => e 161) (.region c32_r26) .skip))))))), []⟩
def p32 : Pers := ⟨17, [20, 99, 139, 161], 167⟩
-- 33: internal/strconv.formatBits
def c33_r0 : Env → Reg := fun e =>
  .op (.mv (.slice none 0 0)) fun t10 =>
  .op (.mv (.string ⟨#[]⟩)) fun t11 =>
  .done ((e.upd 10 t10).upd 11 t11)
theorem c33_r0_run {CP : CProg} (e : Env) (h : Heap) (Q : Post) : RunR CP (c33_r0 e) h Q ↔ RunR CP (
  .op (.mv (.slice none 0 0)) fun t10 =>
  .op (.mv (.string ⟨#[]⟩)) fun t11 =>
  .done ((e.upd 10 t10).upd 11 t11)) h Q := Iff.rfl
def c33_r1 : Env → Reg := fun e =>
  .op (.mv (e 2)) fun t19 =>
  .op (.bin .lss t19 (.int .i64 2)) fun t20 =>
  .op (.mv t20) fun t21 =>
  .opg t21 false (.mv (e 2)) fun t22 =>
  .opg t21 false (.bin .eql t22 (.int .i64 10)) fun t23 =>
  .op (.pick t21 (.bool true) t23) fun t24 =>
  .op (.mv t24) fun t25 =>
  .opg t25 false (.mv (e 2)) fun t26 =>
  .opg t25 false (.bin .gtr t26 (.int .i64 36)) fun t27 =>
  .op (.pick t25 (.bool true) t27) fun t28 =>
  .done (e.upd 28 t28)
theorem c33_r1_run {CP : CProg} (e : Env) (h : Heap) (Q : Post) : RunR CP (c33_r1 e) h Q ↔ RunR CP (
  .op (.mv (e 2)) fun t19 =>
  .op (.bin .lss t19 (.int .i64 2)) fun t20 =>
  .op (.mv t20) fun t21 =>
  .opg t21 false (.mv (e 2)) fun t22 =>
  .opg t21 false (.bin .eql t22 (.int .i64 10)) fun t23 =>
  .op (.pick t21 (.bool true) t23) fun t24 =>
  .op (.mv t24) fun t25 =>
  .opg t25 false (.mv (e 2)) fun t26 =>
  .opg t25 false (.bin .gtr t26 (.int .i64 36)) fun t27 =>
  .op (.pick t25 (.bool true) t27) fun t28 =>
  .done (e.upd 28 t28)) h Q := Iff.rfl
def c33_r2 : Env → Reg := fun e =>
  .op (.bad) fun t29 =>
  .op (.bad) fun _ =>
  .done e
theorem c33_r2_run {CP : CProg} (e : Env) (h : Heap) (Q : Post) : RunR CP (c33_r2 e) h Q ↔ RunR CP (
  .op (.bad) fun t29 =>
  .op (.bad) fun _ =>
  .done e) h Q := Iff.rfl
def c33_r3 : Env → Reg := fun e =>
  .op (.alloc 81 [(.int .u8 0), (.int .u8 0), (.int .u8 0), (.int .u8 0), (.int .u8 0), (.int .u8 0), (.int .u8 0), (.int .u8 0), (.int .u8 0), (.int .u8 0), (.int .u8 0), (.int .u8 0), (.int .u8 0), (.int .u8 0), (.int .u8 0), (.int .u8 0), (.int .u8 0), (.int .u8 0), (.int .u8 0), (.int .u8 0), (.int .u8 0), (.int .u8 0), (.int .u8 0), (.int .u8 0), (.int .u8 0), (.int .u8 0), (.int .u8 0), (.int .u8 0), (.int .u8 0), (.int .u8 0), (.int .u8 0), (.int .u8 0), (.int .u8 0), (.int .u8 0), (.int .u8 0), (.int .u8 0), (.int .u8 0), (.int .u8 0), (.int .u8 0), (.int .u8 0), (.int .u8 0), (.int .u8 0), (.int .u8 0), (.int .u8 0), (.int .u8 0), (.int .u8 0), (.int .u8 0), (.int .u8 0), (.int .u8 0), (.int .u8 0), (.int .u8 0), (.int .u8 0), (.int .u8 0), (.int .u8 0), (.int .u8 0), (.int .u8 0), (.int .u8 0), (.int .u8 0), (.int .u8 0), (.int .u8 0), (.int .u8 0), (.int .u8 0), (.int .u8 0), (.int .u8 0), (.int .u8 0)]) fun t12 =>
  .done (e.upd 12 t12)
theorem c33_r3_run {CP : CProg} (e : Env) (h : Heap) (Q : Post) : RunR CP (c33_r3 e) h Q ↔ RunR CP (
  .op (.alloc 81 [(.int .u8 0), (.int .u8 0), (.int .u8 0), (.int .u8 0), (.int .u8 0), (.int .u8 0), (.int .u8 0), (.int .u8 0), (.int .u8 0), (.int .u8 0), (.int .u8 0), (.int .u8 0), (.int .u8 0), (.int .u8 0), (.int .u8 0), (.int .u8 0), (.int .u8 0), (.int .u8 0), (.int .u8 0), (.int .u8 0), (.int .u8 0), (.int .u8 0), (.int .u8 0), (.int .u8 0), (.int .u8 0), (.int .u8 0), (.int .u8 0), (.int .u8 0), (.int .u8 0), (.int .u8 0), (.int .u8 0), (.int .u8 0), (.int .u8 0), (.int .u8 0), (.int .u8 0), (.int .u8 0), (.int .u8 0), (.int .u8 0), (.int .u8 0), (.int .u8 0), (.int .u8 0), (.int .u8 0), (.int .u8 0), (.int .u8 0), (.int .u8 0), (.int .u8 0), (.int .u8 0), (.int .u8 0), (.int .u8 0), (.int .u8 0), (.int .u8 0), (.int .u8 0), (.int .u8 0), (.int .u8 0), (.int .u8 0), (.int .u8 0), (.int .u8 0), (.int .u8 0), (.int .u8 0), (.int .u8 0), (.int .u8 0), (.int .u8 0), (.int .u8 0), (.int .u8 0), (.int .u8 0)]) fun t12 =>
  .done (e.upd 12 t12)) h Q := Iff.rfl
def c33_r4 : Env → Reg := fun e =>
  .op (.mv (.int .i64 65)) fun t13 =>
  .done (e.upd 13 t13)
theorem c33_r4_run {CP : CProg} (e : Env) (h : Heap) (Q : Post) : RunR CP (c33_r4 e) h Q ↔ RunR CP (
  .op (.mv (.int .i64 65)) fun t13 =>
  .done (e.upd 13 t13)) h Q := Iff.rfl
def c33_r5 : Env → Reg := fun e =>
  .op (.mv (e 3)) fun t30 =>
  .done (e.upd 30 t30)
theorem c33_r5_run {CP : CProg} (e : Env) (h : Heap) (Q : Post) : RunR CP (c33_r5 e) h Q ↔ RunR CP (
  .op (.mv (e 3)) fun t30 =>
  .done (e.upd 30 t30)) h Q := Iff.rfl
def c33_r6 : Env → Reg := fun e =>
  .op (.mv (e 1)) fun t31 =>
  .op (.un .neg t31) fun t32 =>
  .op (.mv t32) fun t1 =>
  .done (e.upd 1 t1)
theorem c33_r6_run {CP : CProg} (e : Env) (h : Heap) (Q : Post) : RunR CP (c33_r6 e) h Q ↔ RunR CP (
  .op (.mv (e 1)) fun t31 =>
  .op (.un .neg t31) fun t32 =>
  .op (.mv t32) fun t1 =>
  .done (e.upd 1 t1)) h Q := Iff.rfl
def c33_r7 : Env → Reg := fun e =>
  .op (.mv (e 2)) fun t33 =>
  .op (.call 37 [t33]) fun t34 =>
  .done (e.upd 34 t34)
theorem c33_r7_run {CP : CProg} (e : Env) (h : Heap) (Q : Post) : RunR CP (c33_r7 e) h Q ↔ RunR CP (
  .op (.mv (e 2)) fun t33 =>
  .op (.call 37 [t33]) fun t34 =>
  .done (e.upd 34 t34)) h Q := Iff.rfl
def c33_r8 : Env → Reg := fun e =>
  .op (.mv (e 2)) fun t35 =>
  .op (.conv .u64 t35) fun t36 =>
  .op (.call 38 [t36]) fun t37 =>
  .op (.conv .u64 t37) fun t38 =>
  .op (.mv t38) fun t14 =>
  .done (e.upd 14 t14)
theorem c33_r8_run {CP : CProg} (e : Env) (h : Heap) (Q : Post) : RunR CP (c33_r8 e) h Q ↔ RunR CP (
  .op (.mv (e 2)) fun t35 =>
  .op (.conv .u64 t35) fun t36 =>
  .op (.call 38 [t36]) fun t37 =>
  .op (.conv .u64 t37) fun t38 =>
  .op (.mv t38) fun t14 =>
  .done (e.upd 14 t14)) h Q := Iff.rfl
def c33_r9 : Env → Reg := fun e =>
  .op (.mv (e 2)) fun t39 =>
  .op (.conv .u64 t39) fun t40 =>
  .op (.mv t40) fun t15 =>
  .done (e.upd 15 t15)
theorem c33_r9_run {CP : CProg} (e : Env) (h : Heap) (Q : Post) : RunR CP (c33_r9 e) h Q ↔ RunR CP (
  .op (.mv (e 2)) fun t39 =>
  .op (.conv .u64 t39) fun t40 =>
  .op (.mv t40) fun t15 =>
  .done (e.upd 15 t15)) h Q := Iff.rfl
def c33_r10 : Env → Reg := fun e =>
  .op (.mv (e 2)) fun t41 =>
  .op (.conv .u64 t41) fun t42 =>
  .op (.bin .sub t42 (.int .u64 1)) fun t43 =>
  .op (.mv t43) fun t16 =>
  .done (e.upd 16 t16)
theorem c33_r10_run {CP : CProg} (e : Env) (h : Heap) (Q : Post) : RunR CP (c33_r10 e) h Q ↔ RunR CP (
  .op (.mv (e 2)) fun t41 =>
  .op (.conv .u64 t41) fun t42 =>
  .op (.bin .sub t42 (.int .u64 1)) fun t43 =>
  .op (.mv t43) fun t16 =>
  .done (e.upd 16 t16)) h Q := Iff.rfl
def c33_r11 : Env → Reg := fun e =>
  .op (.mv (e 1)) fun t44 =>
  .op (.mv (e 15)) fun t45 =>
  .op (.bin .geq t44 t45) fun t46 =>
  .done (e.upd 46 t46)
theorem c33_r11_run {CP : CProg} (e : Env) (h : Heap) (Q : Post) : RunR CP (c33_r11 e) h Q ↔ RunR CP (
  .op (.mv (e 1)) fun t44 =>
  .op (.mv (e 15)) fun t45 =>
  .op (.bin .geq t44 t45) fun t46 =>
  .done (e.upd 46 t46)) h Q := Iff.rfl
def c33_r12 : Env → Reg := fun e =>
  .op (.mv (e 13)) fun t47 =>
  .op (.bin .sub t47 (.int .i64 1)) fun t48 =>
  .op (.mv t48) fun t13 =>
  .done (e.upd 13 t13)
theorem c33_r12_run {CP : CProg} (e : Env) (h : Heap) (Q : Post) : RunR CP (c33_r12 e) h Q ↔ RunR CP (
  .op (.mv (e 13)) fun t47 =>
  .op (.bin .sub t47 (.int .i64 1)) fun t48 =>
  .op (.mv t48) fun t13 =>
  .done (e.upd 13 t13)) h Q := Iff.rfl
def c33_r13 : Env → Reg := fun e =>
  .op (.mv (e 13)) fun t49 =>
  .op (.mv (e 1)) fun t50 =>
  .op (.mv (e 16)) fun t51 =>
  .op (.bin .and t50 t51) fun t52 =>
  .op (.indexStr (.string ⟨#[48, 49, 50, 51, 52, 53, 54, 55, 56, 57, 97, 98, 99, 100, 101, 102, 103, 104, 105, 106, 107, 108, 109, 110, 111, 112, 113, 114, 115, 116, 117, 118, 119, 120, 121, 122]⟩) t52) fun t53 =>
  .op (.indexArr 65 1 (e 12) t49) fun t54 =>
  .op (.store 1 t54 t53) fun _ =>
  .done e
theorem c33_r13_run {CP : CProg} (e : Env) (h : Heap) (Q : Post) : RunR CP (c33_r13 e) h Q ↔ RunR CP (
  .op (.mv (e 13)) fun t49 =>
  .op (.mv (e 1)) fun t50 =>
  .op (.mv (e 16)) fun t51 =>
  .op (.bin .and t50 t51) fun t52 =>
  .op (.indexStr (.string ⟨#[48, 49, 50, 51, 52, 53, 54, 55, 56, 57, 97, 98, 99, 100, 101, 102, 103, 104, 105, 106, 107, 108, 109, 110, 111, 112, 113, 114, 115, 116, 117, 118, 119, 120, 121, 122]⟩) t52) fun t53 =>
  .op (.indexArr 65 1 (e 12) t49) fun t54 =>
  .op (.store 1 t54 t53) fun _ =>
  .done e) h Q := Iff.rfl
def c33_r14 : Env → Reg := fun e =>
  .op (.mv (e 1)) fun t55 =>
  .op (.mv (e 14)) fun t56 =>
  .op (.bin .shr t55 t56) fun t57 =>
  .op (.mv t57) fun t1 =>
  .done (e.upd 1 t1)
theorem c33_r14_run {CP : CProg} (e : Env) (h : Heap) (Q : Post) : RunR CP (c33_r14 e) h Q ↔ RunR CP (
  .op (.mv (e 1)) fun t55 =>
  .op (.mv (e 14)) fun t56 =>
  .op (.bin .shr t55 t56) fun t57 =>
  .op (.mv t57) fun t1 =>
  .done (e.upd 1 t1)) h Q := Iff.rfl
def c33_l0 : CC := (.seq (.seq (.region c33_r11) (.cond (fun e => e 46) .skip (.exit 0))) (.block 1 (.seq (.region c33_r12) (.seq (.region c33_r13) (.region c33_r14)))))
def c33_r15 : Env → Reg := fun e =>
  .op (.mv (e 13)) fun t58 =>
  .op (.bin .sub t58 (.int .i64 1)) fun t59 =>
  .op (.mv t59) fun t13 =>
  .done (e.upd 13 t13)
theorem c33_r15_run {CP : CProg} (e : Env) (h : Heap) (Q : Post) : RunR CP (c33_r15 e) h Q ↔ RunR CP (
  .op (.mv (e 13)) fun t58 =>
  .op (.bin .sub t58 (.int .i64 1)) fun t59 =>
  .op (.mv t59) fun t13 =>
  .done (e.upd 13 t13)) h Q := Iff.rfl
def c33_r16 : Env → Reg := fun e =>
  .op (.mv (e 13)) fun t60 =>
  .op (.mv (e 1)) fun t61 =>
  .op (.indexStr (.string ⟨#[48, 49, 50, 51, 52, 53, 54, 55, 56, 57, 97, 98, 99, 100, 101, 102, 103, 104, 105, 106, 107, 108, 109, 110, 111, 112, 113, 114, 115, 116, 117, 118, 119, 120, 121, 122]⟩) t61) fun t62 =>
  .op (.indexArr 65 1 (e 12) t60) fun t63 =>
  .op (.store 1 t63 t62) fun _ =>
  .done e
theorem c33_r16_run {CP : CProg} (e : Env) (h : Heap) (Q : Post) : RunR CP (c33_r16 e) h Q ↔ RunR CP (
  .op (.mv (e 13)) fun t60 =>
  .op (.mv (e 1)) fun t61 =>
  .op (.indexStr (.string ⟨#[48, 49, 50, 51, 52, 53, 54, 55, 56, 57, 97, 98, 99, 100, 101, 102, 103, 104, 105, 106, 107, 108, 109, 110, 111, 112, 113, 114, 115, 116, 117, 118, 119, 120, 121, 122]⟩) t61) fun t62 =>
  .op (.indexArr 65 1 (e 12) t60) fun t63 =>
  .op (.store 1 t63 t62) fun _ =>
  .done e) h Q := Iff.rfl
def c33_r17 : Env → Reg := fun e =>
  .op (.mv (e 2)) fun t64 =>
  .op (.conv .u64 t64) fun t65 =>
  .op (.mv t65) fun t17 =>
  .done (e.upd 17 t17)
theorem c33_r17_run {CP : CProg} (e : Env) (h : Heap) (Q : Post) : RunR CP (c33_r17 e) h Q ↔ RunR CP (
  .op (.mv (e 2)) fun t64 =>
  .op (.conv .u64 t64) fun t65 =>
  .op (.mv t65) fun t17 =>
  .done (e.upd 17 t17)) h Q := Iff.rfl
def c33_r18 : Env → Reg := fun e =>
  .op (.mv (e 1)) fun t66 =>
  .op (.mv (e 17)) fun t67 =>
  .op (.bin .geq t66 t67) fun t68 =>
  .done (e.upd 68 t68)
theorem c33_r18_run {CP : CProg} (e : Env) (h : Heap) (Q : Post) : RunR CP (c33_r18 e) h Q ↔ RunR CP (
  .op (.mv (e 1)) fun t66 =>
  .op (.mv (e 17)) fun t67 =>
  .op (.bin .geq t66 t67) fun t68 =>
  .done (e.upd 68 t68)) h Q := Iff.rfl
def c33_r19 : Env → Reg := fun e =>
  .op (.mv (e 13)) fun t69 =>
  .op (.bin .sub t69 (.int .i64 1)) fun t70 =>
  .op (.mv t70) fun t13 =>
  .done (e.upd 13 t13)
theorem c33_r19_run {CP : CProg} (e : Env) (h : Heap) (Q : Post) : RunR CP (c33_r19 e) h Q ↔ RunR CP (
  .op (.mv (e 13)) fun t69 =>
  .op (.bin .sub t69 (.int .i64 1)) fun t70 =>
  .op (.mv t70) fun t13 =>
  .done (e.upd 13 t13)) h Q := Iff.rfl
def c33_r20 : Env → Reg := fun e =>
  .op (.mv (e 1)) fun t71 =>
  .op (.mv (e 17)) fun t72 =>
  .op (.bin .quo t71 t72) fun t73 =>
  .op (.mv t73) fun t18 =>
  .done (e.upd 18 t18)
theorem c33_r20_run {CP : CProg} (e : Env) (h : Heap) (Q : Post) : RunR CP (c33_r20 e) h Q ↔ RunR CP (
  .op (.mv (e 1)) fun t71 =>
  .op (.mv (e 17)) fun t72 =>
  .op (.bin .quo t71 t72) fun t73 =>
  .op (.mv t73) fun t18 =>
  .done (e.upd 18 t18)) h Q := Iff.rfl
def c33_r21 : Env → Reg := fun e =>
  .op (.mv (e 13)) fun t74 =>
  .op (.mv (e 1)) fun t75 =>
  .op (.mv (e 18)) fun t76 =>
  .op (.mv (e 17)) fun t77 =>
  .op (.bin .mul t76 t77) fun t78 =>
  .op (.bin .sub t75 t78) fun t79 =>
  .op (.indexStr (.string ⟨#[48, 49, 50, 51, 52, 53, 54, 55, 56, 57, 97, 98, 99, 100, 101, 102, 103, 104, 105, 106, 107, 108, 109, 110, 111, 112, 113, 114, 115, 116, 117, 118, 119, 120, 121, 122]⟩) t79) fun t80 =>
  .op (.indexArr 65 1 (e 12) t74) fun t81 =>
  .op (.store 1 t81 t80) fun _ =>
  .done e
theorem c33_r21_run {CP : CProg} (e : Env) (h : Heap) (Q : Post) : RunR CP (c33_r21 e) h Q ↔ RunR CP (
  .op (.mv (e 13)) fun t74 =>
  .op (.mv (e 1)) fun t75 =>
  .op (.mv (e 18)) fun t76 =>
  .op (.mv (e 17)) fun t77 =>
  .op (.bin .mul t76 t77) fun t78 =>
  .op (.bin .sub t75 t78) fun t79 =>
  .op (.indexStr (.string ⟨#[48, 49, 50, 51, 52, 53, 54, 55, 56, 57, 97, 98, 99, 100, 101, 102, 103, 104, 105, 106, 107, 108, 109, 110, 111, 112, 113, 114, 115, 116, 117, 118, 119, 120, 121, 122]⟩) t79) fun t80 =>
  .op (.indexArr 65 1 (e 12) t74) fun t81 =>
  .op (.store 1 t81 t80) fun _ =>
  .done e) h Q := Iff.rfl
def c33_r22 : Env → Reg := fun e =>
  .op (.mv (e 18)) fun t82 =>
  .op (.mv t82) fun t1 =>
  .done (e.upd 1 t1)
theorem c33_r22_run {CP : CProg} (e : Env) (h : Heap) (Q : Post) : RunR CP (c33_r22 e) h Q ↔ RunR CP (
  .op (.mv (e 18)) fun t82 =>
  .op (.mv t82) fun t1 =>
  .done (e.upd 1 t1)) h Q := Iff.rfl
def c33_l1 : CC := (.seq (.seq (.region c33_r18) (.cond (fun e => e 68) .skip (.exit 2))) (.block 3 (.seq (.region c33_r19) (.seq (.region c33_r20) (.seq (.region c33_r21) (.region c33_r22))))))
def c33_r23 : Env → Reg := fun e =>
  .op (.mv (e 13)) fun t83 =>
  .op (.bin .sub t83 (.int .i64 1)) fun t84 =>
  .op (.mv t84) fun t13 =>
  .done (e.upd 13 t13)
theorem c33_r23_run {CP : CProg} (e : Env) (h : Heap) (Q : Post) : RunR CP (c33_r23 e) h Q ↔ RunR CP (
  .op (.mv (e 13)) fun t83 =>
  .op (.bin .sub t83 (.int .i64 1)) fun t84 =>
  .op (.mv t84) fun t13 =>
  .done (e.upd 13 t13)) h Q := Iff.rfl
def c33_r24 : Env → Reg := fun e =>
  .op (.mv (e 13)) fun t85 =>
  .op (.mv (e 1)) fun t86 =>
  .op (.indexStr (.string ⟨#[48, 49, 50, 51, 52, 53, 54, 55, 56, 57, 97, 98, 99, 100, 101, 102, 103, 104, 105, 106, 107, 108, 109, 110, 111, 112, 113, 114, 115, 116, 117, 118, 119, 120, 121, 122]⟩) t86) fun t87 =>
  .op (.indexArr 65 1 (e 12) t85) fun t88 =>
  .op (.store 1 t88 t87) fun _ =>
  .done e
theorem c33_r24_run {CP : CProg} (e : Env) (h : Heap) (Q : Post) : RunR CP (c33_r24 e) h Q ↔ RunR CP (
  .op (.mv (e 13)) fun t85 =>
  .op (.mv (e 1)) fun t86 =>
  .op (.indexStr (.string ⟨#[48, 49, 50, 51, 52, 53, 54, 55, 56, 57, 97, 98, 99, 100, 101, 102, 103, 104, 105, 106, 107, 108, 109, 110, 111, 112, 113, 114, 115, 116, 117, 118, 119, 120, 121, 122]⟩) t86) fun t87 =>
  .op (.indexArr 65 1 (e 12) t85) fun t88 =>
  .op (.store 1 t88 t87) fun _ =>
  .done e) h Q := Iff.rfl
def c33_r25 : Env → Reg := fun e =>
  .op (.mv (e 3)) fun t89 =>
  .done (e.upd 89 t89)
theorem c33_r25_run {CP : CProg} (e : Env) (h : Heap) (Q : Post) : RunR CP (c33_r25 e) h Q ↔ RunR CP (
  .op (.mv (e 3)) fun t89 =>
  .done (e.upd 89 t89)) h Q := Iff.rfl
def c33_r26 : Env → Reg := fun e =>
  .op (.mv (e 13)) fun t90 =>
  .op (.bin .sub t90 (.int .i64 1)) fun t91 =>
  .op (.mv t91) fun t13 =>
  .done (e.upd 13 t13)
theorem c33_r26_run {CP : CProg} (e : Env) (h : Heap) (Q : Post) : RunR CP (c33_r26 e) h Q ↔ RunR CP (
  .op (.mv (e 13)) fun t90 =>
  .op (.bin .sub t90 (.int .i64 1)) fun t91 =>
  .op (.mv t91) fun t13 =>
  .done (e.upd 13 t13)) h Q := Iff.rfl
def c33_r27 : Env → Reg := fun e =>
  .op (.mv (e 13)) fun t92 =>
  .op (.indexArr 65 1 (e 12) t92) fun t93 =>
  .op (.store 1 t93 (.int .u8 45)) fun _ =>
  .done e
theorem c33_r27_run {CP : CProg} (e : Env) (h : Heap) (Q : Post) : RunR CP (c33_r27 e) h Q ↔ RunR CP (
  .op (.mv (e 13)) fun t92 =>
  .op (.indexArr 65 1 (e 12) t92) fun t93 =>
  .op (.store 1 t93 (.int .u8 45)) fun _ =>
  .done e) h Q := Iff.rfl
def c33_r28 : Env → Reg := fun e =>
  .op (.mv (e 4)) fun t94 =>
  .done (e.upd 94 t94)
theorem c33_r28_run {CP : CProg} (e : Env) (h : Heap) (Q : Post) : RunR CP (c33_r28 e) h Q ↔ RunR CP (
  .op (.mv (e 4)) fun t94 =>
  .done (e.upd 94 t94)) h Q := Iff.rfl
def c33_r29 : Env → Reg := fun e =>
  .op (.mv (e 0)) fun t95 =>
  .op (.mv (e 13)) fun t96 =>
  .op (.sliceArr 65 1 (e 12) (some t96) none) fun t97 =>
  .op (.append 5 1 1 t95 t97) fun t98 =>
  .op (.mv t98) fun t10 =>
  .done (e.upd 10 t10)
theorem c33_r29_run {CP : CProg} (e : Env) (h : Heap) (Q : Post) : RunR CP (c33_r29 e) h Q ↔ RunR CP (
  .op (.mv (e 0)) fun t95 =>
  .op (.mv (e 13)) fun t96 =>
  .op (.sliceArr 65 1 (e 12) (some t96) none) fun t97 =>
  .op (.append 5 1 1 t95 t97) fun t98 =>
  .op (.mv t98) fun t10 =>
  .done (e.upd 10 t10)) h Q := Iff.rfl
def c33_r30 : Env → Reg := fun e =>
  .op (.mv (e 13)) fun t99 =>
  .op (.sliceArr 65 1 (e 12) (some t99) none) fun t100 =>
  .op (.toStr t100) fun t101 =>
  .op (.mv t101) fun t11 =>
  .done (e.upd 11 t11)
theorem c33_r30_run {CP : CProg} (e : Env) (h : Heap) (Q : Post) : RunR CP (c33_r30 e) h Q ↔ RunR CP (
  .op (.mv (e 13)) fun t99 =>
  .op (.sliceArr 65 1 (e 12) (some t99) none) fun t100 =>
  .op (.toStr t100) fun t101 =>
  .op (.mv t101) fun t11 =>
  .done (e.upd 11 t11)) h Q := Iff.rfl
def c33 : CFn := ⟨(.seq (.region c33_r0) (.seq (.seq (.region c33_r1) (.cond (fun e => e 28) (.region c33_r2) .skip)) (.seq (.region c33_r3) (.seq (.region c33_r4) (.seq (.seq (.region c33_r5) (.cond (fun e => e 30) (.region c33_r6) .skip)) (.seq (.seq (.region c33_r7) (.cond (fun e => e 34) (.seq (.region c33_r8) (.seq (.region c33_r9) (.seq (.region c33_r10) (.seq (.block 0 (.loop c33_l0)) (.seq (.region c33_r15) (.region c33_r16)))))) (.seq (.region c33_r17) (.seq (.block 2 (.loop c33_l1)) (.seq (.region c33_r23) (.region c33_r24)))))) (.seq (.seq (.region c33_r25) (.cond (fun e => e 89) (.seq (.region c33_r26) (.region c33_r27)) .skip)) (.seq (.seq (.region c33_r28) (.cond (fun e => e 94) (.seq (.region c33_r29) .ret) .skip)) (.seq (.region c33_r30) .ret))))))))), [.t 10, .t 11]⟩
def p33 : Pers := ⟨19, [28, 30, 34, 46, 68, 89, 94], 102⟩
-- 34: internal/strconv.log10Pow2
def c34_r0 : Env → Reg := fun e =>
  .op (.mv (.int .i64 0)) fun t2 =>
  .done (e.upd 2 t2)
theorem c34_r0_run {CP : CProg} (e : Env) (h : Heap) (Q : Post) : RunR CP (c34_r0 e) h Q ↔ RunR CP (
  .op (.mv (.int .i64 0)) fun t2 =>
  .done (e.upd 2 t2)) h Q := Iff.rfl
def c34_r1 : Env → Reg := fun e =>
  .op (.mv (e 0)) fun t3 =>
  .op (.bin .mul t3 (.int .i64 78913)) fun t4 =>
  .op (.bin .shr t4 (.int .u64 18)) fun t5 =>
  .op (.mv t5) fun t2 =>
  .done (e.upd 2 t2)
theorem c34_r1_run {CP : CProg} (e : Env) (h : Heap) (Q : Post) : RunR CP (c34_r1 e) h Q ↔ RunR CP (
  .op (.mv (e 0)) fun t3 =>
  .op (.bin .mul t3 (.int .i64 78913)) fun t4 =>
  .op (.bin .shr t4 (.int .u64 18)) fun t5 =>
  .op (.mv t5) fun t2 =>
  .done (e.upd 2 t2)) h Q := Iff.rfl
def c34 : CFn := ⟨(.seq (.region c34_r0) (.seq (.region c34_r1) .ret)), [.t 2]⟩
def p34 : Pers := ⟨3, [], 6⟩
-- 35: math/bits.Len64
def c35_r0 : Env → Reg := fun e =>
  .op (.mv (.int .i64 0)) fun t2 =>
  .done (e.upd 2 t2)
theorem c35_r0_run {CP : CProg} (e : Env) (h : Heap) (Q : Post) : RunR CP (c35_r0 e) h Q ↔ RunR CP (
  .op (.mv (.int .i64 0)) fun t2 =>
  .done (e.upd 2 t2)) h Q := Iff.rfl
def c35_r1 : Env → Reg := fun e =>
  .op (.mv (e 0)) fun t3 =>
  .op (.bin .geq t3 (.int .u64 4294967296)) fun t4 =>
  .done (e.upd 4 t4)
theorem c35_r1_run {CP : CProg} (e : Env) (h : Heap) (Q : Post) : RunR CP (c35_r1 e) h Q ↔ RunR CP (
  .op (.mv (e 0)) fun t3 =>
  .op (.bin .geq t3 (.int .u64 4294967296)) fun t4 =>
  .done (e.upd 4 t4)) h Q := Iff.rfl
def c35_r2 : Env → Reg := fun e =>
  .op (.mv (e 0)) fun t5 =>
  .op (.bin .shr t5 (.int .u64 32)) fun t6 =>
  .op (.mv t6) fun t0 =>
  .done (e.upd 0 t0)
theorem c35_r2_run {CP : CProg} (e : Env) (h : Heap) (Q : Post) : RunR CP (c35_r2 e) h Q ↔ RunR CP (
  .op (.mv (e 0)) fun t5 =>
  .op (.bin .shr t5 (.int .u64 32)) fun t6 =>
  .op (.mv t6) fun t0 =>
  .done (e.upd 0 t0)) h Q := Iff.rfl
def c35_r3 : Env → Reg := fun e =>
  .op (.mv (.int .i64 32)) fun t2 =>
  .done (e.upd 2 t2)
theorem c35_r3_run {CP : CProg} (e : Env) (h : Heap) (Q : Post) : RunR CP (c35_r3 e) h Q ↔ RunR CP (
  .op (.mv (.int .i64 32)) fun t2 =>
  .done (e.upd 2 t2)) h Q := Iff.rfl
def c35_r4 : Env → Reg := fun e =>
  .op (.mv (e 0)) fun t7 =>
  .op (.bin .geq t7 (.int .u64 65536)) fun t8 =>
  .done (e.upd 8 t8)
theorem c35_r4_run {CP : CProg} (e : Env) (h : Heap) (Q : Post) : RunR CP (c35_r4 e) h Q ↔ RunR CP (
  .op (.mv (e 0)) fun t7 =>
  .op (.bin .geq t7 (.int .u64 65536)) fun t8 =>
  .done (e.upd 8 t8)) h Q := Iff.rfl
def c35_r5 : Env → Reg := fun e =>
  .op (.mv (e 0)) fun t9 =>
  .op (.bin .shr t9 (.int .u64 16)) fun t10 =>
  .op (.mv t10) fun t0 =>
  .done (e.upd 0 t0)
theorem c35_r5_run {CP : CProg} (e : Env) (h : Heap) (Q : Post) : RunR CP (c35_r5 e) h Q ↔ RunR CP (
  .op (.mv (e 0)) fun t9 =>
  .op (.bin .shr t9 (.int .u64 16)) fun t10 =>
  .op (.mv t10) fun t0 =>
  .done (e.upd 0 t0)) h Q := Iff.rfl
def c35_r6 : Env → Reg := fun e =>
  .op (.mv (e 2)) fun t11 =>
  .op (.bin .add t11 (.int .i64 16)) fun t12 =>
  .op (.mv t12) fun t2 =>
  .done (e.upd 2 t2)
theorem c35_r6_run {CP : CProg} (e : Env) (h : Heap) (Q : Post) : RunR CP (c35_r6 e) h Q ↔ RunR CP (
  .op (.mv (e 2)) fun t11 =>
  .op (.bin .add t11 (.int .i64 16)) fun t12 =>
  .op (.mv t12) fun t2 =>
  .done (e.upd 2 t2)) h Q := Iff.rfl
def c35_r7 : Env → Reg := fun e =>
  .op (.mv (e 0)) fun t13 =>
  .op (.bin .geq t13 (.int .u64 256)) fun t14 =>
  .done (e.upd 14 t14)
theorem c35_r7_run {CP : CProg} (e : Env) (h : Heap) (Q : Post) : RunR CP (c35_r7 e) h Q ↔ RunR CP (
  .op (.mv (e 0)) fun t13 =>
  .op (.bin .geq t13 (.int .u64 256)) fun t14 =>
  .done (e.upd 14 t14)) h Q := Iff.rfl
def c35_r8 : Env → Reg := fun e =>
  .op (.mv (e 0)) fun t15 =>
  .op (.bin .shr t15 (.int .u64 8)) fun t16 =>
  .op (.mv t16) fun t0 =>
  .done (e.upd 0 t0)
theorem c35_r8_run {CP : CProg} (e : Env) (h : Heap) (Q : Post) : RunR CP (c35_r8 e) h Q ↔ RunR CP (
  .op (.mv (e 0)) fun t15 =>
  .op (.bin .shr t15 (.int .u64 8)) fun t16 =>
  .op (.mv t16) fun t0 =>
  .done (e.upd 0 t0)) h Q := Iff.rfl
def c35_r9 : Env → Reg := fun e =>
  .op (.mv (e 2)) fun t17 =>
  .op (.bin .add t17 (.int .i64 8)) fun t18 =>
  .op (.mv t18) fun t2 =>
  .done (e.upd 2 t2)
theorem c35_r9_run {CP : CProg} (e : Env) (h : Heap) (Q : Post) : RunR CP (c35_r9 e) h Q ↔ RunR CP (
  .op (.mv (e 2)) fun t17 =>
  .op (.bin .add t17 (.int .i64 8)) fun t18 =>
  .op (.mv t18) fun t2 =>
  .done (e.upd 2 t2)) h Q := Iff.rfl
def c35_r10 : Env → Reg := fun e =>
  .op (.mv (e 2)) fun t19 =>
  .op (.mv (e 0)) fun t20 =>
  .op (.conv .u8 t20) fun t21 =>
  .op (.indexStr (.string big1) t21) fun t22 =>
  .op (.conv .i64 t22) fun t23 =>
  .op (.bin .add t19 t23) fun t24 =>
  .op (.mv t24) fun t2 =>
  .done (e.upd 2 t2)
theorem c35_r10_run {CP : CProg} (e : Env) (h : Heap) (Q : Post) : RunR CP (c35_r10 e) h Q ↔ RunR CP (
  .op (.mv (e 2)) fun t19 =>
  .op (.mv (e 0)) fun t20 =>
  .op (.conv .u8 t20) fun t21 =>
  .op (.indexStr (.string big1) t21) fun t22 =>
  .op (.conv .i64 t22) fun t23 =>
  .op (.bin .add t19 t23) fun t24 =>
  .op (.mv t24) fun t2 =>
  .done (e.upd 2 t2)) h Q := Iff.rfl
def c35 : CFn := ⟨(.seq (.region c35_r0) (.seq (.seq (.region c35_r1) (.cond (fun e => e 4) (.seq (.region c35_r2) (.region c35_r3)) .skip)) (.seq (.seq (.region c35_r4) (.cond (fun e => e 8) (.seq (.region c35_r5) (.region c35_r6)) .skip)) (.seq (.seq (.region c35_r7) (.cond (fun e => e 14) (.seq (.region c35_r8) (.region c35_r9)) .skip)) (.seq (.region c35_r10) .ret))))), [.t 2]⟩
def p35 : Pers := ⟨3, [4, 8, 14], 25⟩
-- 36: internal/strconv.bool2[int]
def c36_r0 : Env → Reg := fun e =>
  .op (.mv (.int .i64 0)) fun t2 =>
  .done (e.upd 2 t2)
theorem c36_r0_run {CP : CProg} (e : Env) (h : Heap) (Q : Post) : RunR CP (c36_r0 e) h Q ↔ RunR CP (
  .op (.mv (.int .i64 0)) fun t2 =>
  .done (e.upd 2 t2)) h Q := Iff.rfl
def c36_r1 : Env → Reg := fun e =>
  .op (.mv (e 0)) fun t3 =>
  .done (e.upd 3 t3)
theorem c36_r1_run {CP : CProg} (e : Env) (h : Heap) (Q : Post) : RunR CP (c36_r1 e) h Q ↔ RunR CP (
  .op (.mv (e 0)) fun t3 =>
  .done (e.upd 3 t3)) h Q := Iff.rfl
def c36_r2 : Env → Reg := fun e =>
  .op (.mv (.int .i64 1)) fun t2 =>
  .done (e.upd 2 t2)
theorem c36_r2_run {CP : CProg} (e : Env) (h : Heap) (Q : Post) : RunR CP (c36_r2 e) h Q ↔ RunR CP (
  .op (.mv (.int .i64 1)) fun t2 =>
  .done (e.upd 2 t2)) h Q := Iff.rfl
def c36_r3 : Env → Reg := fun e =>
  .op (.mv (.int .i64 0)) fun t2 =>
  .done (e.upd 2 t2)
theorem c36_r3_run {CP : CProg} (e : Env) (h : Heap) (Q : Post) : RunR CP (c36_r3 e) h Q ↔ RunR CP (
  .op (.mv (.int .i64 0)) fun t2 =>
  .done (e.upd 2 t2)) h Q := Iff.rfl
def c36 : CFn := ⟨(.seq (.region c36_r0) (.seq (.seq (.region c36_r1) (.cond (fun e => e 3) (.seq (.region c36_r2) .ret) .skip)) (.seq (.region c36_r3) .ret))), [.t 2]⟩
def p36 : Pers := ⟨3, [3], 4⟩
-- 37: internal/strconv.isPowerOfTwo
def c37_r0 : Env → Reg := fun e =>
  .op (.mv (.bool false)) fun t2 =>
  .done (e.upd 2 t2)
theorem c37_r0_run {CP : CProg} (e : Env) (h : Heap) (Q : Post) : RunR CP (c37_r0 e) h Q ↔ RunR CP (
  .op (.mv (.bool false)) fun t2 =>
  .done (e.upd 2 t2)) h Q := Iff.rfl
def c37_r1 : Env → Reg := fun e =>
  .op (.mv (e 0)) fun t3 =>
  .op (.mv (e 0)) fun t4 =>
  .op (.bin .sub t4 (.int .i64 1)) fun t5 =>
  .op (.bin .and t3 t5) fun t6 =>
  .op (.bin .eql t6 (.int .i64 0)) fun t7 =>
  .op (.mv t7) fun t2 =>
  .done (e.upd 2 t2)
theorem c37_r1_run {CP : CProg} (e : Env) (h : Heap) (Q : Post) : RunR CP (c37_r1 e) h Q ↔ RunR CP (
  .op (.mv (e 0)) fun t3 =>
  .op (.mv (e 0)) fun t4 =>
  .op (.bin .sub t4 (.int .i64 1)) fun t5 =>
  .op (.bin .and t3 t5) fun t6 =>
  .op (.bin .eql t6 (.int .i64 0)) fun t7 =>
  .op (.mv t7) fun t2 =>
  .done (e.upd 2 t2)) h Q := Iff.rfl
def c37 : CFn := ⟨(.seq (.region c37_r0) (.seq (.region c37_r1) .ret)), [.t 2]⟩
def p37 : Pers := ⟨3, [], 8⟩
-- 38: math/bits.TrailingZeros
def c38_r0 : Env → Reg := fun e =>
  .op (.mv (.int .i64 0)) fun t2 =>
  .done (e.upd 2 t2)
theorem c38_r0_run {CP : CProg} (e : Env) (h : Heap) (Q : Post) : RunR CP (c38_r0 e) h Q ↔ RunR CP (
  .op (.mv (.int .i64 0)) fun t2 =>
  .done (e.upd 2 t2)) h Q := Iff.rfl
def c38_r1 : Env → Reg := fun e =>
  .op (.mv (e 0)) fun t3 =>
  .op (.conv .u32 t3) fun t4 =>
  .op (.call 39 [t4]) fun t5 =>
  .op (.mv t5) fun t2 =>
  .done (e.upd 2 t2)
theorem c38_r1_run {CP : CProg} (e : Env) (h : Heap) (Q : Post) : RunR CP (c38_r1 e) h Q ↔ RunR CP (
  .op (.mv (e 0)) fun t3 =>
  .op (.conv .u32 t3) fun t4 =>
  .op (.call 39 [t4]) fun t5 =>
  .op (.mv t5) fun t2 =>
  .done (e.upd 2 t2)) h Q := Iff.rfl
def c38_r2 : Env → Reg := fun e =>
  .op (.mv (e 0)) fun t6 =>
  .op (.call 40 [t6]) fun t7 =>
  .op (.mv t7) fun t2 =>
  .done (e.upd 2 t2)
theorem c38_r2_run {CP : CProg} (e : Env) (h : Heap) (Q : Post) : RunR CP (c38_r2 e) h Q ↔ RunR CP (
  .op (.mv (e 0)) fun t6 =>
  .op (.call 40 [t6]) fun t7 =>
  .op (.mv t7) fun t2 =>
  .done (e.upd 2 t2)) h Q := Iff.rfl
def c38 : CFn := ⟨(.seq (.region c38_r0) (.seq (.cond (fun _ => (.bool false)) (.seq (.region c38_r1) .ret) .skip) (.seq (.region c38_r2) .ret))), [.t 2]⟩
def p38 : Pers := ⟨3, [], 8⟩
-- 39: math/bits.TrailingZeros32
def c39_r0 : Env → Reg := fun e =>
  .op (.mv (.int .i64 0)) fun t2 =>
  .done (e.upd 2 t2)
theorem c39_r0_run {CP : CProg} (e : Env) (h : Heap) (Q : Post) : RunR CP (c39_r0 e) h Q ↔ RunR CP (
  .op (.mv (.int .i64 0)) fun t2 =>
  .done (e.upd 2 t2)) h Q := Iff.rfl
def c39_r1 : Env → Reg := fun e =>
  .op (.mv (e 0)) fun t3 =>
  .op (.bin .eql t3 (.int .u32 0)) fun t4 =>
  .done (e.upd 4 t4)
theorem c39_r1_run {CP : CProg} (e : Env) (h : Heap) (Q : Post) : RunR CP (c39_r1 e) h Q ↔ RunR CP (
  .op (.mv (e 0)) fun t3 =>
  .op (.bin .eql t3 (.int .u32 0)) fun t4 =>
  .done (e.upd 4 t4)) h Q := Iff.rfl
def c39_r2 : Env → Reg := fun e =>
  .op (.mv (.int .i64 32)) fun t2 =>
  .done (e.upd 2 t2)
theorem c39_r2_run {CP : CProg} (e : Env) (h : Heap) (Q : Post) : RunR CP (c39_r2 e) h Q ↔ RunR CP (
  .op (.mv (.int .i64 32)) fun t2 =>
  .done (e.upd 2 t2)) h Q := Iff.rfl
def c39_r3 : Env → Reg := fun e =>
  .op (.mv (e 0)) fun t5 =>
  .op (.mv (e 0)) fun t6 =>
  .op (.un .neg t6) fun t7 =>
  .op (.bin .and t5 t7) fun t8 =>
  .op (.bin .mul t8 (.int .u32 125613361)) fun t9 =>
  .op (.bin .shr t9 (.int .u64 27)) fun t10 =>
  .op (.indexArr 32 1 unk t10) fun t11 =>
  .op (.load none t11) fun t12 =>
  .op (.conv .i64 t12) fun t13 =>
  .op (.mv t13) fun t2 =>
  .done (e.upd 2 t2)
theorem c39_r3_run {CP : CProg} (e : Env) (h : Heap) (Q : Post) : RunR CP (c39_r3 e) h Q ↔ RunR CP (
  .op (.mv (e 0)) fun t5 =>
  .op (.mv (e 0)) fun t6 =>
  .op (.un .neg t6) fun t7 =>
  .op (.bin .and t5 t7) fun t8 =>
  .op (.bin .mul t8 (.int .u32 125613361)) fun t9 =>
  .op (.bin .shr t9 (.int .u64 27)) fun t10 =>
  .op (.indexArr 32 1 unk t10) fun t11 =>
  .op (.load none t11) fun t12 =>
  .op (.conv .i64 t12) fun t13 =>
  .op (.mv t13) fun t2 =>
  .done (e.upd 2 t2)) h Q := Iff.rfl
def c39 : CFn := ⟨(.seq (.region c39_r0) (.seq (.seq (.region c39_r1) (.cond (fun e => e 4) (.seq (.region c39_r2) .ret) .skip)) (.seq (.region c39_r3) .ret))), [.t 2]⟩
def p39 : Pers := ⟨3, [4], 14⟩
-- 40: math/bits.TrailingZeros64
def c40_r0 : Env → Reg := fun e =>
  .op (.mv (.int .i64 0)) fun t2 =>
  .done (e.upd 2 t2)
theorem c40_r0_run {CP : CProg} (e : Env) (h : Heap) (Q : Post) : RunR CP (c40_r0 e) h Q ↔ RunR CP (
  .op (.mv (.int .i64 0)) fun t2 =>
  .done (e.upd 2 t2)) h Q := Iff.rfl
def c40_r1 : Env → Reg := fun e =>
  .op (.mv (e 0)) fun t3 =>
  .op (.bin .eql t3 (.int .u64 0)) fun t4 =>
  .done (e.upd 4 t4)
theorem c40_r1_run {CP : CProg} (e : Env) (h : Heap) (Q : Post) : RunR CP (c40_r1 e) h Q ↔ RunR CP (
  .op (.mv (e 0)) fun t3 =>
  .op (.bin .eql t3 (.int .u64 0)) fun t4 =>
  .done (e.upd 4 t4)) h Q := Iff.rfl
def c40_r2 : Env → Reg := fun e =>
  .op (.mv (.int .i64 64)) fun t2 =>
  .done (e.upd 2 t2)
theorem c40_r2_run {CP : CProg} (e : Env) (h : Heap) (Q : Post) : RunR CP (c40_r2 e) h Q ↔ RunR CP (
  .op (.mv (.int .i64 64)) fun t2 =>
  .done (e.upd 2 t2)) h Q := Iff.rfl
def c40_r3 : Env → Reg := fun e =>
  .op (.mv (e 0)) fun t5 =>
  .op (.mv (e 0)) fun t6 =>
  .op (.un .neg t6) fun t7 =>
  .op (.bin .and t5 t7) fun t8 =>
  .op (.bin .mul t8 (.int .u64 285870213051353865)) fun t9 =>
  .op (.bin .shr t9 (.int .u64 58)) fun t10 =>
  .op (.indexArr 64 1 unk t10) fun t11 =>
  .op (.load none t11) fun t12 =>
  .op (.conv .i64 t12) fun t13 =>
  .op (.mv t13) fun t2 =>
  .done (e.upd 2 t2)
theorem c40_r3_run {CP : CProg} (e : Env) (h : Heap) (Q : Post) : RunR CP (c40_r3 e) h Q ↔ RunR CP (
  .op (.mv (e 0)) fun t5 =>
  .op (.mv (e 0)) fun t6 =>
  .op (.un .neg t6) fun t7 =>
  .op (.bin .and t5 t7) fun t8 =>
  .op (.bin .mul t8 (.int .u64 285870213051353865)) fun t9 =>
  .op (.bin .shr t9 (.int .u64 58)) fun t10 =>
  .op (.indexArr 64 1 unk t10) fun t11 =>
  .op (.load none t11) fun t12 =>
  .op (.conv .i64 t12) fun t13 =>
  .op (.mv t13) fun t2 =>
  .done (e.upd 2 t2)) h Q := Iff.rfl
def c40 : CFn := ⟨(.seq (.region c40_r0) (.seq (.seq (.region c40_r1) (.cond (fun e => e 4) (.seq (.region c40_r2) .ret) .skip)) (.seq (.region c40_r3) .ret))), [.t 2]⟩
def p40 : Pers := ⟨3, [4], 14⟩
def cp : CProg
  | 3 => some c3
  | 4 => some c4
  | 5 => some c5
  | 6 => some c6
  | 7 => some c7
  | 8 => some c8
  | 9 => some c9
  | 10 => some c10
  | 11 => some c11
  | 12 => some c12
  | 13 => some c13
  | 14 => some c14
  | 15 => some c15
  | 16 => some c16
  | 17 => some c17
  | 18 => some c18
  | 19 => some c19
  | 20 => some c20
  | 21 => some c21
  | 22 => some c22
  | 23 => some c23
  | 24 => some c24
  | 25 => some c25
  | 26 => some c26
  | 27 => some c27
  | 28 => some c28
  | 30 => some c30
  | 31 => some c31
  | 32 => some c32
  | 33 => some c33
  | 34 => some c34
  | 35 => some c35
  | 36 => some c36
  | 37 => some c37
  | 38 => some c38
  | 39 => some c39
  | 40 => some c40
  | _ => none
theorem cp3 : cp 3 = some c3 := rfl
theorem cp4 : cp 4 = some c4 := rfl
theorem cp5 : cp 5 = some c5 := rfl
theorem cp6 : cp 6 = some c6 := rfl
theorem cp7 : cp 7 = some c7 := rfl
theorem cp8 : cp 8 = some c8 := rfl
theorem cp9 : cp 9 = some c9 := rfl
theorem cp10 : cp 10 = some c10 := rfl
theorem cp11 : cp 11 = some c11 := rfl
theorem cp12 : cp 12 = some c12 := rfl
theorem cp13 : cp 13 = some c13 := rfl
theorem cp14 : cp 14 = some c14 := rfl
theorem cp15 : cp 15 = some c15 := rfl
theorem cp16 : cp 16 = some c16 := rfl
theorem cp17 : cp 17 = some c17 := rfl
theorem cp18 : cp 18 = some c18 := rfl
theorem cp19 : cp 19 = some c19 := rfl
theorem cp20 : cp 20 = some c20 := rfl
theorem cp21 : cp 21 = some c21 := rfl
theorem cp22 : cp 22 = some c22 := rfl
theorem cp23 : cp 23 = some c23 := rfl
theorem cp24 : cp 24 = some c24 := rfl
theorem cp25 : cp 25 = some c25 := rfl
theorem cp26 : cp 26 = some c26 := rfl
theorem cp27 : cp 27 = some c27 := rfl
theorem cp28 : cp 28 = some c28 := rfl
theorem cp30 : cp 30 = some c30 := rfl
theorem cp31 : cp 31 = some c31 := rfl
theorem cp32 : cp 32 = some c32 := rfl
theorem cp33 : cp 33 = some c33 := rfl
theorem cp34 : cp 34 = some c34 := rfl
theorem cp35 : cp 35 = some c35 := rfl
theorem cp36 : cp 36 = some c36 := rfl
theorem cp37 : cp 37 = some c37 := rfl
theorem cp38 : cp 38 = some c38 := rfl
theorem cp39 : cp 39 = some c39 := rfl
theorem cp40 : cp 40 = some c40 := rfl
end Go.Proofs.YtcmanhhpfbinoaaDoor.Can
