/- Part 3 of 6 of the proof of the row RowWholeHorizon: whatever the input, the law returns true. No condition. -/
import Derived.Test.YtlakhgibjfmjjaaGreatZHor2
set_option linter.unusedSimpArgs false
set_option linter.unusedVariables false
set_option linter.defProp false
namespace Go.Proofs.YtlakhgibjfmjjaaGreat.Can
open Go
def big0 : ByteArray := ⟨#[0, 1, 2, 2, 3, 3, 3, 3, 4, 4, 4, 4, 4, 4, 4, 4, 5, 5, 5, 5, 5, 5, 5, 5, 5, 5, 5, 5, 5, 5, 5, 5, 6, 6, 6, 6, 6, 6, 6, 6, 6, 6, 6, 6, 6, 6, 6, 6, 6, 6, 6, 6, 6, 6, 6, 6, 6, 6, 6, 6, 6, 6, 6, 6, 7, 7, 7, 7, 7, 7, 7, 7, 7, 7, 7, 7, 7, 7, 7, 7, 7, 7, 7, 7, 7, 7, 7, 7, 7, 7, 7, 7, 7, 7, 7, 7, 7, 7, 7, 7, 7, 7, 7, 7, 7, 7, 7, 7, 7, 7, 7, 7, 7, 7, 7, 7, 7, 7, 7, 7, 7, 7, 7, 7, 7, 7, 7, 7, 8, 8, 8, 8, 8, 8, 8, 8, 8, 8, 8, 8, 8, 8, 8, 8, 8, 8, 8, 8, 8, 8, 8, 8, 8, 8, 8, 8, 8, 8, 8, 8, 8, 8, 8, 8, 8, 8, 8, 8, 8, 8, 8, 8, 8, 8, 8, 8, 8, 8, 8, 8, 8, 8, 8, 8, 8, 8, 8, 8, 8, 8, 8, 8, 8, 8, 8, 8, 8, 8, 8, 8, 8, 8, 8, 8, 8, 8, 8, 8, 8, 8, 8, 8, 8, 8, 8, 8, 8, 8, 8, 8, 8, 8, 8, 8, 8, 8, 8, 8, 8, 8, 8, 8, 8, 8, 8, 8, 8, 8, 8, 8, 8, 8, 8, 8, 8, 8, 8, 8, 8, 8, 8, 8, 8, 8, 8, 8]⟩
def c7_r0 (e : Env) : Reg :=
 .op (.box 23 (e 0)) fun t3 =>
 .op (.mv (.bool false)) fun t6 =>
 .done ((e.upd 3 t3).upd 6 t6)
def c7_r1 (e : Env) : Reg :=
 .op (.call 11 []) fun t16 =>
 .op (.un .not t16) fun t17 =>
 .done (e.upd 17 t17)
def c7_r2 (e : Env) : Reg :=
 .op (.mv (.bool false)) fun t6 =>
 .done (e.upd 6 t6)
def c7_r3 (e : Env) : Reg :=
 .op (.mv (e 2)) fun t18 =>
 .op (.call 12 [t18]) fun t19 =>
 .op (.un .not t19) fun t20 =>
 .done (e.upd 20 t20)
def c7_r4 (e : Env) : Reg :=
 .op (.mv (.bool true)) fun t6 =>
 .done (e.upd 6 t6)
def c7_r5 (e : Env) : Reg :=
 .op (.load (some 9) (e 3)) fun t21 =>
 .op (.buildSlice 23 1 [(.int .i64 0), (.int .i64 0), (.int .i64 0), (.int .i64 0), (.int .i64 0), (.int .i64 0), (.int .i64 0), (.int .i64 0), (.bool false)] [(0, 9, t21)]) fun t22 =>
 .op (.call 13 [t22, (.int .i64 0)]) fun t23 =>
 .op (.alloc 30 [(.int .i64 0), (.int .i64 0), (.int .i64 0), (.slice none 0 0)]) fun t7 =>
 .op (.store 4 t7 t23) fun _ =>
 .done (e.upd 7 t7)
def c7_r6 (e : Env) : Reg :=
 .op (.load (some 4) (e 7)) fun t25 =>
 .op (.call 14 [t25, (.slice none 0 0)]) fun t26 =>
 .op (.mv t26) fun t24 =>
 .op (.extract t24 0) fun t27 =>
 .op (.extract t24 1) fun t28 =>
 .op (.mv t27) fun t8 =>
 .op (.mv t28) fun t9 =>
 .done ((e.upd 8 t8).upd 9 t9)
def c7_r7 (e : Env) : Reg :=
 .op (.mv (e 8)) fun t29 =>
 .op (.build [(.int .i64 0), (.int .i64 0), (.int .i64 0), (.slice none 0 0), (.int .i64 0), (.slice none 0 0)] [(0, 1, (.int .i64 0))]) fun t30 =>
 .op (.call 15 [t29, t30]) fun t31 =>
 .done e
def c7_r8 (e : Env) : Reg :=
 .op (.mv (e 1)) fun t32 =>
 .op (.bin .and t32 (.int .i64 4611686018427387903)) fun t33 =>
 .op (.bin .or t33 (.int .i64 4611686018427387904)) fun t34 =>
 .op (.mv t34) fun t1 =>
 .done (e.upd 1 t1)
def c7_r9 (e : Env) : Reg :=
 .op (.mv (e 8)) fun t35 =>
 .op (.mv (e 1)) fun t36 =>
 .op (.build [(.int .i64 0), (.int .i64 0), (.int .i64 0), (.slice none 0 0), (.int .i64 0), (.slice none 0 0)] [(0, 1, (.int .i64 3)), (1, 1, t36)]) fun t37 =>
 .op (.call 15 [t35, t37]) fun t38 =>
 .done e
def c7_r10 (e : Env) : Reg :=
 .op (.mv (e 2)) fun t39 =>
 .op (.lenSl t39) fun t40 =>
 .op (.mv (.int .i64 0)) fun t41 =>
 .done (((e.upd 39 t39).upd 40 t40).upd 41 t41)
def c7_r11 (e : Env) : Reg :=
 .op (.bin .lss (e 41) (e 40)) fun t42 =>
 .done (e.upd 42 t42)
def c7_r12 (e : Env) : Reg :=
 .op (.indexSl 4 (e 39) (e 41)) fun t43 =>
 .op (.load (some 4) t43) fun t44 =>
 .op (.alloc 48 [(.int .i64 0), (.int .i64 0), (.string ⟨#[]⟩), (.bool false)]) fun t11 =>
 .op (.store 4 t11 t44) fun _ =>
 .done (e.upd 11 t11)
def c7_r13_c1 (e : Env) (t45 : Value) (t46 : Value) (t47 : Value) (t48 : Value) (t51 : Value) : Reg :=
 .op (.call 20 [t51]) fun t52 =>
 .chk none none (.load none t46) t47 <|
 .op (.build [(.int .i64 0), (.int .i64 0), (.int .i64 0), (.slice none 0 0), (.int .i64 0), (.slice none 0 0)] [(0, 1, (.int .i64 2)), (1, 1, t48), (3, 1, t52)]) fun t53 =>
 .snap fun h9 =>
 .op (.call 15 [t45, t53]) fun t54 =>
 .done e
def c7_r13 (e : Env) : Reg :=
 .op (.mv (e 8)) fun t45 =>
 .op (.fieldAddr 0 (e 11)) fun t46 =>
 .op (.load none t46) fun t47 =>
 .op (.bin .shr t47 (.int .u64 2)) fun t48 =>
 .op (.fieldAddr 2 (e 11)) fun t49 =>
 .op (.load none t49) fun t50 =>
 .op (.build [(.int .i64 0), (.int .i64 0), (.int .u32 0), (.string ⟨#[]⟩), (.int .i64 0)] [(0, 1, (.int .i64 1)), (3, 1, t50), (2, 1, (.int .u32 1))]) fun t51 =>
 .snap fun h7 =>
 c7_r13_c1 e t45 t46 t47 t48 t51
def c7_r14 (e : Env) : Reg :=
 .op (.mv (e 8)) fun t55 =>
 .op (.build [(.int .i64 0), (.int .i64 0), (.int .i64 0), (.slice none 0 0), (.int .i64 0), (.slice none 0 0)] [(0, 1, (.int .i64 3)), (4, 1, (.int .i64 99))]) fun t56 =>
 .op (.call 15 [t55, t56]) fun t57 =>
 .op (.alloc 42 [(.int .i64 0), (.int .i64 0), (.slice none 0 0), (.slice none 0 0)]) fun t12 =>
 .op (.store 4 t12 t57) fun _ =>
 .done (e.upd 12 t12)
def c7_r15_c1 (e : Env) (t62 : Value) (t63 : Value) (t64 : Value) (t13 : Value) : Reg :=
 .op (.store 12 t13 t62) fun _ =>
 .op (.mv t63) fun t14 =>
 .op (.mv t64) fun t15 =>
 .done (((e.upd 13 t13).upd 14 t14).upd 15 t15)
def c7_r15 (e : Env) : Reg :=
 .op (.fieldAddr 2 (e 12)) fun t59 =>
 .op (.load none t59) fun t60 =>
 .op (.call 21 [t60]) fun t61 =>
 .op (.mv t61) fun t58 =>
 .op (.extract t58 0) fun t62 =>
 .op (.extract t58 1) fun t63 =>
 .op (.extract t58 2) fun t64 =>
 .op (.alloc 66 [(.int .i64 0), (.int .i64 0), (.int .i64 0), (.int .i64 0), (.int .i64 0), (.int .i64 0), (.int .i64 0), (.int .i64 0), (.int .i64 0), (.int .i64 0), (.slice none 0 0), (.int .i64 0)]) fun t13 =>
 c7_r15_c1 e t62 t63 t64 t13
def c7_r16_c3 (e : Env) (t73 : Value) (t84 : Value) (t86 : Value) : Reg :=
 .opg t84 true (.fieldAddr 0 t86) fun t87 =>
 .snap fun h23 =>
 .opg t84 true (.call 26 [t87]) fun t88 =>
 .opg t84 true (.mv (e 1)) fun t89 =>
 .opg t84 true (.bin .lss t88 t89) fun t90 =>
 .opg t73 false (.pick t84 t90 (.bool false)) fun t91 =>
 .op (.pick t73 (.bool true) t91) fun t92 =>
 .done (e.upd 92 t92)
def c7_r16_c2 (e : Env) (t73 : Value) (h12 : Heap) (t77 : Value) (t78 : Value) (t79 : Value) : Reg :=
 .opg t73 false (.load none t79) fun t80 =>
 .chk (some (t73, false)) (some h12) (.load none t79) t80 <|
 .opg t73 false (.bin .shr t80 (.int .u64 2)) fun t81 =>
 .opg t73 false (.minmax true [t78, t81]) fun t82 =>
 .opg t73 false (.bin .neq t77 t82) fun t83 =>
 .opg t73 false (.mv t83) fun t84 =>
 .opg t84 true (.mv (e 8)) fun t85 =>
 .opg t84 true (.nilCheck t85) fun t86 =>
 c7_r16_c3 e t73 t84 t86
def c7_r16_c1 (e : Env) (t72 : Value) : Reg :=
 .op (.mv t72) fun t73 =>
 .opg t73 false (.mv (e 8)) fun t74 =>
 .opg t73 false (.nilCheck t74) fun t75 =>
 .opg t73 false (.fieldAddr 0 t75) fun t76 =>
 .snap fun h12 =>
 .opg t73 false (.call 26 [t76]) fun t77 =>
 .opg t73 false (.mv (e 1)) fun t78 =>
 .opg t73 false (.fieldAddr 0 (e 11)) fun t79 =>
 c7_r16_c2 e t73 h12 t77 t78 t79
def c7_r16 (e : Env) : Reg :=
 .op (.mv (e 15)) fun t65 =>
 .op (.un .not t65) fun t66 =>
 .op (.mv t66) fun t67 =>
 .opg t67 false (.fieldAddr 2 (e 13)) fun t68 =>
 .opg t67 false (.load (some 3) t68) fun t69 =>
 .opg t67 false (.build [(.int .i64 0), (.int .i64 0), (.int .i64 0)] [(0, 1, (.int .i64 2)), (2, 1, (.int .i64 9223372036854775807))]) fun t70 =>
 .opg t67 false (.eqAgg true [.int, .int, .int] t69 t70) fun t71 =>
 .op (.pick t67 (.bool true) t71) fun t72 =>
 c7_r16_c1 e t72
def c7_r17 (e : Env) : Reg :=
 .op (.mv (.bool false)) fun t6 =>
 .done (e.upd 6 t6)
def c7_r18 (e : Env) : Reg :=
 .op (.bin .add (e 41) (.int .i64 1)) fun t93 =>
 .op (.mv t93) fun t41 =>
 .done (e.upd 41 t41)
def c7_l0 : CC := (.seq (.region c7_r11) (.seq (.cond (fun e => e 42) .skip (.exit 0)) (.seq (.block 1 (.seq (.region c7_r12) (.seq (.region c7_r13) (.seq (.region c7_r14) (.seq (.region c7_r15) (.seq (.region c7_r16) (.cond (fun e => e 92) (.seq (.region c7_r17) .ret) .skip))))))) (.region c7_r18))))
def c7_r19 (e : Env) : Reg :=
 .op (.mv (e 8)) fun t94 =>
 .op (.call 27 [t94, (.int .i64 0)]) fun t95 =>
 .op (.call 28 [t95]) fun t96 =>
 .op (.field 0 none t96) fun t97 =>
 .op (.bin .eql t97 (.int .i64 0)) fun t98 =>
 .op (.mv t98) fun t6 =>
 .done (e.upd 6 t6)
def R7 := an (ro c7_r0.eq_1) <| an (ro c7_r1.eq_1) <| an (ro c7_r2.eq_1) <| an (ro c7_r3.eq_1) <| an (ro c7_r4.eq_1) <| an (ro c7_r5.eq_1) <| an (ro c7_r6.eq_1) <| an (ro c7_r7.eq_1) <| an (ro c7_r8.eq_1) <| an (ro c7_r9.eq_1) <| an (ro c7_r10.eq_1) <| an (ro c7_r11.eq_1) <| an (ro c7_r12.eq_1) <| an (ro5 c7_r13_c1.eq_1) <| an (ro c7_r13.eq_1) <| an (ro c7_r14.eq_1) <| an (ro4 c7_r15_c1.eq_1) <| an (ro c7_r15.eq_1) <| an (ro3 c7_r16_c3.eq_1) <| an (ro5 c7_r16_c2.eq_1) <| an (ro1 c7_r16_c1.eq_1) <| an (ro c7_r16.eq_1) <| an (ro c7_r17.eq_1) <| an (ro c7_r18.eq_1) <| ro c7_r19.eq_1
def c7 : CFn := ⟨(.seq (.region c7_r0) (.seq (.seq (.region c7_r1) (.cond (fun e => e 17) (.seq (.region c7_r2) .ret) .skip)) (.seq (.seq (.region c7_r3) (.cond (fun e => e 20) (.seq (.region c7_r4) .ret) .skip)) (.seq (.region c7_r5) (.seq (.region c7_r6) (.seq (.region c7_r7) (.seq (.region c7_r8) (.seq (.region c7_r9) (.seq (.seq (.region c7_r10) (.block 0 (.loop c7_l0))) (.seq (.region c7_r19) .ret)))))))))), [.t 6]⟩
def p7 : Pers := ⟨16, [17, 20, 39, 40, 41, 42, 92], 99, []⟩
def c11_r0 (e : Env) : Reg :=
 .op (.mv (.bool false)) fun t0 =>
 .done (e.upd 0 t0)
def c11_r1 (e : Env) : Reg :=
 .op (.build [(.int .i64 0), (.int .i64 0), (.int .i64 0), (.int .i64 0), (.int .i64 0), (.int .i64 0), (.int .i64 0), (.int .i64 0), (.bool false)] []) fun t9 =>
 .op (.buildSlice 23 1 [(.int .i64 0), (.int .i64 0), (.int .i64 0), (.int .i64 0), (.int .i64 0), (.int .i64 0), (.int .i64 0), (.int .i64 0), (.bool false)] [(0, 9, t9)]) fun t10 =>
 .op (.call 13 [t10, (.int .i64 0)]) fun t11 =>
 .op (.call 14 [t11, (.slice none 0 0)]) fun t12 =>
 .op (.mv t12) fun t8 =>
 .op (.extract t8 0) fun t13 =>
 .op (.extract t8 1) fun t14 =>
 .op (.mv t13) fun t1 =>
 .op (.mv t14) fun t2 =>
 .done ((e.upd 1 t1).upd 2 t2)
def c11_r2 (e : Env) : Reg :=
 .op (.mv (e 2)) fun t15 =>
 .op (.bin .neq t15 (.int .i64 0)) fun t16 =>
 .op (.mv t16) fun t17 =>
 .opg t17 false (.mv (e 1)) fun t18 =>
 .opg t17 false (.eqK .ptr false t18 (.pointer none)) fun t19 =>
 .op (.pick t17 (.bool true) t19) fun t20 =>
 .done (e.upd 20 t20)
def c11_r3 (e : Env) : Reg :=
 .op (.mv (.bool false)) fun t0 =>
 .done (e.upd 0 t0)
def c11_r4 (e : Env) : Reg :=
 .op (.mv (e 1)) fun t21 =>
 .op (.build [(.int .i64 0), (.int .i64 0), (.int .i64 0), (.slice none 0 0), (.int .i64 0), (.slice none 0 0)] [(0, 1, (.int .i64 0))]) fun t22 =>
 .op (.call 15 [t21, t22]) fun t23 =>
 .done e
def c11_r5 (e : Env) : Reg :=
 .op (.mv (e 1)) fun t24 =>
 .op (.build [(.int .i64 0), (.int .i64 0), (.int .u32 0), (.string ⟨#[]⟩), (.int .i64 0)] [(0, 1, (.int .i64 1)), (2, 1, (.int .u32 1)), (3, 1, (.string ⟨#[97]⟩))]) fun t25 =>
 .op (.call 20 [t25]) fun t26 =>
 .op (.build [(.int .i64 0), (.int .i64 0), (.int .i64 0), (.slice none 0 0), (.int .i64 0), (.slice none 0 0)] [(0, 1, (.int .i64 2)), (1, 1, (.int .i64 5)), (3, 1, t26)]) fun t27 =>
 .op (.call 15 [t24, t27]) fun t28 =>
 .op (.alloc 42 [(.int .i64 0), (.int .i64 0), (.slice none 0 0), (.slice none 0 0)]) fun t3 =>
 .op (.store 4 t3 t28) fun _ =>
 .done (e.upd 3 t3)
def c11_r6 (e : Env) : Reg :=
 .op (.mv (e 1)) fun t29 =>
 .op (.build [(.int .i64 0), (.int .i64 0), (.int .i64 0), (.slice none 0 0), (.int .i64 0), (.slice none 0 0)] [(0, 1, (.int .i64 3)), (1, 1, (.int .i64 5)), (4, 1, (.int .i64 99))]) fun t30 =>
 .op (.call 15 [t29, t30]) fun t31 =>
 .op (.alloc 42 [(.int .i64 0), (.int .i64 0), (.slice none 0 0), (.slice none 0 0)]) fun t4 =>
 .op (.store 4 t4 t31) fun _ =>
 .done (e.upd 4 t4)
def c11_r7_c1 (e : Env) (t36 : Value) (t37 : Value) (t38 : Value) (t5 : Value) : Reg :=
 .op (.store 12 t5 t36) fun _ =>
 .op (.mv t37) fun t6 =>
 .op (.mv t38) fun t7 =>
 .done (((e.upd 5 t5).upd 6 t6).upd 7 t7)
def c11_r7 (e : Env) : Reg :=
 .op (.fieldAddr 2 (e 4)) fun t33 =>
 .op (.load none t33) fun t34 =>
 .op (.call 21 [t34]) fun t35 =>
 .op (.mv t35) fun t32 =>
 .op (.extract t32 0) fun t36 =>
 .op (.extract t32 1) fun t37 =>
 .op (.extract t32 2) fun t38 =>
 .op (.alloc 66 [(.int .i64 0), (.int .i64 0), (.int .i64 0), (.int .i64 0), (.int .i64 0), (.int .i64 0), (.int .i64 0), (.int .i64 0), (.int .i64 0), (.int .i64 0), (.slice none 0 0), (.int .i64 0)]) fun t5 =>
 c11_r7_c1 e t36 t37 t38 t5
def c11_r8_c2 (e : Env) (t54 : Value) : Reg :=
 .op (.mv t54) fun t55 =>
 .opg t55 true (.fieldAddr 2 (e 5)) fun t56 =>
 .opg t55 true (.fieldAddr 0 t56) fun t57 =>
 .opg t55 true (.load none t57) fun t58 =>
 .opg t55 true (.bin .eql t58 (.int .i64 1)) fun t59 =>
 .op (.pick t55 t59 (.bool false)) fun t60 =>
 .op (.mv t60) fun t0 =>
 .done (e.upd 0 t0)
def c11_r8_c1 (e : Env) (t42 : Value) (t46 : Value) : Reg :=
 .op (.pick t42 t46 (.bool false)) fun t47 =>
 .op (.mv t47) fun t48 =>
 .opg t48 true (.mv (e 7)) fun t49 =>
 .op (.pick t48 t49 (.bool false)) fun t50 =>
 .op (.mv t50) fun t51 =>
 .opg t51 true (.mv (e 6)) fun t52 =>
 .opg t51 true (.bin .eql t52 (.int .i64 22)) fun t53 =>
 .op (.pick t51 t53 (.bool false)) fun t54 =>
 c11_r8_c2 e t54
def c11_r8 (e : Env) : Reg :=
 .op (.fieldAddr 1 (e 3)) fun t39 =>
 .op (.load none t39) fun t40 =>
 .op (.bin .eql t40 (.int .i64 12)) fun t41 =>
 .op (.mv t41) fun t42 =>
 .opg t42 true (.fieldAddr 3 (e 3)) fun t43 =>
 .opg t42 true (.load none t43) fun t44 =>
 .opg t42 true (.lenSl t44) fun t45 =>
 .opg t42 true (.bin .eql t45 (.int .i64 1)) fun t46 =>
 c11_r8_c1 e t42 t46
def R11 := an (ro c11_r0.eq_1) <| an (ro c11_r1.eq_1) <| an (ro c11_r2.eq_1) <| an (ro c11_r3.eq_1) <| an (ro c11_r4.eq_1) <| an (ro c11_r5.eq_1) <| an (ro c11_r6.eq_1) <| an (ro4 c11_r7_c1.eq_1) <| an (ro c11_r7.eq_1) <| an (ro1 c11_r8_c2.eq_1) <| an (ro2 c11_r8_c1.eq_1) <| ro c11_r8.eq_1
def c11 : CFn := ⟨(.seq (.region c11_r0) (.seq (.region c11_r1) (.seq (.seq (.region c11_r2) (.cond (fun e => e 20) (.seq (.region c11_r3) .ret) .skip)) (.seq (.region c11_r4) (.seq (.region c11_r5) (.seq (.region c11_r6) (.seq (.region c11_r7) (.seq (.region c11_r8) .ret)))))))), [.t 0]⟩
def p11 : Pers := ⟨8, [20], 61, []⟩
def c12_r0 (e : Env) : Reg :=
 .op (.mv (.bool false)) fun t2 =>
 .done (e.upd 2 t2)
def c12_r1 (e : Env) : Reg :=
 .op (.mv (e 0)) fun t5 =>
 .op (.lenSl t5) fun t6 =>
 .op (.bin .gtr t6 (.int .i64 150)) fun t7 =>
 .done (e.upd 7 t7)
def c12_r2 (e : Env) : Reg :=
 .op (.mv (.bool false)) fun t2 =>
 .done (e.upd 2 t2)
def c12_r3 (e : Env) : Reg :=
 .op (.mv (e 0)) fun t8 =>
 .op (.lenSl t8) fun t9 =>
 .op (.mv (.int .i64 0)) fun t10 =>
 .done (((e.upd 8 t8).upd 9 t9).upd 10 t10)
def c12_r4 (e : Env) : Reg :=
 .op (.bin .lss (e 10) (e 9)) fun t11 =>
 .done (e.upd 11 t11)
def c12_r5 (e : Env) : Reg :=
 .op (.indexSl 4 (e 8) (e 10)) fun t12 =>
 .op (.load (some 4) t12) fun t13 =>
 .op (.alloc 48 [(.int .i64 0), (.int .i64 0), (.string ⟨#[]⟩), (.bool false)]) fun t4 =>
 .op (.store 4 t4 t13) fun _ =>
 .done (e.upd 4 t4)
def c12_r6 (e : Env) : Reg :=
 .op (.fieldAddr 2 (e 4)) fun t14 =>
 .op (.load none t14) fun t15 =>
 .op (.lenStr t15) fun t16 =>
 .op (.bin .gtr t16 (.int .i64 64)) fun t17 =>
 .done (e.upd 17 t17)
def c12_r7 (e : Env) : Reg :=
 .op (.mv (.bool false)) fun t2 =>
 .done (e.upd 2 t2)
def c12_r8 (e : Env) : Reg :=
 .op (.bin .add (e 10) (.int .i64 1)) fun t18 =>
 .op (.mv t18) fun t10 =>
 .done (e.upd 10 t10)
def c12_l0 : CC := (.seq (.region c12_r4) (.seq (.cond (fun e => e 11) .skip (.exit 0)) (.seq (.block 1 (.seq (.region c12_r5) (.seq (.region c12_r6) (.cond (fun e => e 17) (.seq (.region c12_r7) .ret) .skip)))) (.region c12_r8))))
def c12_r9 (e : Env) : Reg :=
 .op (.mv (.bool true)) fun t2 =>
 .done (e.upd 2 t2)
def R12 := an (ro c12_r0.eq_1) <| an (ro c12_r1.eq_1) <| an (ro c12_r2.eq_1) <| an (ro c12_r3.eq_1) <| an (ro c12_r4.eq_1) <| an (ro c12_r5.eq_1) <| an (ro c12_r6.eq_1) <| an (ro c12_r7.eq_1) <| an (ro c12_r8.eq_1) <| ro c12_r9.eq_1
def c12 : CFn := ⟨(.seq (.region c12_r0) (.seq (.seq (.region c12_r1) (.cond (fun e => e 7) (.seq (.region c12_r2) .ret) .skip)) (.seq (.seq (.region c12_r3) (.block 0 (.loop c12_l0))) (.seq (.region c12_r9) .ret)))), [.t 2]⟩
def p12 : Pers := ⟨5, [7, 8, 9, 10, 11, 17], 19, []⟩
def c13_r0 (e : Env) : Reg :=
 .op (.alloc 30 [(.int .i64 0), (.int .i64 0), (.int .i64 0), (.slice none 0 0)]) fun t4 =>
 .done (e.upd 4 t4)
def c13_r1 (e : Env) : Reg :=
 .op (.mv (e 1)) fun t8 =>
 .op (.bin .and t8 (.int .i64 255)) fun t9 =>
 .op (.bin .add (.int .i64 660) t9) fun t10 =>
 .op (.build [(.int .i64 0), (.int .i64 0), (.int .i64 0), (.slice none 0 0)] [(0, 1, (.int .i64 4294967296)), (1, 1, (.int .i64 3)), (2, 1, t10)]) fun t11 =>
 .op (.alloc 30 [(.int .i64 0), (.int .i64 0), (.int .i64 0), (.slice none 0 0)]) fun t5 =>
 .op (.store 4 t5 t11) fun _ =>
 .done (e.upd 5 t5)
def c13_r2 (e : Env) : Reg :=
 .op (.mv (e 0)) fun t12 =>
 .op (.lenSl t12) fun t13 =>
 .op (.mv (.int .i64 0)) fun t14 =>
 .done (((e.upd 12 t12).upd 13 t13).upd 14 t14)
def c13_r3 (e : Env) : Reg :=
 .op (.bin .lss (e 14) (e 13)) fun t15 =>
 .done (e.upd 15 t15)
def c13_r4 (e : Env) : Reg :=
 .op (.mv (e 14)) fun t16 =>
 .op (.indexSl 9 (e 12) (e 14)) fun t17 =>
 .op (.load (some 9) t17) fun t18 =>
 .op (.alloc 23 [(.int .i64 0), (.int .i64 0), (.int .i64 0), (.int .i64 0), (.int .i64 0), (.int .i64 0), (.int .i64 0), (.int .i64 0), (.bool false)]) fun t7 =>
 .op (.mv t16) fun t6 =>
 .op (.store 9 t7 t18) fun _ =>
 .done ((e.upd 7 t7).upd 6 t6)
def c13_r5 (e : Env) : Reg :=
 .op (.mv (e 6)) fun t19 =>
 .op (.bin .lss t19 (.int .i64 3)) fun t20 =>
 .done (e.upd 20 t20)
def c13_r6_c1 (e : Env) (t22 : Value) (t25 : Value) : Reg :=
 .op (.append 34 9 72 t22 t25) fun t26 =>
 .op (.fieldAddr 3 (e 5)) fun t27 =>
 .snap fun h7 =>
 .op (.store 1 t27 t26) fun _ =>
 .done e
def c13_r6 (e : Env) : Reg :=
 .op (.fieldAddr 3 (e 5)) fun t21 =>
 .op (.load none t21) fun t22 =>
 .op (.load (some 9) (e 7)) fun t23 =>
 .snap fun h3 =>
 .op (.call 30 [t23]) fun t24 =>
 .chk none none (.load none t21) t22 <|
 .op (.buildSlice 34 1 [(.int .i64 0), (.int .i64 0), (.int .i64 0), (.int .i64 0), (.int .i64 0), (.int .i64 0), (.int .i64 0), (.int .i64 0), (.bool false)] [(0, 9, t24)]) fun t25 =>
 .snap fun h5 =>
 c13_r6_c1 e t22 t25
def c13_r7 (e : Env) : Reg :=
 .op (.bin .add (e 14) (.int .i64 1)) fun t28 =>
 .op (.mv t28) fun t14 =>
 .done (e.upd 14 t14)
def c13_l0 : CC := (.seq (.region c13_r3) (.seq (.cond (fun e => e 15) .skip (.exit 0)) (.seq (.block 1 (.seq (.region c13_r4) (.seq (.region c13_r5) (.cond (fun e => e 20) (.region c13_r6) .skip)))) (.region c13_r7))))
def c13_r8 (e : Env) : Reg :=
 .op (.fieldAddr 3 (e 5)) fun t29 =>
 .op (.load none t29) fun t30 =>
 .op (.lenSl t30) fun t31 =>
 .op (.bin .eql t31 (.int .i64 0)) fun t32 =>
 .done (e.upd 32 t32)
def c13_r9_c1 (e : Env) (t34 : Value) (t37 : Value) : Reg :=
 .op (.append 34 9 72 t34 t37) fun t38 =>
 .op (.fieldAddr 3 (e 5)) fun t39 =>
 .snap fun h7 =>
 .op (.store 1 t39 t38) fun _ =>
 .done e
def c13_r9 (e : Env) : Reg :=
 .op (.fieldAddr 3 (e 5)) fun t33 =>
 .op (.load none t33) fun t34 =>
 .op (.build [(.int .i64 0), (.int .i64 0), (.int .i64 0), (.int .i64 0), (.int .i64 0), (.int .i64 0), (.int .i64 0), (.int .i64 0), (.bool false)] []) fun t35 =>
 .snap fun h3 =>
 .op (.call 30 [t35]) fun t36 =>
 .chk none none (.load none t33) t34 <|
 .op (.buildSlice 34 1 [(.int .i64 0), (.int .i64 0), (.int .i64 0), (.int .i64 0), (.int .i64 0), (.int .i64 0), (.int .i64 0), (.int .i64 0), (.bool false)] [(0, 9, t36)]) fun t37 =>
 .snap fun h5 =>
 c13_r9_c1 e t34 t37
def c13_r10 (e : Env) : Reg :=
 .op (.load (some 4) (e 5)) fun t40 =>
 .op (.store 4 (e 4) t40) fun _ =>
 .done e
def R13 := an (ro c13_r0.eq_1) <| an (ro c13_r1.eq_1) <| an (ro c13_r2.eq_1) <| an (ro c13_r3.eq_1) <| an (ro c13_r4.eq_1) <| an (ro c13_r5.eq_1) <| an (ro2 c13_r6_c1.eq_1) <| an (ro c13_r6.eq_1) <| an (ro c13_r7.eq_1) <| an (ro c13_r8.eq_1) <| an (ro2 c13_r9_c1.eq_1) <| an (ro c13_r9.eq_1) <| ro c13_r10.eq_1
def c13 : CFn := ⟨(.seq (.region c13_r0) (.seq (.region c13_r1) (.seq (.seq (.region c13_r2) (.block 0 (.loop c13_l0))) (.seq (.seq (.region c13_r8) (.cond (fun e => e 32) (.region c13_r9) .skip)) (.seq (.region c13_r10) .ret))))), [.c 4 (some 4)]⟩
def p13 : Pers := ⟨8, [12, 13, 14, 15, 20, 32], 41, []⟩
def c14_r0 (e : Env) : Reg :=
 .op (.box 30 (e 0)) fun t2 =>
 .op (.mv (.pointer none)) fun t4 =>
 .op (.mv (.int .i64 0)) fun t5 =>
 .done (((e.upd 2 t2).upd 4 t4).upd 5 t5)
def c14_r1 (e : Env) : Reg :=
 .op (.load (some 4) (e 2)) fun t7 =>
 .op (.call 31 [t7]) fun t8 =>
 .op (.un .not t8) fun t9 =>
 .done (e.upd 9 t9)
def c14_r2 (e : Env) : Reg :=
 .op (.mv (.pointer none)) fun t4 =>
 .op (.mv (.int .i64 1)) fun t5 =>
 .done ((e.upd 4 t4).upd 5 t5)
def c14_r3 (e : Env) : Reg :=
 .op (.load (some 4) (e 2)) fun t10 =>
 .op (.build [(.int .i64 0), (.int .i64 0), (.bool false), (.bool false), (.int .i64 0), (.int .i64 0), (.int .i64 0), (.slice none 0 0), (.slice none 0 0), (.slice none 0 0), (.slice none 0 0)] [(4, 4, t10)]) fun t11 =>
 .op (.box 93 t11) fun t12 =>
 .op (.mv t12) fun t6 =>
 .done (e.upd 6 t6)
def c14_r4 (e : Env) : Reg :=
 .op (.mv (e 6)) fun t13 =>
 .op (.fieldAddr 3 (e 2)) fun t14 =>
 .op (.load none t14) fun t15 =>
 .op (.append 34 9 72 (.slice none 0 0) t15) fun t16 =>
 .op (.nilCheck t13) fun t17 =>
 .op (.fieldAddr 4 t17) fun t18 =>
 .op (.fieldAddr 3 t18) fun t19 =>
 .op (.store 1 t19 t16) fun _ =>
 .done e
def c14_r5 (e : Env) : Reg :=
 .op (.mv (e 6)) fun t20 =>
 .op (.mv (e 1)) fun t21 =>
 .op (.call 32 [t20, t21]) fun t22 =>
 .done e
def c14_r6 (e : Env) : Reg :=
 .op (.mv (e 6)) fun t23 =>
 .op (.mv t23) fun t4 =>
 .op (.mv (.int .i64 0)) fun t5 =>
 .done ((e.upd 4 t4).upd 5 t5)
def R14 := an (ro c14_r0.eq_1) <| an (ro c14_r1.eq_1) <| an (ro c14_r2.eq_1) <| an (ro c14_r3.eq_1) <| an (ro c14_r4.eq_1) <| an (ro c14_r5.eq_1) <| ro c14_r6.eq_1
def c14 : CFn := ⟨(.seq (.region c14_r0) (.seq (.seq (.region c14_r1) (.cond (fun e => e 9) (.seq (.region c14_r2) .ret) .skip)) (.seq (.region c14_r3) (.seq (.region c14_r4) (.seq (.region c14_r5) (.seq (.region c14_r6) .ret)))))), [.t 4, .t 5]⟩
def p14 : Pers := ⟨7, [9], 24, []⟩
def c15_r0 (e : Env) : Reg :=
 .op (.box 35 (e 0)) fun t2 =>
 .op (.box 45 (e 1)) fun t3 =>
 .op (.alloc 42 [(.int .i64 0), (.int .i64 0), (.slice none 0 0), (.slice none 0 0)]) fun t4 =>
 .done (((e.upd 2 t2).upd 3 t3).upd 4 t4)
def c15_r1 (e : Env) : Reg :=
 .op (.load none (e 2)) fun t8 =>
 .op (.eqK .ptr false t8 (.pointer none)) fun t9 =>
 .done (e.upd 9 t9)
def c15_r2 (e : Env) : Reg :=
 .op (.build [(.int .i64 0), (.int .i64 0), (.slice none 0 0), (.slice none 0 0)] [(0, 1, (.int .i64 1))]) fun t10 =>
 .op (.store 4 (e 4) t10) fun _ =>
 .done e
def c15_r3 (e : Env) : Reg :=
 .op (.fieldAddr 0 (e 3)) fun t11 =>
 .op (.load none t11) fun t12 =>
 .op (.bin .eql t12 (.int .i64 4)) fun t13 =>
 .done (e.upd 13 t13)
def c15_r4 (e : Env) : Reg :=
 .op (.load none (e 2)) fun t14 =>
 .op (.nilCheck t14) fun t15 =>
 .op (.fieldAddr 0 t15) fun t16 =>
 .op (.call 33 [t16]) fun t17 =>
 .done e
def c15_r5 (e : Env) : Reg :=
 .op (.load none (e 2)) fun t18 =>
 .op (.nilCheck t18) fun t19 =>
 .op (.fieldAddr 0 t19) fun t20 =>
 .op (.fieldAddr 1 (e 3)) fun t21 =>
 .op (.load none t21) fun t22 =>
 .snap fun h5 =>
 .op (.call 34 [t20, t22]) fun t23 =>
 .done e
def c15_r6 (e : Env) : Reg :=
 .op (.load none (e 2)) fun t24 =>
 .op (.fieldAddr 5 (e 3)) fun t25 =>
 .op (.load none t25) fun t26 =>
 .op (.call 32 [t24, t26]) fun t27 =>
 .done e
def c15_r7 (e : Env) : Reg :=
 .op (.build [(.int .i64 0), (.int .i64 0), (.slice none 0 0), (.slice none 0 0)] []) fun t28 =>
 .op (.store 4 (e 4) t28) fun _ =>
 .done e
def c15_r8 (e : Env) : Reg :=
 .op (.load none (e 2)) fun t29 =>
 .op (.nilCheck t29) fun t30 =>
 .op (.fieldAddr 0 t30) fun t31 =>
 .op (.fieldAddr 1 (e 3)) fun t32 =>
 .op (.load none t32) fun t33 =>
 .snap fun h5 =>
 .op (.call 34 [t31, t33]) fun t34 =>
 .done e
def c15_r9_c2 (e : Env) (t48 : Value) (t50 : Value) : Reg :=
 .opg t48 false (.load none (e 2)) fun t51 =>
 .opg t48 false (.nilCheck t51) fun t52 =>
 .opg t48 false (.fieldAddr 8 t52) fun t53 =>
 .opg t48 false (.load none t53) fun t54 =>
 .opg t48 false (.lenSl t54) fun t55 =>
 .opg t48 false (.bin .geq t50 t55) fun t56 =>
 .op (.pick t48 (.bool true) t56) fun t57 =>
 .done (e.upd 57 t57)
def c15_r9_c1 (e : Env) (t42 : Value) : Reg :=
 .op (.mv t42) fun t43 =>
 .opg t43 false (.fieldAddr 2 (e 3)) fun t44 =>
 .opg t43 false (.load none t44) fun t45 =>
 .opg t43 false (.bin .lss t45 (.int .i64 0)) fun t46 =>
 .op (.pick t43 (.bool true) t46) fun t47 =>
 .op (.mv t47) fun t48 =>
 .opg t48 false (.fieldAddr 2 (e 3)) fun t49 =>
 .opg t48 false (.load none t49) fun t50 =>
 c15_r9_c2 e t48 t50
def c15_r9 (e : Env) : Reg :=
 .op (.fieldAddr 0 (e 3)) fun t35 =>
 .op (.load none t35) fun t36 =>
 .op (.bin .lss t36 (.int .i64 0)) fun t37 =>
 .op (.mv t37) fun t38 =>
 .opg t38 false (.fieldAddr 0 (e 3)) fun t39 =>
 .opg t38 false (.load none t39) fun t40 =>
 .opg t38 false (.bin .gtr t40 (.int .i64 4)) fun t41 =>
 .op (.pick t38 (.bool true) t41) fun t42 =>
 c15_r9_c1 e t42
def c15_r10 (e : Env) : Reg :=
 .op (.build [(.int .i64 0), (.int .i64 0), (.slice none 0 0), (.slice none 0 0)] [(0, 1, (.int .i64 1))]) fun t58 =>
 .op (.store 4 (e 4) t58) fun _ =>
 .done e
def c15_r12_c1 (e : Env) (t67 : Value) : Reg :=
 .op (.build [(.int .i64 0), (.int .i64 0), (.slice none 0 0), (.slice none 0 0)] []) fun t68 =>
 .op (.alloc 42 [(.int .i64 0), (.int .i64 0), (.slice none 0 0), (.slice none 0 0)]) fun t6 =>
 .op (.mv t67) fun t5 =>
 .snap fun h11 =>
 .op (.store 4 t6 t68) fun _ =>
 .done ((e.upd 6 t6).upd 5 t5)
def c15_r12 (e : Env) : Reg :=
 .op (.load none (e 2)) fun t60 =>
 .op (.nilCheck t60) fun t61 =>
 .op (.fieldAddr 8 t61) fun t62 =>
 .op (.load none t62) fun t63 =>
 .op (.fieldAddr 2 (e 3)) fun t64 =>
 .op (.load none t64) fun t65 =>
 .op (.indexSl 1 t63 t65) fun t66 =>
 .op (.load none t66) fun t67 =>
 c15_r12_c1 e t67
def c15_r13 (e : Env) : Reg :=
 .op (.mv (.bool true)) fun t7 =>
 .done (e.upd 7 t7)
def c15_r14 (e : Env) : Reg :=
 .op (.fieldAddr 0 (e 3)) fun t69 =>
 .op (.load none t69) fun t70 =>
 .done (e.upd 70 t70)
def c15_r18 (e : Env) : Reg :=
 .op (.bin .eql (e 70) (.int .i64 0)) fun t80 =>
 .op (.mv t80) fun t79 =>
 .done (e.upd 79 t79)
def c15_r19 (e : Env) : Reg :=
 .op (.mv (e 5)) fun t81 =>
 .op (.call 36 [t81]) fun t82 =>
 .op (.mv t82) fun t7 =>
 .done (e.upd 7 t7)
def c15_r20 (e : Env) : Reg :=
 .op (.bin .eql (e 70) (.int .i64 1)) fun t84 =>
 .op (.mv t84) fun t83 =>
 .done (e.upd 83 t83)
def c15_r21 (e : Env) : Reg :=
 .op (.mv (e 5)) fun t85 =>
 .op (.call 37 [t85]) fun t86 =>
 .op (.mv t86) fun t7 =>
 .done (e.upd 7 t7)
def c15_r22 (e : Env) : Reg :=
 .op (.bin .eql (e 70) (.int .i64 2)) fun t88 =>
 .op (.mv t88) fun t87 =>
 .done (e.upd 87 t87)
def c15_r23 (e : Env) : Reg :=
 .op (.mv (e 5)) fun t89 =>
 .op (.call 38 [t89]) fun t90 =>
 .op (.mv t90) fun t7 =>
 .done (e.upd 7 t7)
def c15_r24 (e : Env) : Reg :=
 .op (.mv (e 7)) fun t91 =>
 .done (e.upd 91 t91)
def c15_r25 (e : Env) : Reg :=
 .op (.mv (e 5)) fun t92 =>
 .op (.fieldAddr 3 (e 3)) fun t93 =>
 .op (.load none t93) fun t94 =>
 .op (.load none (e 2)) fun t95 =>
 .op (.mv (.iface 35 t95)) fun t96 =>
 .op (.call 39 [t92, t94, t96]) fun t97 =>
 .op (.fieldAddr 1 (e 6)) fun t98 =>
 .op (.store 1 t98 t97) fun _ =>
 .done e
def c15_r15 (e : Env) : Reg :=
 .op (.mv (e 5)) fun t71 =>
 .op (.call 38 [t71]) fun t72 =>
 .op (.mv t72) fun t7 =>
 .done (e.upd 7 t7)
def c15_r16 (e : Env) : Reg :=
 .op (.mv (e 7)) fun t73 =>
 .done (e.upd 73 t73)
def c15_r17 (e : Env) : Reg :=
 .op (.mv (e 5)) fun t74 =>
 .op (.fieldAddr 4 (e 3)) fun t75 =>
 .op (.load none t75) fun t76 =>
 .op (.call 40 [t74, t76]) fun t77 =>
 .op (.fieldAddr 2 (e 6)) fun t78 =>
 .op (.store 1 t78 t77) fun _ =>
 .done e
def c15_r26 (e : Env) : Reg :=
 .op (.mv (e 7)) fun t99 =>
 .op (.un .not t99) fun t100 =>
 .done (e.upd 100 t100)
def c15_r27 (e : Env) : Reg :=
 .op (.build [(.int .i64 0), (.int .i64 0), (.slice none 0 0), (.slice none 0 0)] [(0, 1, (.int .i64 11))]) fun t101 =>
 .op (.store 4 (e 4) t101) fun _ =>
 .done e
def c15_r28 (e : Env) : Reg :=
 .op (.load none (e 2)) fun t102 =>
 .op (.nilCheck t102) fun t103 =>
 .op (.fieldAddr 10 t103) fun t104 =>
 .op (.load none t104) fun t105 =>
 .op (.fieldAddr 3 (e 6)) fun t106 =>
 .op (.store 1 t106 t105) fun _ =>
 .done e
def c15_r29 (e : Env) : Reg :=
 .op (.load (some 4) (e 6)) fun t107 =>
 .op (.store 4 (e 4) t107) fun _ =>
 .done e
def R15 := an (ro c15_r0.eq_1) <| an (ro c15_r1.eq_1) <| an (ro c15_r2.eq_1) <| an (ro c15_r3.eq_1) <| an (ro c15_r4.eq_1) <| an (ro c15_r5.eq_1) <| an (ro c15_r6.eq_1) <| an (ro c15_r7.eq_1) <| an (ro c15_r8.eq_1) <| an (ro2 c15_r9_c2.eq_1) <| an (ro1 c15_r9_c1.eq_1) <| an (ro c15_r9.eq_1) <| an (ro c15_r10.eq_1) <| an (ro1 c15_r12_c1.eq_1) <| an (ro c15_r12.eq_1) <| an (ro c15_r13.eq_1) <| an (ro c15_r14.eq_1) <| an (ro c15_r18.eq_1) <| an (ro c15_r19.eq_1) <| an (ro c15_r20.eq_1) <| an (ro c15_r21.eq_1) <| an (ro c15_r22.eq_1) <| an (ro c15_r23.eq_1) <| an (ro c15_r24.eq_1) <| an (ro c15_r25.eq_1) <| an (ro c15_r15.eq_1) <| an (ro c15_r16.eq_1) <| an (ro c15_r17.eq_1) <| an (ro c15_r26.eq_1) <| an (ro c15_r27.eq_1) <| an (ro c15_r28.eq_1) <| ro c15_r29.eq_1
def c15 : CFn := ⟨(.dfr (.seq (.region c15_r0) (.seq (.seq (.region c15_r1) (.cond (fun e => e 9) (.seq (.region c15_r2) .ret) .skip)) (.seq (.seq (.region c15_r3) (.cond (fun e => e 13) (.seq (.region c15_r4) (.seq (.region c15_r5) (.seq (.region c15_r6) (.seq (.region c15_r7) .ret)))) .skip)) (.seq (.region c15_r8) (.seq (.seq (.region c15_r9) (.cond (fun e => e 57) (.seq (.region c15_r10) .ret) .skip)) .skip))))) 35 (fun e => [(e 2)]) (.seq (.region c15_r12) (.seq (.region c15_r13) (.seq (.seq (.region c15_r14) (.block 0 (.seq (.region c15_r18) (.cond (fun e => e 79) (.region c15_r19) (.seq (.region c15_r20) (.cond (fun e => e 83) (.region c15_r21) (.seq (.region c15_r22) (.cond (fun e => e 87) (.seq (.region c15_r23) (.seq (.region c15_r24) (.cond (fun e => e 91) (.region c15_r25) .skip))) (.seq (.region c15_r15) (.seq (.region c15_r16) (.cond (fun e => e 73) (.region c15_r17) .skip))))))))))) (.seq (.seq (.region c15_r26) (.cond (fun e => e 100) (.seq (.region c15_r27) .ret) .skip)) (.seq (.region c15_r28) (.seq (.region c15_r29) .ret))))))), [.c 4 (some 4)]⟩
def p15 : Pers := ⟨8, [9, 13, 57, 70, 73, 79, 83, 87, 91, 100], 108, []⟩
def c20_r0 (e : Env) : Reg :=
 .op (.box 61 (e 0)) fun t1 =>
 .op (.mv (.slice none 0 0)) fun t2 =>
 .done ((e.upd 1 t1).upd 2 t2)
def c20_r1 (e : Env) : Reg :=
 .op (.fieldAddr 0 (e 1)) fun t4 =>
 .op (.load none t4) fun t5 =>
 .op (.conv .u8 t5) fun t6 =>
 .op (.fieldAddr 1 (e 1)) fun t7 =>
 .op (.load none t7) fun t8 =>
 .op (.conv .u8 t8) fun t9 =>
 .op (.buildSlice 5 2 [(.int .u8 0)] [(0, 1, t6), (1, 1, t9)]) fun t10 =>
 .op (.mv t10) fun t3 =>
 .done (e.upd 3 t3)
def c20_r2 (e : Env) : Reg :=
 .op (.fieldAddr 0 (e 1)) fun t11 =>
 .op (.load none t11) fun t12 =>
 .done (e.upd 12 t12)
def c20_r3 (e : Env) : Reg :=
 .op (.bin .eql (e 12) (.int .i64 1)) fun t14 =>
 .op (.mv t14) fun t13 =>
 .done (e.upd 13 t13)
def c20_r4 (e : Env) : Reg :=
 .op (.bin .eql (e 12) (.int .i64 2)) fun t16 =>
 .op (.mv t16) fun t15 =>
 .done (e.upd 15 t15)
def c20_r5 (e : Env) : Reg :=
 .op (.bin .eql (e 12) (.int .i64 4)) fun t18 =>
 .op (.mv t18) fun t17 =>
 .done (e.upd 17 t17)
def c20_r6_c1 (e : Env) (h4 : Heap) (t23 : Value) (t24 : Value) (t25 : Value) : Reg :=
 .chk none (some h4) (.load none t24) t25 <|
 .op (.lenStr t25) fun t26 =>
 .op (.conv .u8 t26) fun t27 =>
 .op (.buildSlice 5 1 [(.int .u8 0)] [(0, 1, t27)]) fun t28 =>
 .snap fun h10 =>
 .op (.append 5 1 1 t23 t28) fun t29 =>
 .op (.mv t29) fun t3 =>
 .done (e.upd 3 t3)
def c20_r6 (e : Env) : Reg :=
 .op (.mv (e 3)) fun t19 =>
 .op (.fieldAddr 2 (e 1)) fun t20 =>
 .op (.load none t20) fun t21 =>
 .op (.conv .u64 t21) fun t22 =>
 .snap fun h4 =>
 .op (.call 44 [t19, (.int .i64 4), t22]) fun t23 =>
 .op (.fieldAddr 3 (e 1)) fun t24 =>
 .op (.load none t24) fun t25 =>
 c20_r6_c1 e h4 t23 t24 t25
def c20_r7 (e : Env) : Reg :=
 .op (.mv (e 3)) fun t30 =>
 .op (.fieldAddr 3 (e 1)) fun t31 =>
 .op (.load none t31) fun t32 =>
 .op (.append 5 1 1 t30 t32) fun t33 =>
 .op (.mv t33) fun t3 =>
 .done (e.upd 3 t3)
def c20_r8 (e : Env) : Reg :=
 .op (.mv (e 3)) fun t34 =>
 .op (.fieldAddr 4 (e 1)) fun t35 =>
 .op (.load none t35) fun t36 =>
 .op (.conv .u8 t36) fun t37 =>
 .op (.buildSlice 5 1 [(.int .u8 0)] [(0, 1, t37)]) fun t38 =>
 .op (.append 5 1 1 t34 t38) fun t39 =>
 .op (.mv t39) fun t3 =>
 .done (e.upd 3 t3)
def c20_r9 (e : Env) : Reg :=
 .op (.mv (e 3)) fun t40 =>
 .op (.call 45 [(.int .u8 167), t40]) fun t41 =>
 .op (.mv t41) fun t2 =>
 .done (e.upd 2 t2)
def R20 := an (ro c20_r0.eq_1) <| an (ro c20_r1.eq_1) <| an (ro c20_r2.eq_1) <| an (ro c20_r3.eq_1) <| an (ro c20_r4.eq_1) <| an (ro c20_r5.eq_1) <| an (ro4 c20_r6_c1.eq_1) <| an (ro c20_r6.eq_1) <| an (ro c20_r7.eq_1) <| an (ro c20_r8.eq_1) <| ro c20_r9.eq_1
def c20 : CFn := ⟨(.seq (.region c20_r0) (.seq (.region c20_r1) (.seq (.seq (.region c20_r2) (.block 0 (.seq (.block 3 (.seq (.block 2 (.block 1 (.seq (.seq (.seq (.region c20_r3) (.cond (fun e => e 13) (.exit 1) .skip)) (.seq (.seq (.region c20_r4) (.cond (fun e => e 15) (.exit 2) .skip)) (.seq (.region c20_r5) (.cond (fun e => e 17) (.exit 3) .skip)))) (.exit 0)))) (.seq (.seq (.region c20_r6) (.region c20_r7)) (.exit 0)))) (.seq (.region c20_r8) (.exit 0))))) (.seq (.region c20_r9) .ret)))), [.t 2]⟩
def p20 : Pers := ⟨4, [12, 13, 15, 17], 42, []⟩
def c21_r0 (e : Env) : Reg :=
 .op (.alloc 66 [(.int .i64 0), (.int .i64 0), (.int .i64 0), (.int .i64 0), (.int .i64 0), (.int .i64 0), (.int .i64 0), (.int .i64 0), (.int .i64 0), (.int .i64 0), (.slice none 0 0), (.int .i64 0)]) fun t2 =>
 .op (.mv (.int .i64 0)) fun t3 =>
 .op (.mv (.bool false)) fun t4 =>
 .done (((e.upd 2 t2).upd 3 t3).upd 4 t4)
def c21_r1_c1 (e : Env) (t10 : Value) (t14 : Value) : Reg :=
 .op (.pick t10 (.bool true) t14) fun t15 =>
 .op (.mv t15) fun t16 =>
 .opg t16 false (.mv (e 0)) fun t17 =>
 .opg t16 false (.indexSl 1 t17 (.int .i64 1)) fun t18 =>
 .opg t16 false (.load none t18) fun t19 =>
 .opg t16 false (.bin .neq t19 (.int .u8 1)) fun t20 =>
 .op (.pick t16 (.bool true) t20) fun t21 =>
 .done (e.upd 21 t21)
def c21_r1 (e : Env) : Reg :=
 .op (.mv (e 0)) fun t7 =>
 .op (.lenSl t7) fun t8 =>
 .op (.bin .lss t8 (.int .i64 6)) fun t9 =>
 .op (.mv t9) fun t10 =>
 .opg t10 false (.mv (e 0)) fun t11 =>
 .opg t10 false (.indexSl 1 t11 (.int .i64 0)) fun t12 =>
 .opg t10 false (.load none t12) fun t13 =>
 .opg t10 false (.bin .neq t13 (.int .u8 168)) fun t14 =>
 c21_r1_c1 e t10 t14
def c21_r2 (e : Env) : Reg :=
 .op (.build [(.int .i64 0), (.int .i64 0), (.int .i64 0), (.int .i64 0), (.int .i64 0), (.int .i64 0), (.int .i64 0), (.int .i64 0), (.int .i64 0), (.int .i64 0), (.slice none 0 0), (.int .i64 0)] []) fun t22 =>
 .op (.store 12 (e 2) t22) fun _ =>
 .op (.mv (.int .i64 0)) fun t3 =>
 .op (.mv (.bool false)) fun t4 =>
 .done ((e.upd 3 t3).upd 4 t4)
def c21_r3 (e : Env) : Reg :=
 .op (.mv (e 0)) fun t23 =>
 .op (.slice 5 1 t23 (some (.int .i64 2)) (some (.int .i64 4))) fun t24 =>
 .op (.call 46 [t24]) fun t25 =>
 .op (.conv .i64 t25) fun t26 =>
 .op (.bin .add (.int .i64 4) t26) fun t27 =>
 .op (.mv t27) fun t5 =>
 .done (e.upd 5 t5)
def c21_r4_c1 (e : Env) (t35 : Value) : Reg :=
 .op (.mv t35) fun t36 =>
 .opg t36 false (.mv (e 0)) fun t37 =>
 .opg t36 false (.indexSl 1 t37 (.int .i64 4)) fun t38 =>
 .opg t36 false (.load none t38) fun t39 =>
 .opg t36 false (.bin .lss t39 (.int .u8 128)) fun t40 =>
 .op (.pick t36 (.bool true) t40) fun t41 =>
 .done (e.upd 41 t41)
def c21_r4 (e : Env) : Reg :=
 .op (.mv (e 5)) fun t28 =>
 .op (.bin .lss t28 (.int .i64 6)) fun t29 =>
 .op (.mv t29) fun t30 =>
 .opg t30 false (.mv (e 0)) fun t31 =>
 .opg t30 false (.lenSl t31) fun t32 =>
 .opg t30 false (.mv (e 5)) fun t33 =>
 .opg t30 false (.bin .lss t32 t33) fun t34 =>
 .op (.pick t30 (.bool true) t34) fun t35 =>
 c21_r4_c1 e t35
def c21_r5 (e : Env) : Reg :=
 .op (.build [(.int .i64 0), (.int .i64 0), (.int .i64 0), (.int .i64 0), (.int .i64 0), (.int .i64 0), (.int .i64 0), (.int .i64 0), (.int .i64 0), (.int .i64 0), (.slice none 0 0), (.int .i64 0)] []) fun t42 =>
 .op (.store 12 (e 2) t42) fun _ =>
 .op (.mv (.int .i64 0)) fun t3 =>
 .op (.mv (.bool false)) fun t4 =>
 .done ((e.upd 3 t3).upd 4 t4)
def c21_r6 (e : Env) : Reg :=
 .op (.mv (e 0)) fun t43 =>
 .op (.indexSl 1 t43 (.int .i64 4)) fun t44 =>
 .op (.load none t44) fun t45 =>
 .op (.bin .and t45 (.int .u8 127)) fun t46 =>
 .op (.conv .i64 t46) fun t47 =>
 .op (.build [(.int .i64 0), (.int .i64 0), (.int .i64 0), (.int .i64 0), (.int .i64 0), (.int .i64 0), (.int .i64 0), (.int .i64 0), (.int .i64 0), (.int .i64 0), (.slice none 0 0), (.int .i64 0)] [(0, 1, t47)]) fun t48 =>
 .op (.alloc 66 [(.int .i64 0), (.int .i64 0), (.int .i64 0), (.int .i64 0), (.int .i64 0), (.int .i64 0), (.int .i64 0), (.int .i64 0), (.int .i64 0), (.int .i64 0), (.slice none 0 0), (.int .i64 0)]) fun t6 =>
 .op (.store 12 t6 t48) fun _ =>
 .done (e.upd 6 t6)
def c21_r7 (e : Env) : Reg :=
 .op (.mv (e 0)) fun t49 =>
 .op (.mv (e 5)) fun t50 =>
 .op (.slice 5 1 t49 (some (.int .i64 5)) (some t50)) fun t51 =>
 .op (.call 47 [(e 6), t51]) fun t52 =>
 .op (.un .not t52) fun t53 =>
 .done (e.upd 53 t53)
def c21_r8 (e : Env) : Reg :=
 .op (.build [(.int .i64 0), (.int .i64 0), (.int .i64 0), (.int .i64 0), (.int .i64 0), (.int .i64 0), (.int .i64 0), (.int .i64 0), (.int .i64 0), (.int .i64 0), (.slice none 0 0), (.int .i64 0)] []) fun t54 =>
 .op (.store 12 (e 2) t54) fun _ =>
 .op (.mv (.int .i64 0)) fun t3 =>
 .op (.mv (.bool false)) fun t4 =>
 .done ((e.upd 3 t3).upd 4 t4)
def c21_r9 (e : Env) : Reg :=
 .op (.load (some 12) (e 6)) fun t55 =>
 .op (.mv (e 5)) fun t56 =>
 .op (.store 12 (e 2) t55) fun _ =>
 .op (.mv t56) fun t3 =>
 .op (.mv (.bool true)) fun t4 =>
 .done ((e.upd 3 t3).upd 4 t4)
def R21 := an (ro c21_r0.eq_1) <| an (ro2 c21_r1_c1.eq_1) <| an (ro c21_r1.eq_1) <| an (ro c21_r2.eq_1) <| an (ro c21_r3.eq_1) <| an (ro1 c21_r4_c1.eq_1) <| an (ro c21_r4.eq_1) <| an (ro c21_r5.eq_1) <| an (ro c21_r6.eq_1) <| an (ro c21_r7.eq_1) <| an (ro c21_r8.eq_1) <| ro c21_r9.eq_1
def c21 : CFn := ⟨(.seq (.region c21_r0) (.seq (.seq (.region c21_r1) (.cond (fun e => e 21) (.seq (.region c21_r2) .ret) .skip)) (.seq (.region c21_r3) (.seq (.seq (.region c21_r4) (.cond (fun e => e 41) (.seq (.region c21_r5) .ret) .skip)) (.seq (.region c21_r6) (.seq (.seq (.region c21_r7) (.cond (fun e => e 53) (.seq (.region c21_r8) .ret) .skip)) (.seq (.region c21_r9) .ret))))))), [.c 2 (some 12), .t 3, .t 4]⟩
def p21 : Pers := ⟨7, [21, 41, 53], 57, []⟩
def c26_r0 (e : Env) : Reg :=
 .op (.mv (.int .i64 0)) fun t2 =>
 .done (e.upd 2 t2)
def c26_r1 (e : Env) : Reg :=
 .op (.mv (e 0)) fun t3 =>
 .op (.nilCheck t3) fun t4 =>
 .op (.fieldAddr 0 t4) fun t5 =>
 .op (.load none t5) fun t6 =>
 .op (.mv t6) fun t2 =>
 .done (e.upd 2 t2)
def R26 := an (ro c26_r0.eq_1) <| ro c26_r1.eq_1
def c26 : CFn := ⟨(.seq (.region c26_r0) (.seq (.region c26_r1) .ret)), [.t 2]⟩
def p26 : Pers := ⟨3, [], 7, []⟩
def c27_r0 (e : Env) : Reg :=
 .op (.mv (.pointer none)) fun t4 =>
 .done (e.upd 4 t4)
def c27_r1_c1 (e : Env) (t11 : Value) (t12 : Value) : Reg :=
 .opg t11 false (.mv (e 0)) fun t13 =>
 .opg t11 false (.nilCheck t13) fun t14 =>
 .opg t11 false (.fieldAddr 9 t14) fun t15 =>
 .opg t11 false (.load none t15) fun t16 =>
 .opg t11 false (.lenSl t16) fun t17 =>
 .opg t11 false (.bin .geq t12 t17) fun t18 =>
 .op (.pick t11 (.bool true) t18) fun t19 =>
 .done (e.upd 19 t19)
def c27_r1 (e : Env) : Reg :=
 .op (.mv (e 0)) fun t5 =>
 .op (.eqK .ptr false t5 (.pointer none)) fun t6 =>
 .op (.mv t6) fun t7 =>
 .opg t7 false (.mv (e 1)) fun t8 =>
 .opg t7 false (.bin .lss t8 (.int .i64 0)) fun t9 =>
 .op (.pick t7 (.bool true) t9) fun t10 =>
 .op (.mv t10) fun t11 =>
 .opg t11 false (.mv (e 1)) fun t12 =>
 c27_r1_c1 e t11 t12
def c27_r2 (e : Env) : Reg :=
 .op (.mv (.pointer none)) fun t4 =>
 .done (e.upd 4 t4)
def c27_r3 (e : Env) : Reg :=
 .op (.mv (e 0)) fun t20 =>
 .op (.nilCheck t20) fun t21 =>
 .op (.fieldAddr 9 t21) fun t22 =>
 .op (.load none t22) fun t23 =>
 .op (.mv (e 1)) fun t24 =>
 .op (.indexSl 1 t23 t24) fun t25 =>
 .op (.load none t25) fun t26 =>
 .op (.mv t26) fun t4 =>
 .done (e.upd 4 t4)
def R27 := an (ro c27_r0.eq_1) <| an (ro2 c27_r1_c1.eq_1) <| an (ro c27_r1.eq_1) <| an (ro c27_r2.eq_1) <| ro c27_r3.eq_1
def c27 : CFn := ⟨(.seq (.region c27_r0) (.seq (.seq (.region c27_r1) (.cond (fun e => e 19) (.seq (.region c27_r2) .ret) .skip)) (.seq (.region c27_r3) .ret))), [.t 4]⟩
def p27 : Pers := ⟨5, [19], 27, []⟩
def c28_r0 (e : Env) : Reg :=
 .op (.alloc 63 [(.int .i64 0), (.int .i64 0), (.int .i64 0), (.int .i64 0), (.int .i64 0)]) fun t2 =>
 .done (e.upd 2 t2)
def c28_r1 (e : Env) : Reg :=
 .op (.mv (e 0)) fun t4 =>
 .op (.nilCheck t4) fun t5 =>
 .op (.fieldAddr 16 t5) fun t6 =>
 .op (.load (some 5) t6) fun t7 =>
 .op (.alloc 63 [(.int .i64 0), (.int .i64 0), (.int .i64 0), (.int .i64 0), (.int .i64 0)]) fun t3 =>
 .op (.store 5 t3 t7) fun _ =>
 .done (e.upd 3 t3)
def c28_r2_c2 (e : Env) (t17 : Value) : Reg :=
 .op (.fieldAddr 4 (e 3)) fun t19 =>
 .snap fun h13 =>
 .op (.store 1 t19 t17) fun _ =>
 .done e
def c28_r2_c1 (e : Env) (h4 : Heap) (t12 : Value) (t14 : Value) : Reg :=
 .op (.fieldAddr 15 t14) fun t15 =>
 .op (.load none t15) fun t16 =>
 .chk none (some h4) (.load none t15) t16 <|
 .snap fun h9 =>
 .op (.call 50 [t16]) fun t17 =>
 .op (.fieldAddr 3 (e 3)) fun t18 =>
 .snap fun h11 =>
 .op (.store 1 t18 t12) fun _ =>
 c28_r2_c2 e t17
def c28_r2 (e : Env) : Reg :=
 .op (.mv (e 0)) fun t8 =>
 .op (.nilCheck t8) fun t9 =>
 .op (.fieldAddr 13 t9) fun t10 =>
 .op (.load none t10) fun t11 =>
 .snap fun h4 =>
 .op (.call 49 [t11]) fun t12 =>
 .op (.mv (e 0)) fun t13 =>
 .op (.nilCheck t13) fun t14 =>
 c28_r2_c1 e h4 t12 t14
def c28_r3 (e : Env) : Reg :=
 .op (.load (some 5) (e 3)) fun t20 =>
 .op (.store 5 (e 2) t20) fun _ =>
 .done e
def R28 := an (ro c28_r0.eq_1) <| an (ro c28_r1.eq_1) <| an (ro1 c28_r2_c2.eq_1) <| an (ro3 c28_r2_c1.eq_1) <| an (ro c28_r2.eq_1) <| ro c28_r3.eq_1
def c28 : CFn := ⟨(.seq (.region c28_r0) (.seq (.region c28_r1) (.seq (.region c28_r2) (.seq (.region c28_r3) .ret)))), [.c 2 (some 5)]⟩
def p28 : Pers := ⟨4, [], 21, []⟩
def c30_r0 (e : Env) : Reg :=
 .op (.box 23 (e 0)) fun t1 =>
 .op (.alloc 34 [(.int .i64 0), (.int .i64 0), (.int .i64 0), (.int .i64 0), (.int .i64 0), (.int .i64 0), (.int .i64 0), (.int .i64 0), (.bool false)]) fun t2 =>
 .done ((e.upd 1 t1).upd 2 t2)
def c30_r1 (e : Env) : Reg :=
 .op (.fieldAddr 0 (e 1)) fun t6 =>
 .op (.load none t6) fun t7 =>
 .op (.bin .and t7 (.int .i64 31)) fun t8 =>
 .op (.bin .add t8 (.int .i64 1)) fun t9 =>
 .op (.mv t9) fun t3 =>
 .done (e.upd 3 t3)
def c30_r2 (e : Env) : Reg :=
 .op (.fieldAddr 3 (e 1)) fun t10 =>
 .op (.load none t10) fun t11 =>
 .op (.bin .and t11 (.int .i64 7)) fun t12 =>
 .op (.bin .add t12 (.int .i64 1)) fun t13 =>
 .op (.mv t13) fun t4 =>
 .done (e.upd 4 t4)
def c30_r3_c3 (e : Env) (t14 : Value) (t20 : Value) (t26 : Value) (t27 : Value) (t31 : Value) (t35 : Value) (t37 : Value) : Reg :=
 .op (.bin .and t37 (.int .i64 15)) fun t38 =>
 .op (.bin .add t38 (.int .i64 1)) fun t39 =>
 .op (.fieldAddr 7 (e 1)) fun t40 =>
 .op (.load none t40) fun t41 =>
 .op (.bin .and t41 (.int .i64 7)) fun t42 =>
 .op (.bin .add t42 (.int .i64 1)) fun t43 =>
 .op (.build [(.int .i64 0), (.int .i64 0), (.int .i64 0), (.int .i64 0), (.int .i64 0), (.int .i64 0), (.int .i64 0), (.int .i64 0), (.bool false)] [(0, 1, t14), (1, 1, t20), (2, 1, t26), (3, 1, t27), (4, 1, t31), (5, 1, t35), (6, 1, t39), (7, 1, t43)]) fun t44 =>
 .op (.alloc 34 [(.int .i64 0), (.int .i64 0), (.int .i64 0), (.int .i64 0), (.int .i64 0), (.int .i64 0), (.int .i64 0), (.int .i64 0), (.bool false)]) fun t5 =>
 .snap fun h32 =>
 .op (.store 9 t5 t44) fun _ =>
 .done (e.upd 5 t5)
def c30_r3_c2 (e : Env) (t14 : Value) (t20 : Value) (t26 : Value) (t27 : Value) (t29 : Value) : Reg :=
 .op (.bin .and t29 (.int .i64 7)) fun t30 =>
 .op (.bin .add t30 (.int .i64 1)) fun t31 =>
 .op (.fieldAddr 5 (e 1)) fun t32 =>
 .op (.load none t32) fun t33 =>
 .op (.bin .and t33 (.int .i64 3)) fun t34 =>
 .op (.bin .add t34 (.int .i64 1)) fun t35 =>
 .op (.fieldAddr 6 (e 1)) fun t36 =>
 .op (.load none t36) fun t37 =>
 c30_r3_c3 e t14 t20 t26 t27 t31 t35 t37
def c30_r3_c1 (e : Env) (t14 : Value) (t20 : Value) (t21 : Value) : Reg :=
 .op (.load none t21) fun t22 =>
 .op (.bin .and t22 (.int .i64 31)) fun t23 =>
 .op (.mv (e 3)) fun t24 =>
 .op (.bin .rem t23 t24) fun t25 =>
 .op (.bin .add t25 (.int .i64 1)) fun t26 =>
 .op (.mv (e 4)) fun t27 =>
 .op (.fieldAddr 4 (e 1)) fun t28 =>
 .op (.load none t28) fun t29 =>
 c30_r3_c2 e t14 t20 t26 t27 t29
def c30_r3 (e : Env) : Reg :=
 .op (.mv (e 3)) fun t14 =>
 .op (.fieldAddr 1 (e 1)) fun t15 =>
 .op (.load none t15) fun t16 =>
 .op (.bin .and t16 (.int .i64 31)) fun t17 =>
 .op (.bin .add t17 (.int .i64 1)) fun t18 =>
 .op (.mv (e 4)) fun t19 =>
 .op (.bin .mul t18 t19) fun t20 =>
 .op (.fieldAddr 2 (e 1)) fun t21 =>
 c30_r3_c1 e t14 t20 t21
def c30_r4 (e : Env) : Reg :=
 .op (.fieldAddr 8 (e 1)) fun t45 =>
 .op (.load none t45) fun t46 =>
 .op (.mv t46) fun t47 =>
 .opg t47 true (.mv (e 4)) fun t48 =>
 .opg t47 true (.bin .gtr t48 (.int .i64 1)) fun t49 =>
 .op (.pick t47 t49 (.bool false)) fun t50 =>
 .op (.fieldAddr 8 (e 5)) fun t51 =>
 .op (.store 1 t51 t50) fun _ =>
 .done e
def c30_r5 (e : Env) : Reg :=
 .op (.load (some 9) (e 5)) fun t52 =>
 .op (.store 9 (e 2) t52) fun _ =>
 .done e
def R30 := an (ro c30_r0.eq_1) <| an (ro c30_r1.eq_1) <| an (ro c30_r2.eq_1) <| an (ro7 c30_r3_c3.eq_1) <| an (ro5 c30_r3_c2.eq_1) <| an (ro3 c30_r3_c1.eq_1) <| an (ro c30_r3.eq_1) <| an (ro c30_r4.eq_1) <| ro c30_r5.eq_1
def c30 : CFn := ⟨(.seq (.region c30_r0) (.seq (.region c30_r1) (.seq (.region c30_r2) (.seq (.region c30_r3) (.seq (.region c30_r4) (.seq (.region c30_r5) .ret)))))), [.c 2 (some 9)]⟩
def p30 : Pers := ⟨6, [], 53, []⟩
def c31_r0 (e : Env) : Reg :=
 .op (.box 30 (e 0)) fun t1 =>
 .op (.mv (.bool false)) fun t2 =>
 .done ((e.upd 1 t1).upd 2 t2)
def c31_r1_c2 (e : Env) (t16 : Value) (t20 : Value) : Reg :=
 .op (.pick t16 (.bool true) t20) fun t21 =>
 .op (.mv t21) fun t22 =>
 .opg t22 false (.fieldAddr 2 (e 1)) fun t23 =>
 .opg t22 false (.load none t23) fun t24 =>
 .opg t22 false (.bin .gtr t24 (.int .i64 65536)) fun t25 =>
 .op (.pick t22 (.bool true) t25) fun t26 =>
 .done (e.upd 26 t26)
def c31_r1_c1 (e : Env) (t9 : Value) (t12 : Value) : Reg :=
 .opg t9 false (.call 54 [t12, (.int .i64 8)]) fun t13 =>
 .opg t9 false (.un .not t13) fun t14 =>
 .op (.pick t9 (.bool true) t14) fun t15 =>
 .op (.mv t15) fun t16 =>
 .opg t16 false (.fieldAddr 0 (e 1)) fun t17 =>
 .opg t16 false (.load none t17) fun t18 =>
 .opg t16 false (.call 54 [t18, (.int .i64 4294967296)]) fun t19 =>
 .opg t16 false (.un .not t19) fun t20 =>
 c31_r1_c2 e t16 t20
def c31_r1 (e : Env) : Reg :=
 .op (.fieldAddr 1 (e 1)) fun t5 =>
 .op (.load none t5) fun t6 =>
 .op (.call 54 [t6, (.int .i64 16)]) fun t7 =>
 .op (.un .not t7) fun t8 =>
 .op (.mv t8) fun t9 =>
 .opg t9 false (.fieldAddr 3 (e 1)) fun t10 =>
 .opg t9 false (.load none t10) fun t11 =>
 .opg t9 false (.lenSl t11) fun t12 =>
 c31_r1_c1 e t9 t12
def c31_r2 (e : Env) : Reg :=
 .op (.mv (.bool false)) fun t2 =>
 .done (e.upd 2 t2)
def c31_r3 (e : Env) : Reg :=
 .op (.fieldAddr 3 (e 1)) fun t27 =>
 .op (.load none t27) fun t28 =>
 .op (.lenSl t28) fun t29 =>
 .op (.mv (.int .i64 0)) fun t30 =>
 .done (((e.upd 28 t28).upd 29 t29).upd 30 t30)
def c31_r4 (e : Env) : Reg :=
 .op (.bin .lss (e 30) (e 29)) fun t31 =>
 .done (e.upd 31 t31)
def c31_r5 (e : Env) : Reg :=
 .op (.indexSl 9 (e 28) (e 30)) fun t32 =>
 .op (.load (some 9) t32) fun t33 =>
 .op (.alloc 34 [(.int .i64 0), (.int .i64 0), (.int .i64 0), (.int .i64 0), (.int .i64 0), (.int .i64 0), (.int .i64 0), (.int .i64 0), (.bool false)]) fun t4 =>
 .op (.store 9 t4 t33) fun _ =>
 .done (e.upd 4 t4)
def c31_r6 (e : Env) : Reg :=
 .op (.load (some 9) (e 4)) fun t34 =>
 .op (.call 55 [t34]) fun t35 =>
 .op (.un .not t35) fun t36 =>
 .done (e.upd 36 t36)
def c31_r7 (e : Env) : Reg :=
 .op (.mv (.bool false)) fun t2 =>
 .done (e.upd 2 t2)
def c31_r8 (e : Env) : Reg :=
 .op (.bin .add (e 30) (.int .i64 1)) fun t37 =>
 .op (.mv t37) fun t30 =>
 .done (e.upd 30 t30)
def c31_l0 : CC := (.seq (.region c31_r4) (.seq (.cond (fun e => e 31) .skip (.exit 0)) (.seq (.block 1 (.seq (.region c31_r5) (.seq (.region c31_r6) (.cond (fun e => e 36) (.seq (.region c31_r7) .ret) .skip)))) (.region c31_r8))))
def c31_r9_c1 (e : Env) (t43 : Value) : Reg :=
 .opg t43 true (.load (some 4) (e 1)) fun t44 =>
 .snap fun h7 =>
 .opg t43 true (.call 57 [t44]) fun t45 =>
 .opg t43 true (.fieldAddr 0 (e 1)) fun t46 =>
 .opg t43 true (.load none t46) fun t47 =>
 .chk (some (t43, true)) (some h7) (.load none t46) t47 <|
 .opg t43 true (.bin .leq t45 t47) fun t48 =>
 .op (.pick t43 t48 (.bool false)) fun t49 =>
 .op (.mv t49) fun t2 =>
 .done (e.upd 2 t2)
def c31_r9 (e : Env) : Reg :=
 .op (.fieldAddr 2 (e 1)) fun t38 =>
 .op (.load none t38) fun t39 =>
 .op (.load (some 4) (e 1)) fun t40 =>
 .snap fun h3 =>
 .op (.call 56 [t40]) fun t41 =>
 .chk none none (.load none t38) t39 <|
 .op (.bin .geq t39 t41) fun t42 =>
 .op (.mv t42) fun t43 =>
 c31_r9_c1 e t43
def R31 := an (ro c31_r0.eq_1) <| an (ro2 c31_r1_c2.eq_1) <| an (ro2 c31_r1_c1.eq_1) <| an (ro c31_r1.eq_1) <| an (ro c31_r2.eq_1) <| an (ro c31_r3.eq_1) <| an (ro c31_r4.eq_1) <| an (ro c31_r5.eq_1) <| an (ro c31_r6.eq_1) <| an (ro c31_r7.eq_1) <| an (ro c31_r8.eq_1) <| an (ro1 c31_r9_c1.eq_1) <| ro c31_r9.eq_1
def c31 : CFn := ⟨(.seq (.region c31_r0) (.seq (.seq (.region c31_r1) (.cond (fun e => e 26) (.seq (.region c31_r2) .ret) .skip)) (.seq (.seq (.region c31_r3) (.block 0 (.loop c31_l0))) (.seq (.region c31_r9) .ret)))), [.t 2]⟩
def p31 : Pers := ⟨5, [26, 28, 29, 30, 31, 36], 50, []⟩
def c32_r0 (e : Env) : Reg :=
 .op (.mv (e 0)) fun t7 =>
 .op (.mv (e 0)) fun t8 =>
 .op (.nilCheck t7) fun t9 =>
 .op (.fieldAddr 8 t9) fun t10 =>
 .op (.store 1 t10 (.slice none 0 0)) fun _ =>
 .op (.nilCheck t8) fun t11 =>
 .op (.fieldAddr 9 t11) fun t12 =>
 .op (.store 1 t12 (.slice none 0 0)) fun _ =>
 .done e
def c32_r1 (e : Env) : Reg :=
 .op (.mv (e 0)) fun t13 =>
 .op (.nilCheck t13) fun t14 =>
 .op (.fieldAddr 4 t14) fun t15 =>
 .op (.fieldAddr 1 t15) fun t16 =>
 .op (.load none t16) fun t17 =>
 .op (.mv (.int .i64 0)) fun t18 =>
 .done ((e.upd 17 t17).upd 18 t18)
def c32_r2 (e : Env) : Reg :=
 .op (.bin .lss (e 18) (e 17)) fun t19 =>
 .done (e.upd 19 t19)
def c32_r3_c2 (e : Env) (t20 : Value) (t23 : Value) (t24 : Value) (t30 : Value) (t35 : Value) : Reg :=
 .snap fun h16 =>
 .op (.call 58 [t30, t35]) fun t36 =>
 .chk none none (.load none t23) t24 <|
 .op (.buildSlice 110 1 [(.pointer none)] [(0, 1, t36)]) fun t37 =>
 .snap fun h18 =>
 .op (.append 110 1 8 t24 t37) fun t38 =>
 .op (.nilCheck t20) fun t39 =>
 .op (.fieldAddr 8 t39) fun t40 =>
 .snap fun h21 =>
 .op (.store 1 t40 t38) fun _ =>
 .done e
def c32_r3_c1 (e : Env) (t20 : Value) (t23 : Value) (t24 : Value) (t27 : Value) : Reg :=
 .op (.fieldAddr 3 t27) fun t28 =>
 .op (.load none t28) fun t29 =>
 .op (.lenSl t29) fun t30 =>
 .op (.mv (e 0)) fun t31 =>
 .op (.nilCheck t31) fun t32 =>
 .op (.fieldAddr 4 t32) fun t33 =>
 .op (.fieldAddr 2 t33) fun t34 =>
 .op (.load none t34) fun t35 =>
 c32_r3_c2 e t20 t23 t24 t30 t35
def c32_r3 (e : Env) : Reg :=
 .op (.mv (e 0)) fun t20 =>
 .op (.mv (e 0)) fun t21 =>
 .op (.nilCheck t21) fun t22 =>
 .op (.fieldAddr 8 t22) fun t23 =>
 .op (.load none t23) fun t24 =>
 .op (.mv (e 0)) fun t25 =>
 .op (.nilCheck t25) fun t26 =>
 .op (.fieldAddr 4 t26) fun t27 =>
 c32_r3_c1 e t20 t23 t24 t27
def c32_r4 (e : Env) : Reg :=
 .op (.bin .add (e 18) (.int .i64 1)) fun t41 =>
 .op (.mv t41) fun t18 =>
 .done (e.upd 18 t18)
def c32_l0 : CC := (.seq (.region c32_r2) (.seq (.cond (fun e => e 19) .skip (.exit 0)) (.seq (.block 1 (.region c32_r3)) (.region c32_r4))))
def c32_r5 (e : Env) : Reg :=
 .op (.mv (e 0)) fun t42 =>
 .op (.nilCheck t42) fun t43 =>
 .op (.fieldAddr 4 t43) fun t44 =>
 .op (.fieldAddr 3 t44) fun t45 =>
 .op (.load none t45) fun t46 =>
 .op (.lenSl t46) fun t47 =>
 .op (.mv (.int .i64 0)) fun t48 =>
 .done (((e.upd 46 t46).upd 47 t47).upd 48 t48)
def c32_r6 (e : Env) : Reg :=
 .op (.bin .lss (e 48) (e 47)) fun t49 =>
 .done (e.upd 49 t49)
def c32_r7 (e : Env) : Reg :=
 .op (.mv (e 48)) fun t50 =>
 .op (.indexSl 9 (e 46) (e 48)) fun t51 =>
 .op (.load (some 9) t51) fun t52 =>
 .op (.alloc 34 [(.int .i64 0), (.int .i64 0), (.int .i64 0), (.int .i64 0), (.int .i64 0), (.int .i64 0), (.int .i64 0), (.int .i64 0), (.bool false)]) fun t5 =>
 .op (.mv t50) fun t4 =>
 .op (.store 9 t5 t52) fun _ =>
 .done ((e.upd 5 t5).upd 4 t4)
def c32_r8 (e : Env) : Reg :=
 .op (.fieldAddr 5 (e 5)) fun t53 =>
 .op (.load none t53) fun t54 =>
 .op (.bin .add t54 (.int .i64 1)) fun t55 =>
 .op (.bin .mul (.int .i64 3) t55) fun t56 =>
 .op (.mv t56) fun t6 =>
 .done (e.upd 6 t6)
def c32_r9_c2 (e : Env) (t57 : Value) (t61 : Value) (t67 : Value) : Reg :=
 .op (.buildSlice 94 1 [(.pointer none)] [(0, 1, t67)]) fun t68 =>
 .snap fun h12 =>
 .op (.append 94 1 8 t61 t68) fun t69 =>
 .op (.nilCheck t57) fun t70 =>
 .op (.fieldAddr 9 t70) fun t71 =>
 .snap fun h15 =>
 .op (.store 1 t71 t69) fun _ =>
 .done e
def c32_r9_c1 (e : Env) (t57 : Value) (t60 : Value) (t61 : Value) (t62 : Value) (t63 : Value) (t64 : Value) : Reg :=
 .op (.mv (e 6)) fun t65 =>
 .snap fun h9 =>
 .op (.call 60 [t63, t64, t65]) fun t66 =>
 .chk none none (.load (some 9) (e 5)) t62 <|
 .chk none none (.load none t60) t61 <|
 .snap fun h10 =>
 .op (.call 59 [t62, t66]) fun t67 =>
 .chk none none (.load none t60) t61 <|
 c32_r9_c2 e t57 t61 t67
def c32_r9 (e : Env) : Reg :=
 .op (.mv (e 0)) fun t57 =>
 .op (.mv (e 0)) fun t58 =>
 .op (.nilCheck t58) fun t59 =>
 .op (.fieldAddr 9 t59) fun t60 =>
 .op (.load none t60) fun t61 =>
 .op (.load (some 9) (e 5)) fun t62 =>
 .op (.mv (e 1)) fun t63 =>
 .op (.mv (e 4)) fun t64 =>
 c32_r9_c1 e t57 t60 t61 t62 t63 t64
def c32_r10 (e : Env) : Reg :=
 .op (.bin .add (e 48) (.int .i64 1)) fun t72 =>
 .op (.mv t72) fun t48 =>
 .done (e.upd 48 t48)
def c32_l1 : CC := (.seq (.region c32_r6) (.seq (.cond (fun e => e 49) .skip (.exit 2)) (.seq (.block 3 (.seq (.region c32_r7) (.seq (.region c32_r8) (.region c32_r9)))) (.region c32_r10))))
def R32 := an (ro c32_r0.eq_1) <| an (ro c32_r1.eq_1) <| an (ro c32_r2.eq_1) <| an (ro5 c32_r3_c2.eq_1) <| an (ro4 c32_r3_c1.eq_1) <| an (ro c32_r3.eq_1) <| an (ro c32_r4.eq_1) <| an (ro c32_r5.eq_1) <| an (ro c32_r6.eq_1) <| an (ro c32_r7.eq_1) <| an (ro c32_r8.eq_1) <| an (ro3 c32_r9_c2.eq_1) <| an (ro6 c32_r9_c1.eq_1) <| an (ro c32_r9.eq_1) <| ro c32_r10.eq_1
def c32 : CFn := ⟨(.seq (.region c32_r0) (.seq (.seq (.region c32_r1) (.block 0 (.loop c32_l0))) (.seq (.region c32_r5) (.block 2 (.loop c32_l1))))), []⟩
def p32 : Pers := ⟨7, [17, 18, 19, 46, 47, 48, 49], 73, []⟩
def c34_r0 (e : Env) : Reg :=
 .op (.mv (.int .i64 0)) fun t4 =>
 .done (e.upd 4 t4)
def c34_r1 (e : Env) : Reg :=
 .op (.mv (e 0)) fun t5 =>
 .op (.mv (e 0)) fun t6 =>
 .op (.nilCheck t6) fun t7 =>
 .op (.fieldAddr 0 t7) fun t8 =>
 .op (.load none t8) fun t9 =>
 .op (.mv (e 1)) fun t10 =>
 .op (.minmax true [t9, t10, (.int .i64 0)]) fun t11 =>
 .op (.nilCheck t5) fun t12 =>
 .op (.fieldAddr 0 t12) fun t13 =>
 .op (.store 1 t13 t11) fun _ =>
 .done e
def c34_r2 (e : Env) : Reg :=
 .op (.mv (e 0)) fun t14 =>
 .op (.nilCheck t14) fun t15 =>
 .op (.fieldAddr 3 t15) fun t16 =>
 .op (.load none t16) fun t17 =>
 .op (.un .not t17) fun t18 =>
 .done (e.upd 18 t18)
def c34_r3_c1 (e : Env) (t20 : Value) (t24 : Value) (t26 : Value) : Reg :=
 .op (.store 1 t26 t24) fun _ =>
 .op (.nilCheck t20) fun t27 =>
 .op (.fieldAddr 3 t27) fun t28 =>
 .op (.store 1 t28 (.bool true)) fun _ =>
 .done e
def c34_r3 (e : Env) : Reg :=
 .op (.mv (e 0)) fun t19 =>
 .op (.mv (e 0)) fun t20 =>
 .op (.mv (e 0)) fun t21 =>
 .op (.nilCheck t21) fun t22 =>
 .op (.fieldAddr 0 t22) fun t23 =>
 .op (.load none t23) fun t24 =>
 .op (.nilCheck t19) fun t25 =>
 .op (.fieldAddr 1 t25) fun t26 =>
 c34_r3_c1 e t20 t24 t26
def c34_r4 (e : Env) : Reg :=
 .op (.mv (e 0)) fun t29 =>
 .op (.nilCheck t29) fun t30 =>
 .op (.fieldAddr 0 t30) fun t31 =>
 .op (.load none t31) fun t32 =>
 .op (.mv t32) fun t4 =>
 .done (e.upd 4 t4)
def R34 := an (ro c34_r0.eq_1) <| an (ro c34_r1.eq_1) <| an (ro c34_r2.eq_1) <| an (ro3 c34_r3_c1.eq_1) <| an (ro c34_r3.eq_1) <| ro c34_r4.eq_1
def c34 : CFn := ⟨(.seq (.region c34_r0) (.seq (.region c34_r1) (.seq (.seq (.region c34_r2) (.cond (fun e => e 18) (.region c34_r3) .skip)) (.seq (.region c34_r4) .ret)))), [.t 4]⟩
def p34 : Pers := ⟨5, [18], 33, []⟩
def c35_r0 (e : Env) : Reg :=
 .op (.load none (e 0)) fun t1 =>
 .op (.nilCheck t1) fun t2 =>
 .op (.fieldAddr 10 t2) fun t3 =>
 .op (.store 1 t3 (.slice none 0 0)) fun _ =>
 .done e
def R35 := ro c35_r0.eq_1
def c35 : CFn := ⟨(.region c35_r0), []⟩
def p35 : Pers := ⟨0, [0], 4, []⟩
def c36_r0 (e : Env) : Reg :=
 .op (.mv (.bool false)) fun t2 =>
 .done (e.upd 2 t2)
def c36_r1 (e : Env) : Reg :=
 .op (.mv (e 0)) fun t3 =>
 .op (.eqK .ptr false t3 (.pointer none)) fun t4 =>
 .op (.mv t4) fun t5 =>
 .opg t5 false (.mv (e 0)) fun t6 =>
 .opg t5 false (.nilCheck t6) fun t7 =>
 .opg t5 false (.fieldAddr 80 t7) fun t8 =>
 .opg t5 false (.load none t8) fun t9 =>
 .op (.pick t5 (.bool true) t9) fun t10 =>
 .done (e.upd 10 t10)
def c36_r2 (e : Env) : Reg :=
 .op (.mv (.bool false)) fun t2 =>
 .done (e.upd 2 t2)
def c36_r3_c1 (e : Env) (t12 : Value) (t17 : Value) (t18 : Value) : Reg :=
 .op (.fieldAddr 0 t18) fun t19 =>
 .op (.store 78 t19 t17) fun _ =>
 .op (.nilCheck t12) fun t20 =>
 .op (.fieldAddr 80 t20) fun t21 =>
 .op (.store 1 t21 (.bool true)) fun _ =>
 .done e
def c36_r3 (e : Env) : Reg :=
 .op (.mv (e 0)) fun t11 =>
 .op (.mv (e 0)) fun t12 =>
 .op (.mv (e 0)) fun t13 =>
 .op (.nilCheck t13) fun t14 =>
 .op (.fieldAddr 79 t14) fun t15 =>
 .op (.load none t15) fun t16 =>
 .op (.call 51 [t16]) fun t17 =>
 .op (.nilCheck t11) fun t18 =>
 c36_r3_c1 e t12 t17 t18
def c36_r4 (e : Env) : Reg :=
 .op (.mv (e 0)) fun t22 =>
 .op (.nilCheck t22) fun t23 =>
 .op (.fieldAddr 78 t23) fun t24 =>
 .op (.load none t24) fun t25 =>
 .op (.call 61 [t25]) fun t26 =>
 .done e
def c36_r5 (e : Env) : Reg :=
 .op (.mv (.bool true)) fun t2 =>
 .done (e.upd 2 t2)
def R36 := an (ro c36_r0.eq_1) <| an (ro c36_r1.eq_1) <| an (ro c36_r2.eq_1) <| an (ro3 c36_r3_c1.eq_1) <| an (ro c36_r3.eq_1) <| an (ro c36_r4.eq_1) <| ro c36_r5.eq_1
def c36 : CFn := ⟨(.seq (.region c36_r0) (.seq (.seq (.region c36_r1) (.cond (fun e => e 10) (.seq (.region c36_r2) .ret) .skip)) (.seq (.region c36_r3) (.seq (.region c36_r4) (.seq (.region c36_r5) .ret))))), [.t 2]⟩
def p36 : Pers := ⟨3, [10], 27, []⟩
def c38_r0 (e : Env) : Reg :=
 .op (.mv (.bool false)) fun t2 =>
 .done (e.upd 2 t2)
def c38_r1 (e : Env) : Reg :=
 .op (.mv (e 0)) fun t3 =>
 .op (.eqK .ptr true t3 (.pointer none)) fun t4 =>
 .op (.mv t4) fun t5 =>
 .opg t5 true (.mv (e 0)) fun t6 =>
 .opg t5 true (.nilCheck t6) fun t7 =>
 .opg t5 true (.fieldAddr 80 t7) fun t8 =>
 .opg t5 true (.load none t8) fun t9 =>
 .op (.pick t5 t9 (.bool false)) fun t10 =>
 .op (.mv t10) fun t2 =>
 .done (e.upd 2 t2)
def R38 := an (ro c38_r0.eq_1) <| ro c38_r1.eq_1
def c38 : CFn := ⟨(.seq (.region c38_r0) (.seq (.region c38_r1) .ret)), [.t 2]⟩
def p38 : Pers := ⟨3, [], 11, []⟩
def c39_r0 (e : Env) : Reg :=
 .op (.mv (.int .i64 0)) fun t6 =>
 .done (e.upd 6 t6)
def c39_r1 (e : Env) : Reg :=
 .op (.mv (e 0)) fun t14 =>
 .op (.call 38 [t14]) fun t15 =>
 .op (.un .not t15) fun t16 =>
 .done (e.upd 16 t16)
def c39_r2 (e : Env) : Reg :=
 .op (.mv (.int .i64 0)) fun t6 =>
 .done (e.upd 6 t6)
def c39_r3 (e : Env) : Reg :=
 .op (.mv (e 1)) fun t17 =>
 .op (.lenSl t17) fun t18 =>
 .op (.mv (.int .i64 0)) fun t19 =>
 .done (((e.upd 17 t17).upd 18 t18).upd 19 t19)
def c39_r4 (e : Env) : Reg :=
 .op (.bin .lss (e 19) (e 18)) fun t20 =>
 .done (e.upd 20 t20)
def c39_r5 (e : Env) : Reg :=
 .op (.mv (e 19)) fun t21 =>
 .op (.indexSl 1 (e 17) (e 19)) fun t22 =>
 .op (.load none t22) fun t23 =>
 .op (.mv t21) fun t7 =>
 .op (.mv t23) fun t8 =>
 .done ((e.upd 7 t7).upd 8 t8)
def c39_r6 (e : Env) : Reg :=
 .op (.mv (e 0)) fun t24 =>
 .op (.nilCheck t24) fun t25 =>
 .op (.fieldAddr 0 t25) fun t26 =>
 .op (.call 62 [t26]) fun t27 =>
 .op (.bin .neq t27 (.int .i64 0)) fun t28 =>
 .done (e.upd 28 t28)
def c39_r7 (e : Env) : Reg :=
 .op (.mv (e 7)) fun t29 =>
 .op (.mv t29) fun t6 =>
 .done (e.upd 6 t6)
def c39_r8_c1 (e : Env) (t30 : Value) (t36 : Value) (t37 : Value) : Reg :=
 .op (.extract t30 2) fun t38 =>
 .op (.alloc 61 [(.int .i64 0), (.int .i64 0), (.int .u32 0), (.string ⟨#[]⟩), (.int .i64 0)]) fun t9 =>
 .op (.store 5 t9 t36) fun _ =>
 .op (.mv t37) fun t10 =>
 .op (.mv t38) fun t11 =>
 .done (((e.upd 9 t9).upd 10 t10).upd 11 t11)
def c39_r8 (e : Env) : Reg :=
 .op (.mv (e 0)) fun t31 =>
 .op (.nilCheck t31) fun t32 =>
 .op (.fieldAddr 0 t32) fun t33 =>
 .op (.mv (e 8)) fun t34 =>
 .op (.call 52 [t33, t34]) fun t35 =>
 .op (.mv t35) fun t30 =>
 .op (.extract t30 0) fun t36 =>
 .op (.extract t30 1) fun t37 =>
 c39_r8_c1 e t30 t36 t37
def c39_r9 (e : Env) : Reg :=
 .op (.mv (e 11)) fun t40 =>
 .op (.bin .neq t40 (.int .i64 0)) fun t41 =>
 .op (.mv t41) fun t39 =>
 .done (e.upd 39 t39)
def c39_r10 (e : Env) : Reg :=
 .op (.mv (e 0)) fun t42 =>
 .op (.nilCheck t42) fun t43 =>
 .op (.fieldAddr 78 t43) fun t44 =>
 .op (.load none t44) fun t45 =>
 .op (.call 63 [t45]) fun t46 =>
 .op (.bin .lss t46 (.int .i64 6)) fun t47 =>
 .done (e.upd 47 t47)
def c39_r11 (e : Env) : Reg :=
 .op (.mv (e 7)) fun t48 =>
 .op (.mv t48) fun t6 =>
 .done (e.upd 6 t6)
def c39_r12 (e : Env) : Reg :=
 .op (.mv (e 0)) fun t49 =>
 .op (.nilCheck t49) fun t50 =>
 .op (.fieldAddr 78 t50) fun t51 =>
 .op (.load none t51) fun t52 =>
 .op (.mv (e 11)) fun t53 =>
 .snap fun h5 =>
 .op (.call 65 [t53]) fun t54 =>
 .chk none none (.load none t51) t52 <|
 .snap fun h6 =>
 .op (.call 64 [t52, t54]) fun t55 =>
 .done e
def c39_r13 (e : Env) : Reg :=
 .op (.mv (e 10)) fun t57 =>
 .op (.mv t57) fun t56 =>
 .done (e.upd 56 t56)
def c39_r14_c1 (e : Env) (h4 : Heap) (t62 : Value) (t63 : Value) (t64 : Value) : Reg :=
 .chk none (some h4) (.load (some 5) (e 9)) t64 <|
 .snap fun h7 =>
 .op (.callv (methT [(35, 118)] t63) [t64]) fun t65 =>
 .op (.bin .lss t62 t65) fun t66 =>
 .done (e.upd 66 t66)
def c39_r14 (e : Env) : Reg :=
 .op (.mv (e 0)) fun t58 =>
 .op (.nilCheck t58) fun t59 =>
 .op (.fieldAddr 78 t59) fun t60 =>
 .op (.load none t60) fun t61 =>
 .snap fun h4 =>
 .op (.call 63 [t61]) fun t62 =>
 .op (.mv (e 2)) fun t63 =>
 .op (.load (some 5) (e 9)) fun t64 =>
 c39_r14_c1 e h4 t62 t63 t64
def c39_r15 (e : Env) : Reg :=
 .op (.mv (e 7)) fun t67 =>
 .op (.mv t67) fun t6 =>
 .done (e.upd 6 t6)
def c39_r16_c1 (e : Env) (t70 : Value) (t71 : Value) (t74 : Value) : Reg :=
 .chk none none (.load none t70) t71 <|
 .snap fun h7 =>
 .op (.call 64 [t71, t74]) fun t75 =>
 .done e
def c39_r16 (e : Env) : Reg :=
 .op (.mv (e 0)) fun t68 =>
 .op (.nilCheck t68) fun t69 =>
 .op (.fieldAddr 78 t69) fun t70 =>
 .op (.load none t70) fun t71 =>
 .op (.mv (e 2)) fun t72 =>
 .op (.load (some 5) (e 9)) fun t73 =>
 .snap fun h6 =>
 .op (.callv (methT [(35, 117)] t72) [t73]) fun t74 =>
 c39_r16_c1 e t70 t71 t74
def c39_r17 (e : Env) : Reg :=
 .op (.mv (e 2)) fun t77 =>
 .op (.assertI 291 [] .nilIface t77) fun t78 =>
 .op (.mv t78) fun t76 =>
 .op (.extract t76 0) fun t79 =>
 .op (.extract t76 1) fun t80 =>
 .op (.mv t79) fun t12 =>
 .op (.mv t80) fun t13 =>
 .done ((e.upd 12 t12).upd 13 t13)
def c39_r18 (e : Env) : Reg :=
 .op (.mv (e 13)) fun t81 =>
 .done (e.upd 81 t81)
def c39_r19 (e : Env) : Reg :=
 .op (.mv (e 12)) fun t82 =>
 .op (.load (some 5) (e 9)) fun t83 =>
 .op (.callv (methT [] t82) [t83]) fun t84 =>
 .done e
def c39_r20 (e : Env) : Reg :=
 .op (.mv (e 0)) fun t85 =>
 .op (.nilCheck t85) fun t86 =>
 .op (.fieldAddr 0 t86) fun t87 =>
 .op (.mv (e 8)) fun t88 =>
 .op (.call 53 [t87, t88]) fun t89 =>
 .done e
def c39_r21 (e : Env) : Reg :=
 .op (.bin .add (e 19) (.int .i64 1)) fun t90 =>
 .op (.mv t90) fun t19 =>
 .done (e.upd 19 t19)
def c39_l0 : CC := (.seq (.region c39_r4) (.seq (.cond (fun e => e 20) .skip (.exit 0)) (.seq (.block 1 (.seq (.region c39_r5) (.seq (.seq (.region c39_r6) (.cond (fun e => e 28) (.seq (.region c39_r7) .ret) .skip)) (.seq (.region c39_r8) (.seq (.block 2 (.seq (.region c39_r9) (.cond (fun e => e 39) (.seq (.seq (.region c39_r10) (.cond (fun e => e 47) (.seq (.region c39_r11) .ret) .skip)) (.region c39_r12)) (.seq (.region c39_r13) (.cond (fun e => e 56) (.seq (.seq (.region c39_r14) (.cond (fun e => e 66) (.seq (.region c39_r15) .ret) .skip)) (.seq (.region c39_r16) (.seq (.region c39_r17) (.seq (.region c39_r18) (.cond (fun e => e 81) (.region c39_r19) .skip))))) .skip))))) (.region c39_r20)))))) (.region c39_r21))))
def c39_r22 (e : Env) : Reg :=
 .op (.mv (e 1)) fun t91 =>
 .op (.lenSl t91) fun t92 =>
 .op (.mv t92) fun t6 =>
 .done (e.upd 6 t6)
def R39 := an (ro c39_r0.eq_1) <| an (ro c39_r1.eq_1) <| an (ro c39_r2.eq_1) <| an (ro c39_r3.eq_1) <| an (ro c39_r4.eq_1) <| an (ro c39_r5.eq_1) <| an (ro c39_r6.eq_1) <| an (ro c39_r7.eq_1) <| an (ro3 c39_r8_c1.eq_1) <| an (ro c39_r8.eq_1) <| an (ro c39_r9.eq_1) <| an (ro c39_r10.eq_1) <| an (ro c39_r11.eq_1) <| an (ro c39_r12.eq_1) <| an (ro c39_r13.eq_1) <| an (ro4 c39_r14_c1.eq_1) <| an (ro c39_r14.eq_1) <| an (ro c39_r15.eq_1) <| an (ro3 c39_r16_c1.eq_1) <| an (ro c39_r16.eq_1) <| an (ro c39_r17.eq_1) <| an (ro c39_r18.eq_1) <| an (ro c39_r19.eq_1) <| an (ro c39_r20.eq_1) <| an (ro c39_r21.eq_1) <| ro c39_r22.eq_1
def c39 : CFn := ⟨(.seq (.region c39_r0) (.seq (.seq (.region c39_r1) (.cond (fun e => e 16) (.seq (.region c39_r2) .ret) .skip)) (.seq (.seq (.region c39_r3) (.block 0 (.loop c39_l0))) (.seq (.region c39_r22) .ret)))), [.t 6]⟩
def p39 : Pers := ⟨14, [16, 17, 18, 19, 20, 28, 39, 47, 56, 66, 81], 93, []⟩
def c40_r0 (e : Env) : Reg :=
 .op (.mv (.slice none 0 0)) fun t4 =>
 .done (e.upd 4 t4)
def c40_r1 (e : Env) : Reg :=
 .op (.mv (e 0)) fun t5 =>
 .op (.call 38 [t5]) fun t6 =>
 .op (.un .not t6) fun t7 =>
 .done (e.upd 7 t7)
def c40_r2 (e : Env) : Reg :=
 .op (.mv (.slice none 0 0)) fun t4 =>
 .done (e.upd 4 t4)
def c40_r3 (e : Env) : Reg :=
 .op (.mv (e 0)) fun t8 =>
 .op (.nilCheck t8) fun t9 =>
 .op (.fieldAddr 78 t9) fun t10 =>
 .op (.load none t10) fun t11 =>
 .op (.mv (e 1)) fun t12 =>
 .op (.call 66 [t11, t12]) fun t13 =>
 .op (.mv t13) fun t4 =>
 .done (e.upd 4 t4)
def R40 := an (ro c40_r0.eq_1) <| an (ro c40_r1.eq_1) <| an (ro c40_r2.eq_1) <| ro c40_r3.eq_1
def c40 : CFn := ⟨(.seq (.region c40_r0) (.seq (.seq (.region c40_r1) (.cond (fun e => e 7) (.seq (.region c40_r2) .ret) .skip)) (.seq (.region c40_r3) .ret))), [.t 4]⟩
def p40 : Pers := ⟨5, [7], 14, []⟩
def c44_r0 (e : Env) : Reg :=
 .op (.mv (.slice none 0 0)) fun t6 =>
 .done (e.upd 6 t6)
def c44_r1 (e : Env) : Reg :=
 .op (.mv (e 1)) fun t8 =>
 .op (.bin .sub t8 (.int .i64 1)) fun t9 =>
 .op (.mv t9) fun t7 =>
 .done (e.upd 7 t7)
def c44_r2 (e : Env) : Reg :=
 .op (.mv (e 7)) fun t10 =>
 .op (.bin .geq t10 (.int .i64 0)) fun t11 =>
 .done (e.upd 11 t11)
def c44_r4 (e : Env) : Reg :=
 .op (.mv (e 0)) fun t14 =>
 .op (.mv (e 2)) fun t15 =>
 .op (.mv (e 7)) fun t16 =>
 .op (.bin .mul (.int .i64 8) t16) fun t17 =>
 .op (.bin .shr t15 t17) fun t18 =>
 .op (.conv .u8 t18) fun t19 =>
 .op (.buildSlice 5 1 [(.int .u8 0)] [(0, 1, t19)]) fun t20 =>
 .op (.append 5 1 1 t14 t20) fun t21 =>
 .op (.mv t21) fun t0 =>
 .done (e.upd 0 t0)
def c44_r3 (e : Env) : Reg :=
 .op (.mv (e 7)) fun t12 =>
 .op (.bin .sub t12 (.int .i64 1)) fun t13 =>
 .op (.mv t13) fun t7 =>
 .done (e.upd 7 t7)
def c44_l0 : CC := (.seq (.seq (.region c44_r2) (.cond (fun e => e 11) .skip (.exit 0))) (.seq (.block 1 (.region c44_r4)) (.region c44_r3)))
def c44_r5 (e : Env) : Reg :=
 .op (.mv (e 0)) fun t22 =>
 .op (.mv t22) fun t6 =>
 .done (e.upd 6 t6)
def R44 := an (ro c44_r0.eq_1) <| an (ro c44_r1.eq_1) <| an (ro c44_r2.eq_1) <| an (ro c44_r4.eq_1) <| an (ro c44_r3.eq_1) <| ro c44_r5.eq_1
def c44 : CFn := ⟨(.seq (.region c44_r0) (.seq (.seq (.region c44_r1) (.block 0 (.loop c44_l0))) (.seq (.region c44_r5) .ret))), [.t 6]⟩
def p44 : Pers := ⟨8, [11], 23, []⟩
def c45_r0 (e : Env) : Reg :=
 .op (.mv (.slice none 0 0)) fun t4 =>
 .done (e.upd 4 t4)
def c45_r1_c1 (e : Env) (t5 : Value) (t9 : Value) (t12 : Value) : Reg :=
 .op (.buildSlice 5 4 [(.int .u8 0)] [(0, 1, t5), (1, 1, (.int .u8 1)), (2, 1, t9), (3, 1, t12)]) fun t13 =>
 .op (.mv (e 1)) fun t14 =>
 .op (.append 5 1 1 t13 t14) fun t15 =>
 .op (.mv t15) fun t4 =>
 .done (e.upd 4 t4)
def c45_r1 (e : Env) : Reg :=
 .op (.mv (e 0)) fun t5 =>
 .op (.mv (e 1)) fun t6 =>
 .op (.lenSl t6) fun t7 =>
 .op (.bin .shr t7 (.int .u64 8)) fun t8 =>
 .op (.conv .u8 t8) fun t9 =>
 .op (.mv (e 1)) fun t10 =>
 .op (.lenSl t10) fun t11 =>
 .op (.conv .u8 t11) fun t12 =>
 c45_r1_c1 e t5 t9 t12
def R45 := an (ro c45_r0.eq_1) <| an (ro3 c45_r1_c1.eq_1) <| ro c45_r1.eq_1
def c45 : CFn := ⟨(.seq (.region c45_r0) (.seq (.region c45_r1) .ret)), [.t 4]⟩
def p45 : Pers := ⟨5, [], 16, []⟩
def c46_r0 (e : Env) : Reg :=
 .op (.mv (.int .u64 0)) fun t2 =>
 .done (e.upd 2 t2)
def c46_r1 (e : Env) : Reg :=
 .op (.mv (.int .u64 0)) fun t3 =>
 .done (e.upd 3 t3)
def c46_r2 (e : Env) : Reg :=
 .op (.mv (e 0)) fun t6 =>
 .op (.lenSl t6) fun t7 =>
 .op (.mv (.int .i64 0)) fun t8 =>
 .done (((e.upd 6 t6).upd 7 t7).upd 8 t8)
def c46_r3 (e : Env) : Reg :=
 .op (.bin .lss (e 8) (e 7)) fun t9 =>
 .done (e.upd 9 t9)
def c46_r4 (e : Env) : Reg :=
 .op (.indexSl 1 (e 6) (e 8)) fun t10 =>
 .op (.load none t10) fun t11 =>
 .op (.mv t11) fun t5 =>
 .done (e.upd 5 t5)
def c46_r5 (e : Env) : Reg :=
 .op (.mv (e 3)) fun t12 =>
 .op (.bin .shl t12 (.int .u64 8)) fun t13 =>
 .op (.mv (e 5)) fun t14 =>
 .op (.conv .u64 t14) fun t15 =>
 .op (.bin .or t13 t15) fun t16 =>
 .op (.mv t16) fun t3 =>
 .done (e.upd 3 t3)
def c46_r6 (e : Env) : Reg :=
 .op (.bin .add (e 8) (.int .i64 1)) fun t17 =>
 .op (.mv t17) fun t8 =>
 .done (e.upd 8 t8)
def c46_l0 : CC := (.seq (.region c46_r3) (.seq (.cond (fun e => e 9) .skip (.exit 0)) (.seq (.block 1 (.seq (.region c46_r4) (.region c46_r5))) (.region c46_r6))))
def c46_r7 (e : Env) : Reg :=
 .op (.mv (e 3)) fun t18 =>
 .op (.mv t18) fun t2 =>
 .done (e.upd 2 t2)
def R46 := an (ro c46_r0.eq_1) <| an (ro c46_r1.eq_1) <| an (ro c46_r2.eq_1) <| an (ro c46_r3.eq_1) <| an (ro c46_r4.eq_1) <| an (ro c46_r5.eq_1) <| an (ro c46_r6.eq_1) <| ro c46_r7.eq_1
def c46 : CFn := ⟨(.seq (.region c46_r0) (.seq (.region c46_r1) (.seq (.seq (.region c46_r2) (.block 0 (.loop c46_l0))) (.seq (.region c46_r7) .ret)))), [.t 2]⟩
def p46 : Pers := ⟨6, [6, 7, 8, 9], 19, []⟩
def c47_r0 (e : Env) : Reg :=
 .op (.box 39 (e 1)) fun t3 =>
 .op (.mv (.bool false)) fun t4 =>
 .done ((e.upd 3 t3).upd 4 t4)
def c47_r2_c3 (e : Env) (t30 : Value) : Reg :=
 .opg t30 true (.load none (e 3)) fun t31 =>
 .opg t30 true (.indexSl 1 t31 (.int .i64 0)) fun t32 =>
 .opg t30 true (.load none t32) fun t33 =>
 .opg t30 true (.bin .leq t33 (.int .u8 3)) fun t34 =>
 .op (.pick t30 t34 (.bool false)) fun t35 =>
 .op (.mv t35) fun t6 =>
 .done (e.upd 6 t6)
def c47_r2_c2 (e : Env) (t19 : Value) (t22 : Value) : Reg :=
 .op (.pick t19 t22 (.bool false)) fun t23 =>
 .op (.mv t23) fun t24 =>
 .opg t24 true (.load none (e 3)) fun t25 =>
 .opg t24 true (.indexSl 1 t25 (.int .i64 0)) fun t26 =>
 .opg t24 true (.load none t26) fun t27 =>
 .opg t24 true (.bin .geq t27 (.int .u8 1)) fun t28 =>
 .op (.pick t24 t28 (.bool false)) fun t29 =>
 .op (.mv t29) fun t30 =>
 c47_r2_c3 e t30
def c47_r2_c1 (e : Env) (t12 : Value) (t14 : Value) : Reg :=
 .opg t12 false (.fieldAddr 0 t14) fun t15 =>
 .opg t12 false (.load none t15) fun t16 =>
 .opg t12 false (.bin .eql t16 (.int .i64 2)) fun t17 =>
 .op (.pick t12 (.bool true) t17) fun t18 =>
 .op (.mv t18) fun t19 =>
 .opg t19 true (.load none (e 3)) fun t20 =>
 .opg t19 true (.lenSl t20) fun t21 =>
 .opg t19 true (.bin .eql t21 (.int .i64 17)) fun t22 =>
 c47_r2_c2 e t19 t22
def c47_r2 (e : Env) : Reg :=
 .op (.mv (e 0)) fun t7 =>
 .op (.nilCheck t7) fun t8 =>
 .op (.fieldAddr 0 t8) fun t9 =>
 .op (.load none t9) fun t10 =>
 .op (.bin .eql t10 (.int .i64 1)) fun t11 =>
 .op (.mv t11) fun t12 =>
 .opg t12 false (.mv (e 0)) fun t13 =>
 .opg t12 false (.nilCheck t13) fun t14 =>
 c47_r2_c1 e t12 t14
def c47_r3_c2 (e : Env) (t36 : Value) (t37 : Value) (t38 : Value) (t39 : Value) (t40 : Value) (t44 : Value) (t46 : Value) : Reg :=
 .snap fun h11 =>
 .op (.call 46 [t46]) fun t47 =>
 .chk none none (.load none t38) t39 <|
 .chk none none (.load none (e 3)) t37 <|
 .op (.conv .i64 t47) fun t48 =>
 .op (.build [(.int .i64 0), (.int .i64 0), (.int .i64 0)] [(0, 1, t40), (1, 1, t44), (2, 1, t48)]) fun t49 =>
 .op (.nilCheck t36) fun t50 =>
 .op (.fieldAddr 2 t50) fun t51 =>
 .snap fun h16 =>
 .op (.store 3 t51 t49) fun _ =>
 .done e
def c47_r3_c1 (e : Env) (t36 : Value) (t37 : Value) (t38 : Value) (t39 : Value) (t40 : Value) (t42 : Value) (h7 : Heap) : Reg :=
 .op (.call 46 [t42]) fun t43 =>
 .chk none none (.load none t38) t39 <|
 .chk none none (.load none (e 3)) t37 <|
 .op (.conv .i64 t43) fun t44 =>
 .op (.load none (e 3)) fun t45 =>
 .chk none (some h7) (.load none (e 3)) t45 <|
 .op (.slice 5 1 t45 (some (.int .i64 9)) none) fun t46 =>
 .chk none (some h7) (.slice 5 1 t45 (some (.int .i64 9)) none) t46 <|
 c47_r3_c2 e t36 t37 t38 t39 t40 t44 t46
def c47_r3 (e : Env) : Reg :=
 .op (.mv (e 0)) fun t36 =>
 .op (.load none (e 3)) fun t37 =>
 .op (.indexSl 1 t37 (.int .i64 0)) fun t38 =>
 .op (.load none t38) fun t39 =>
 .op (.conv .i64 t39) fun t40 =>
 .op (.load none (e 3)) fun t41 =>
 .op (.slice 5 1 t41 (some (.int .i64 1)) (some (.int .i64 9))) fun t42 =>
 .snap fun h7 =>
 c47_r3_c1 e t36 t37 t38 t39 t40 t42 h7
def c47_r4_c1 (e : Env) (t58 : Value) (t60 : Value) : Reg :=
 .opg t58 true (.bin .eql t60 (.int .i64 41)) fun t61 =>
 .op (.pick t58 t61 (.bool false)) fun t62 =>
 .op (.mv t62) fun t52 =>
 .done (e.upd 52 t52)
def c47_r4 (e : Env) : Reg :=
 .op (.mv (e 0)) fun t53 =>
 .op (.nilCheck t53) fun t54 =>
 .op (.fieldAddr 0 t54) fun t55 =>
 .op (.load none t55) fun t56 =>
 .op (.bin .eql t56 (.int .i64 3)) fun t57 =>
 .op (.mv t57) fun t58 =>
 .opg t58 true (.load none (e 3)) fun t59 =>
 .opg t58 true (.lenSl t59) fun t60 =>
 c47_r4_c1 e t58 t60
def c47_r5 (e : Env) : Reg :=
 .op (.mv (e 0)) fun t63 =>
 .op (.load none (e 3)) fun t64 =>
 .op (.indexSl 1 t64 (.int .i64 0)) fun t65 =>
 .op (.load none t65) fun t66 =>
 .op (.conv .i64 t66) fun t67 =>
 .op (.nilCheck t63) fun t68 =>
 .op (.fieldAddr 1 t68) fun t69 =>
 .op (.store 1 t69 t67) fun _ =>
 .done e
def c47_r6 (e : Env) : Reg :=
 .op (.makeFunc 67 [] [(e 3)]) fun t70 =>
 .op (.mv t70) fun t5 =>
 .done (e.upd 5 t5)
def c47_r7_c1 (e : Env) (t71 : Value) (t73 : Value) (t75 : Value) (t77 : Value) (t78 : Value) : Reg :=
 .op (.callv t78 [(.int .i64 3)]) fun t79 =>
 .op (.mv (e 5)) fun t80 =>
 .op (.callv t80 [(.int .i64 4)]) fun t81 =>
 .op (.build [(.int .i64 0), (.int .i64 0), (.int .i64 0), (.int .i64 0), (.int .i64 0)] [(0, 1, t73), (1, 1, t75), (2, 1, t77), (3, 1, t79), (4, 1, t81)]) fun t82 =>
 .op (.nilCheck t71) fun t83 =>
 .op (.fieldAddr 5 t83) fun t84 =>
 .op (.store 5 t84 t82) fun _ =>
 .done e
def c47_r7 (e : Env) : Reg :=
 .op (.mv (e 0)) fun t71 =>
 .op (.mv (e 5)) fun t72 =>
 .op (.callv t72 [(.int .i64 0)]) fun t73 =>
 .op (.mv (e 5)) fun t74 =>
 .op (.callv t74 [(.int .i64 1)]) fun t75 =>
 .op (.mv (e 5)) fun t76 =>
 .op (.callv t76 [(.int .i64 2)]) fun t77 =>
 .op (.mv (e 5)) fun t78 =>
 c47_r7_c1 e t71 t73 t75 t77 t78
def c47_r8_c1 (e : Env) (t91 : Value) (t93 : Value) : Reg :=
 .opg t91 true (.bin .geq t93 (.int .i64 2)) fun t94 =>
 .op (.pick t91 t94 (.bool false)) fun t95 =>
 .op (.mv t95) fun t85 =>
 .done (e.upd 85 t85)
def c47_r8 (e : Env) : Reg :=
 .op (.mv (e 0)) fun t86 =>
 .op (.nilCheck t86) fun t87 =>
 .op (.fieldAddr 0 t87) fun t88 =>
 .op (.load none t88) fun t89 =>
 .op (.bin .eql t89 (.int .i64 4)) fun t90 =>
 .op (.mv t90) fun t91 =>
 .opg t91 true (.load none (e 3)) fun t92 =>
 .opg t91 true (.lenSl t92) fun t93 =>
 c47_r8_c1 e t91 t93
def c47_r9 (e : Env) : Reg :=
 .op (.mv (e 0)) fun t96 =>
 .op (.load none (e 3)) fun t97 =>
 .op (.indexSl 1 t97 (.int .i64 0)) fun t98 =>
 .op (.load none t98) fun t99 =>
 .op (.conv .i64 t99) fun t100 =>
 .op (.nilCheck t96) fun t101 =>
 .op (.fieldAddr 1 t101) fun t102 =>
 .op (.store 1 t102 t100) fun _ =>
 .done e
def c47_r10 (e : Env) : Reg :=
 .op (.mv (e 0)) fun t103 =>
 .op (.load none (e 3)) fun t104 =>
 .op (.slice 5 1 t104 (some (.int .i64 2)) none) fun t105 =>
 .op (.load none (e 3)) fun t106 =>
 .op (.indexSl 1 t106 (.int .i64 1)) fun t107 =>
 .op (.load none t107) fun t108 =>
 .op (.conv .i64 t108) fun t109 =>
 .snap fun h7 =>
 .op (.call 68 [t103, t105, t109]) fun t110 =>
 .op (.mv t110) fun t4 =>
 .done (e.upd 4 t4)
def c47_r11_c1 (e : Env) (t117 : Value) (t119 : Value) : Reg :=
 .opg t117 true (.bin .eql t119 (.int .i64 1)) fun t120 =>
 .op (.pick t117 t120 (.bool false)) fun t121 =>
 .op (.mv t121) fun t122 =>
 .opg t122 true (.load none (e 3)) fun t123 =>
 .opg t122 true (.indexSl 1 t123 (.int .i64 0)) fun t124 =>
 .opg t122 true (.load none t124) fun t125 =>
 .opg t122 true (.bin .gtr t125 (.int .u8 0)) fun t126 =>
 .op (.pick t122 t126 (.bool false)) fun t127 =>
 .op (.mv t127) fun t111 =>
 .done (e.upd 111 t111)
def c47_r11 (e : Env) : Reg :=
 .op (.mv (e 0)) fun t112 =>
 .op (.nilCheck t112) fun t113 =>
 .op (.fieldAddr 0 t113) fun t114 =>
 .op (.load none t114) fun t115 =>
 .op (.bin .eql t115 (.int .i64 127)) fun t116 =>
 .op (.mv t116) fun t117 =>
 .opg t117 true (.load none (e 3)) fun t118 =>
 .opg t117 true (.lenSl t118) fun t119 =>
 c47_r11_c1 e t117 t119
def c47_r12 (e : Env) : Reg :=
 .op (.mv (e 0)) fun t128 =>
 .op (.load none (e 3)) fun t129 =>
 .op (.indexSl 1 t129 (.int .i64 0)) fun t130 =>
 .op (.load none t130) fun t131 =>
 .op (.conv .i64 t131) fun t132 =>
 .op (.nilCheck t128) fun t133 =>
 .op (.fieldAddr 11 t133) fun t134 =>
 .op (.store 1 t134 t132) fun _ =>
 .done e
def c47_r1 (e : Env) : Reg :=
 .op (.mv (.bool false)) fun t4 =>
 .done (e.upd 4 t4)
def c47_r13 (e : Env) : Reg :=
 .op (.mv (.bool true)) fun t4 =>
 .done (e.upd 4 t4)
def R47 := an (ro c47_r0.eq_1) <| an (ro1 c47_r2_c3.eq_1) <| an (ro2 c47_r2_c2.eq_1) <| an (ro2 c47_r2_c1.eq_1) <| an (ro c47_r2.eq_1) <| an (ro7 c47_r3_c2.eq_1) <| an (ro7 c47_r3_c1.eq_1) <| an (ro c47_r3.eq_1) <| an (ro2 c47_r4_c1.eq_1) <| an (ro c47_r4.eq_1) <| an (ro c47_r5.eq_1) <| an (ro c47_r6.eq_1) <| an (ro5 c47_r7_c1.eq_1) <| an (ro c47_r7.eq_1) <| an (ro2 c47_r8_c1.eq_1) <| an (ro c47_r8.eq_1) <| an (ro c47_r9.eq_1) <| an (ro c47_r10.eq_1) <| an (ro2 c47_r11_c1.eq_1) <| an (ro c47_r11.eq_1) <| an (ro c47_r12.eq_1) <| an (ro c47_r1.eq_1) <| ro c47_r13.eq_1
def c47 : CFn := ⟨(.seq (.region c47_r0) (.seq (.block 0 (.seq (.region c47_r2) (.cond (fun e => e 6) (.region c47_r3) (.seq (.region c47_r4) (.cond (fun e => e 52) (.seq (.region c47_r5) (.seq (.region c47_r6) (.region c47_r7))) (.seq (.region c47_r8) (.cond (fun e => e 85) (.seq (.region c47_r9) (.seq (.region c47_r10) .ret)) (.seq (.region c47_r11) (.cond (fun e => e 111) (.region c47_r12) (.seq (.region c47_r1) .ret)))))))))) (.seq (.region c47_r13) .ret))), [.t 4]⟩
def p47 : Pers := ⟨6, [6, 52, 85, 111], 135, []⟩
def c49_r0 (e : Env) : Reg :=
 .op (.mv (.int .i64 0)) fun t2 =>
 .done (e.upd 2 t2)
def c49_r1 (e : Env) : Reg :=
 .op (.mv (e 0)) fun t3 =>
 .op (.eqK .ptr false t3 (.pointer none)) fun t4 =>
 .done (e.upd 4 t4)
def c49_r2 (e : Env) : Reg :=
 .op (.mv (.int .i64 0)) fun t2 =>
 .done (e.upd 2 t2)
def c49_r3 (e : Env) : Reg :=
 .op (.mv (e 0)) fun t5 =>
 .op (.nilCheck t5) fun t6 =>
 .op (.fieldAddr 0 t6) fun t7 =>
 .op (.load none t7) fun t8 =>
 .op (.call 70 [t8]) fun t9 =>
 .op (.mv t9) fun t2 =>
 .done (e.upd 2 t2)
def R49 := an (ro c49_r0.eq_1) <| an (ro c49_r1.eq_1) <| an (ro c49_r2.eq_1) <| ro c49_r3.eq_1
def c49 : CFn := ⟨(.seq (.region c49_r0) (.seq (.seq (.region c49_r1) (.cond (fun e => e 4) (.seq (.region c49_r2) .ret) .skip)) (.seq (.region c49_r3) .ret))), [.t 2]⟩
def p49 : Pers := ⟨3, [4], 10, []⟩
def c50_r0 (e : Env) : Reg :=
 .op (.mv (.int .i64 0)) fun t2 =>
 .done (e.upd 2 t2)
def c50_r1 (e : Env) : Reg :=
 .op (.mv (e 0)) fun t3 =>
 .op (.eqK .ptr false t3 (.pointer none)) fun t4 =>
 .done (e.upd 4 t4)
def c50_r2 (e : Env) : Reg :=
 .op (.mv (.int .i64 0)) fun t2 =>
 .done (e.upd 2 t2)
def c50_r3 (e : Env) : Reg :=
 .op (.mv (e 0)) fun t5 =>
 .op (.nilCheck t5) fun t6 =>
 .op (.fieldAddr 6 t6) fun t7 =>
 .op (.load none t7) fun t8 =>
 .op (.mv t8) fun t2 =>
 .done (e.upd 2 t2)
def R50 := an (ro c50_r0.eq_1) <| an (ro c50_r1.eq_1) <| an (ro c50_r2.eq_1) <| ro c50_r3.eq_1
def c50 : CFn := ⟨(.seq (.region c50_r0) (.seq (.seq (.region c50_r1) (.cond (fun e => e 4) (.seq (.region c50_r2) .ret) .skip)) (.seq (.region c50_r3) .ret))), [.t 2]⟩
def p50 : Pers := ⟨3, [4], 9, []⟩
def c51_r0 (e : Env) : Reg :=
 .op (.alloc 135 [(.int .u8 0), (.int .u8 0), (.int .u8 0), (.int .u8 0), (.int .u8 0), (.int .u8 0), (.int .u8 0), (.int .u8 0), (.int .u8 0), (.int .u8 0), (.int .u8 0), (.int .u8 0), (.int .u8 0), (.int .u8 0), (.int .u8 0), (.int .u8 0), (.int .u8 0), (.int .u8 0), (.int .u8 0), (.int .u8 0), (.int .u8 0), (.int .u8 0), (.int .u8 0), (.int .u8 0), (.int .u8 0), (.int .u8 0), (.int .u8 0), (.int .u8 0), (.int .u8 0), (.int .u8 0), (.int .u8 0), (.int .u8 0), (.int .u8 0), (.int .u8 0), (.int .u8 0), (.int .u8 0), (.int .u8 0), (.int .u8 0), (.int .u8 0), (.int .u8 0), (.int .u8 0), (.int .u8 0), (.int .u8 0), (.int .u8 0), (.int .u8 0), (.int .u8 0), (.int .u8 0), (.int .u8 0), (.int .u8 0), (.int .u8 0), (.int .u8 0), (.int .u8 0), (.int .u8 0), (.int .u8 0), (.int .u8 0), (.int .u8 0), (.int .u8 0), (.int .u8 0), (.int .u8 0), (.int .u8 0), (.int .u8 0), (.int .u8 0), (.int .u8 0), (.int .u8 0), (.int .u8 0), (.int .u8 0), (.int .u8 0), (.int .u8 0), (.int .u8 0), (.int .u8 0), (.int .u8 0), (.int .u8 0), (.int .u8 0), (.int .u8 0), (.int .u8 0), (.int .i64 0), (.int .i64 0), (.int .i64 0)]) fun t2 =>
 .done (e.upd 2 t2)
def c51_r1 (e : Env) : Reg :=
 .op (.mv (e 0)) fun t3 =>
 .op (.build [(.int .u8 0), (.int .u8 0), (.int .u8 0), (.int .u8 0), (.int .u8 0), (.int .u8 0), (.int .u8 0), (.int .u8 0), (.int .u8 0), (.int .u8 0), (.int .u8 0), (.int .u8 0), (.int .u8 0), (.int .u8 0), (.int .u8 0), (.int .u8 0), (.int .u8 0), (.int .u8 0), (.int .u8 0), (.int .u8 0), (.int .u8 0), (.int .u8 0), (.int .u8 0), (.int .u8 0), (.int .u8 0), (.int .u8 0), (.int .u8 0), (.int .u8 0), (.int .u8 0), (.int .u8 0), (.int .u8 0), (.int .u8 0), (.int .u8 0), (.int .u8 0), (.int .u8 0), (.int .u8 0), (.int .u8 0), (.int .u8 0), (.int .u8 0), (.int .u8 0), (.int .u8 0), (.int .u8 0), (.int .u8 0), (.int .u8 0), (.int .u8 0), (.int .u8 0), (.int .u8 0), (.int .u8 0), (.int .u8 0), (.int .u8 0), (.int .u8 0), (.int .u8 0), (.int .u8 0), (.int .u8 0), (.int .u8 0), (.int .u8 0), (.int .u8 0), (.int .u8 0), (.int .u8 0), (.int .u8 0), (.int .u8 0), (.int .u8 0), (.int .u8 0), (.int .u8 0), (.int .u8 0), (.int .u8 0), (.int .u8 0), (.int .u8 0), (.int .u8 0), (.int .u8 0), (.int .u8 0), (.int .u8 0), (.int .u8 0), (.int .u8 0), (.int .u8 0), (.int .i64 0), (.int .i64 0), (.int .i64 0)] [(76, 1, t3)]) fun t4 =>
 .op (.store 78 (e 2) t4) fun _ =>
 .done e
def R51 := an (ro c51_r0.eq_1) <| ro c51_r1.eq_1
def c51 : CFn := ⟨(.seq (.region c51_r0) (.seq (.region c51_r1) .ret)), [.c 2 (some 78)]⟩
def p51 : Pers := ⟨3, [], 5, []⟩
def c52_r0 (e : Env) : Reg :=
 .op (.alloc 61 [(.int .i64 0), (.int .i64 0), (.int .u32 0), (.string ⟨#[]⟩), (.int .i64 0)]) fun t4 =>
 .op (.mv (.bool false)) fun t5 =>
 .op (.mv (.int .i64 0)) fun t6 =>
 .done (((e.upd 4 t4).upd 5 t5).upd 6 t6)
def c52_r1 (e : Env) : Reg :=
 .op (.mv (e 0)) fun t11 =>
 .op (.nilCheck t11) fun t12 =>
 .op (.fieldAddr 77 t12) fun t13 =>
 .op (.load none t13) fun t14 =>
 .op (.bin .neq t14 (.int .i64 0)) fun t15 =>
 .done (e.upd 15 t15)
def c52_r2 (e : Env) : Reg :=
 .op (.build [(.int .i64 0), (.int .i64 0), (.int .u32 0), (.string ⟨#[]⟩), (.int .i64 0)] []) fun t16 =>
 .op (.mv (e 0)) fun t17 =>
 .op (.nilCheck t17) fun t18 =>
 .op (.fieldAddr 77 t18) fun t19 =>
 .op (.load none t19) fun t20 =>
 .snap fun h5 =>
 .op (.store 5 (e 4) t16) fun _ =>
 .chk none none (.load none t19) t20 <|
 .op (.mv (.bool false)) fun t5 =>
 .op (.mv t20) fun t6 =>
 .done ((e.upd 5 t5).upd 6 t6)
def c52_r3 (e : Env) : Reg :=
 .op (.mv (e 0)) fun t21 =>
 .op (.mv (e 0)) fun t22 =>
 .op (.nilCheck t22) fun t23 =>
 .op (.fieldAddr 75 t23) fun t24 =>
 .op (.load none t24) fun t25 =>
 .op (.nilCheck t21) fun t26 =>
 .op (.fieldAddr 0 t26) fun t27 =>
 .op (.indexArr 75 1 t27 t25) fun t28 =>
 .op (.load none t28) fun t29 =>
 .op (.mv t29) fun t7 =>
 .done (e.upd 7 t7)
def c52_r4_c1 (e : Env) (t34 : Value) (t35 : Value) (t37 : Value) : Reg :=
 .op (.indexArr 75 1 t37 t34) fun t38 =>
 .snap fun h9 =>
 .op (.store 1 t38 t35) fun _ =>
 .done e
def c52_r4 (e : Env) : Reg :=
 .op (.mv (e 0)) fun t30 =>
 .op (.mv (e 0)) fun t31 =>
 .op (.nilCheck t31) fun t32 =>
 .op (.fieldAddr 75 t32) fun t33 =>
 .op (.load none t33) fun t34 =>
 .op (.mv (e 1)) fun t35 =>
 .op (.nilCheck t30) fun t36 =>
 .op (.fieldAddr 0 t36) fun t37 =>
 c52_r4_c1 e t34 t35 t37
def c52_r5_c3 (e : Env) (t59 : Value) (t60 : Value) (t61 : Value) : Reg :=
 .op (.alloc 61 [(.int .i64 0), (.int .i64 0), (.int .u32 0), (.string ⟨#[]⟩), (.int .i64 0)]) fun t8 =>
 .snap fun h24 =>
 .op (.store 5 t8 t59) fun _ =>
 .op (.mv t60) fun t9 =>
 .op (.mv t61) fun t10 =>
 .done (((e.upd 8 t8).upd 9 t9).upd 10 t10)
def c52_r5_c2 (e : Env) (t53 : Value) (t55 : Value) : Reg :=
 .op (.fieldAddr 76 t55) fun t56 =>
 .op (.load none t56) fun t57 =>
 .snap fun h18 =>
 .op (.call 71 [t53, t57]) fun t58 =>
 .op (.mv t58) fun t39 =>
 .op (.extract t39 0) fun t59 =>
 .op (.extract t39 1) fun t60 =>
 .op (.extract t39 2) fun t61 =>
 c52_r5_c3 e t59 t60 t61
def c52_r5_c1 (e : Env) (t42 : Value) (t47 : Value) : Reg :=
 .op (.mv (e 0)) fun t48 =>
 .op (.nilCheck t48) fun t49 =>
 .op (.fieldAddr 75 t49) fun t50 =>
 .op (.load none t50) fun t51 =>
 .op (.bin .add t51 (.int .i64 1)) fun t52 =>
 .op (.sliceArr3 75 1 t42 none (some t47) t52) fun t53 =>
 .op (.mv (e 0)) fun t54 =>
 .op (.nilCheck t54) fun t55 =>
 c52_r5_c2 e t53 t55
def c52_r5 (e : Env) : Reg :=
 .op (.mv (e 0)) fun t40 =>
 .op (.nilCheck t40) fun t41 =>
 .op (.fieldAddr 0 t41) fun t42 =>
 .op (.mv (e 0)) fun t43 =>
 .op (.nilCheck t43) fun t44 =>
 .op (.fieldAddr 75 t44) fun t45 =>
 .op (.load none t45) fun t46 =>
 .op (.bin .add t46 (.int .i64 1)) fun t47 =>
 c52_r5_c1 e t42 t47
def c52_r6_c1 (e : Env) (t66 : Value) (t67 : Value) (t69 : Value) : Reg :=
 .op (.indexArr 75 1 t69 t66) fun t70 =>
 .snap fun h9 =>
 .op (.store 1 t70 t67) fun _ =>
 .done e
def c52_r6 (e : Env) : Reg :=
 .op (.mv (e 0)) fun t62 =>
 .op (.mv (e 0)) fun t63 =>
 .op (.nilCheck t63) fun t64 =>
 .op (.fieldAddr 75 t64) fun t65 =>
 .op (.load none t65) fun t66 =>
 .op (.mv (e 7)) fun t67 =>
 .op (.nilCheck t62) fun t68 =>
 .op (.fieldAddr 0 t68) fun t69 =>
 c52_r6_c1 e t66 t67 t69
def c52_r7 (e : Env) : Reg :=
 .op (.load (some 5) (e 8)) fun t71 =>
 .op (.mv (e 9)) fun t72 =>
 .op (.bin .gtr t72 (.int .i64 0)) fun t73 =>
 .op (.mv (e 10)) fun t74 =>
 .op (.store 5 (e 4) t71) fun _ =>
 .op (.mv t73) fun t5 =>
 .op (.mv t74) fun t6 =>
 .done ((e.upd 5 t5).upd 6 t6)
def R52 := an (ro c52_r0.eq_1) <| an (ro c52_r1.eq_1) <| an (ro c52_r2.eq_1) <| an (ro c52_r3.eq_1) <| an (ro3 c52_r4_c1.eq_1) <| an (ro c52_r4.eq_1) <| an (ro3 c52_r5_c3.eq_1) <| an (ro2 c52_r5_c2.eq_1) <| an (ro2 c52_r5_c1.eq_1) <| an (ro c52_r5.eq_1) <| an (ro3 c52_r6_c1.eq_1) <| an (ro c52_r6.eq_1) <| ro c52_r7.eq_1
def c52 : CFn := ⟨(.seq (.region c52_r0) (.seq (.seq (.region c52_r1) (.cond (fun e => e 15) (.seq (.region c52_r2) .ret) .skip)) (.seq (.region c52_r3) (.seq (.region c52_r4) (.seq (.region c52_r5) (.seq (.region c52_r6) (.seq (.region c52_r7) .ret))))))), [.c 4 (some 5), .t 5, .t 6]⟩
def p52 : Pers := ⟨11, [15], 75, []⟩
def c53_r0 (e : Env) : Reg :=
 .op (.alloc 61 [(.int .i64 0), (.int .i64 0), (.int .u32 0), (.string ⟨#[]⟩), (.int .i64 0)]) fun t4 =>
 .op (.mv (.bool false)) fun t5 =>
 .op (.mv (.int .i64 0)) fun t6 =>
 .done (((e.upd 4 t4).upd 5 t5).upd 6 t6)
def c53_r1_c1 (e : Env) (t14 : Value) (t15 : Value) (t16 : Value) (t7 : Value) : Reg :=
 .op (.store 5 t7 t14) fun _ =>
 .op (.mv t15) fun t8 =>
 .op (.mv t16) fun t9 =>
 .done (((e.upd 7 t7).upd 8 t8).upd 9 t9)
def c53_r1 (e : Env) : Reg :=
 .op (.mv (e 0)) fun t11 =>
 .op (.mv (e 1)) fun t12 =>
 .op (.call 52 [t11, t12]) fun t13 =>
 .op (.mv t13) fun t10 =>
 .op (.extract t10 0) fun t14 =>
 .op (.extract t10 1) fun t15 =>
 .op (.extract t10 2) fun t16 =>
 .op (.alloc 61 [(.int .i64 0), (.int .i64 0), (.int .u32 0), (.string ⟨#[]⟩), (.int .i64 0)]) fun t7 =>
 c53_r1_c1 e t14 t15 t16 t7
def c53_r4 (e : Env) : Reg :=
 .op (.mv (e 9)) fun t34 =>
 .op (.bin .neq t34 (.int .i64 0)) fun t35 =>
 .op (.mv t35) fun t33 =>
 .done (e.upd 33 t33)
def c53_r5 (e : Env) : Reg :=
 .op (.mv (e 0)) fun t36 =>
 .op (.mv (e 0)) fun t37 =>
 .op (.mv (e 9)) fun t38 =>
 .op (.nilCheck t36) fun t39 =>
 .op (.fieldAddr 77 t39) fun t40 =>
 .op (.store 1 t40 t38) fun _ =>
 .op (.nilCheck t37) fun t41 =>
 .op (.fieldAddr 75 t41) fun t42 =>
 .op (.store 1 t42 (.int .i64 0)) fun _ =>
 .done e
def c53_r6 (e : Env) : Reg :=
 .op (.mv (e 8)) fun t44 =>
 .op (.mv t44) fun t43 =>
 .done (e.upd 43 t43)
def c53_r7 (e : Env) : Reg :=
 .op (.mv (e 0)) fun t45 =>
 .op (.nilCheck t45) fun t46 =>
 .op (.fieldAddr 75 t46) fun t47 =>
 .op (.store 1 t47 (.int .i64 0)) fun _ =>
 .done e
def c53_r2_c1 (e : Env) (t21 : Value) (t22 : Value) (t24 : Value) : Reg :=
 .op (.indexArr 75 1 t24 t21) fun t25 =>
 .snap fun h9 =>
 .op (.store 1 t25 t22) fun _ =>
 .done e
def c53_r2 (e : Env) : Reg :=
 .op (.mv (e 0)) fun t17 =>
 .op (.mv (e 0)) fun t18 =>
 .op (.nilCheck t18) fun t19 =>
 .op (.fieldAddr 75 t19) fun t20 =>
 .op (.load none t20) fun t21 =>
 .op (.mv (e 1)) fun t22 =>
 .op (.nilCheck t17) fun t23 =>
 .op (.fieldAddr 0 t23) fun t24 =>
 c53_r2_c1 e t21 t22 t24
def c53_r3 (e : Env) : Reg :=
 .op (.mv (e 0)) fun t26 =>
 .op (.nilCheck t26) fun t27 =>
 .op (.fieldAddr 75 t27) fun t28 =>
 .op (.load none t28) fun t29 =>
 .op (.bin .add t29 (.int .i64 1)) fun t30 =>
 .op (.nilCheck t26) fun t31 =>
 .op (.fieldAddr 75 t31) fun t32 =>
 .op (.store 1 t32 t30) fun _ =>
 .done e
def c53_r8 (e : Env) : Reg :=
 .op (.load (some 5) (e 7)) fun t48 =>
 .op (.mv (e 8)) fun t49 =>
 .op (.mv (e 9)) fun t50 =>
 .op (.store 5 (e 4) t48) fun _ =>
 .op (.mv t49) fun t5 =>
 .op (.mv t50) fun t6 =>
 .done ((e.upd 5 t5).upd 6 t6)
def R53 := an (ro c53_r0.eq_1) <| an (ro4 c53_r1_c1.eq_1) <| an (ro c53_r1.eq_1) <| an (ro c53_r4.eq_1) <| an (ro c53_r5.eq_1) <| an (ro c53_r6.eq_1) <| an (ro c53_r7.eq_1) <| an (ro3 c53_r2_c1.eq_1) <| an (ro c53_r2.eq_1) <| an (ro c53_r3.eq_1) <| ro c53_r8.eq_1
def c53 : CFn := ⟨(.seq (.region c53_r0) (.seq (.region c53_r1) (.seq (.block 0 (.seq (.region c53_r4) (.cond (fun e => e 33) (.region c53_r5) (.seq (.region c53_r6) (.cond (fun e => e 43) (.region c53_r7) (.seq (.region c53_r2) (.region c53_r3))))))) (.seq (.region c53_r8) .ret)))), [.c 4 (some 5), .t 5, .t 6]⟩
def p53 : Pers := ⟨10, [33, 43], 51, []⟩
def c54_r0 (e : Env) : Reg :=
 .op (.mv (.bool false)) fun t4 =>
 .done (e.upd 4 t4)
def c54_r1 (e : Env) : Reg :=
 .op (.mv (e 0)) fun t5 =>
 .op (.bin .geq t5 (.int .i64 1)) fun t6 =>
 .op (.mv t6) fun t7 =>
 .opg t7 true (.mv (e 0)) fun t8 =>
 .opg t7 true (.mv (e 1)) fun t9 =>
 .opg t7 true (.bin .leq t8 t9) fun t10 =>
 .op (.pick t7 t10 (.bool false)) fun t11 =>
 .op (.mv t11) fun t4 =>
 .done (e.upd 4 t4)
def R54 := an (ro c54_r0.eq_1) <| ro c54_r1.eq_1
def c54 : CFn := ⟨(.seq (.region c54_r0) (.seq (.region c54_r1) .ret)), [.t 4]⟩
def p54 : Pers := ⟨5, [], 12, []⟩
def c55_r0 (e : Env) : Reg :=
 .op (.box 34 (e 0)) fun t1 =>
 .op (.mv (.bool false)) fun t2 =>
 .done ((e.upd 1 t1).upd 2 t2)
def c55_r1 (e : Env) : Reg :=
 .op (.load (some 9) (e 1)) fun t5 =>
 .op (.build [(.int .i64 0), (.int .i64 0), (.int .i64 0), (.int .i64 0), (.int .i64 0), (.int .i64 0), (.int .i64 0), (.int .i64 0), (.bool false)] []) fun t6 =>
 .op (.eqAgg false [.int, .int, .int, .int, .int, .int, .int, .int, .bool] t5 t6) fun t7 =>
 .done (e.upd 7 t7)
def c55_r2 (e : Env) : Reg :=
 .op (.mv (.bool false)) fun t2 =>
 .done (e.upd 2 t2)
def c55_r3_c3 (e : Env) (t31 : Value) : Reg :=
 .op (.mv t31) fun t32 =>
 .opg t32 false (.fieldAddr 1 (e 1)) fun t33 =>
 .opg t32 false (.load none t33) fun t34 =>
 .opg t32 false (.fieldAddr 3 (e 1)) fun t35 =>
 .opg t32 false (.load none t35) fun t36 =>
 .opg t32 false (.bin .rem t34 t36) fun t37 =>
 .opg t32 false (.bin .neq t37 (.int .i64 0)) fun t38 =>
 .op (.pick t32 (.bool true) t38) fun t39 =>
 .done (e.upd 39 t39)
def c55_r3_c2 (e : Env) (t18 : Value) (t23 : Value) : Reg :=
 .opg t18 false (.un .not t23) fun t24 =>
 .op (.pick t18 (.bool true) t24) fun t25 =>
 .op (.mv t25) fun t26 =>
 .opg t26 false (.fieldAddr 3 (e 1)) fun t27 =>
 .opg t26 false (.load none t27) fun t28 =>
 .opg t26 false (.call 54 [t28, (.int .i64 64)]) fun t29 =>
 .opg t26 false (.un .not t29) fun t30 =>
 .op (.pick t26 (.bool true) t30) fun t31 =>
 c55_r3_c3 e t31
def c55_r3_c1 (e : Env) (t12 : Value) (t15 : Value) : Reg :=
 .opg t12 false (.un .not t15) fun t16 =>
 .op (.pick t12 (.bool true) t16) fun t17 =>
 .op (.mv t17) fun t18 =>
 .opg t18 false (.fieldAddr 2 (e 1)) fun t19 =>
 .opg t18 false (.load none t19) fun t20 =>
 .opg t18 false (.fieldAddr 0 (e 1)) fun t21 =>
 .opg t18 false (.load none t21) fun t22 =>
 .opg t18 false (.call 54 [t20, t22]) fun t23 =>
 c55_r3_c2 e t18 t23
def c55_r3 (e : Env) : Reg :=
 .op (.fieldAddr 0 (e 1)) fun t8 =>
 .op (.load none t8) fun t9 =>
 .op (.call 54 [t9, (.int .i64 2147483648)]) fun t10 =>
 .op (.un .not t10) fun t11 =>
 .op (.mv t11) fun t12 =>
 .opg t12 false (.fieldAddr 1 (e 1)) fun t13 =>
 .opg t12 false (.load none t13) fun t14 =>
 .opg t12 false (.call 54 [t14, (.int .i64 1099511627776)]) fun t15 =>
 c55_r3_c1 e t12 t15
def c55_r4 (e : Env) : Reg :=
 .op (.mv (.bool false)) fun t2 =>
 .done (e.upd 2 t2)
def c55_r5_c3 (e : Env) (t62 : Value) (t63 : Value) : Reg :=
 .opg t62 false (.load none t63) fun t64 =>
 .opg t62 false (.mv t64) fun t65 =>
 .opg t65 true (.fieldAddr 3 (e 1)) fun t66 =>
 .opg t65 true (.load none t66) fun t67 =>
 .opg t65 true (.bin .lss t67 (.int .i64 2)) fun t68 =>
 .opg t62 false (.pick t65 t68 (.bool false)) fun t69 =>
 .op (.pick t62 (.bool true) t69) fun t70 =>
 .done (e.upd 70 t70)
def c55_r5_c2 (e : Env) (t55 : Value) : Reg :=
 .op (.mv t55) fun t56 =>
 .opg t56 false (.fieldAddr 7 (e 1)) fun t57 =>
 .opg t56 false (.load none t57) fun t58 =>
 .opg t56 false (.call 54 [t58, (.int .i64 64)]) fun t59 =>
 .opg t56 false (.un .not t59) fun t60 =>
 .op (.pick t56 (.bool true) t60) fun t61 =>
 .op (.mv t61) fun t62 =>
 .opg t62 false (.fieldAddr 8 (e 1)) fun t63 =>
 c55_r5_c3 e t62 t63
def c55_r5_c1 (e : Env) (t44 : Value) (t47 : Value) : Reg :=
 .opg t44 false (.un .not t47) fun t48 =>
 .op (.pick t44 (.bool true) t48) fun t49 =>
 .op (.mv t49) fun t50 =>
 .opg t50 false (.fieldAddr 6 (e 1)) fun t51 =>
 .opg t50 false (.load none t51) fun t52 =>
 .opg t50 false (.call 54 [t52, (.int .i64 4096)]) fun t53 =>
 .opg t50 false (.un .not t53) fun t54 =>
 .op (.pick t50 (.bool true) t54) fun t55 =>
 c55_r5_c2 e t55
def c55_r5 (e : Env) : Reg :=
 .op (.fieldAddr 4 (e 1)) fun t40 =>
 .op (.load none t40) fun t41 =>
 .op (.call 54 [t41, (.int .i64 1024)]) fun t42 =>
 .op (.un .not t42) fun t43 =>
 .op (.mv t43) fun t44 =>
 .opg t44 false (.fieldAddr 5 (e 1)) fun t45 =>
 .opg t44 false (.load none t45) fun t46 =>
 .opg t44 false (.call 54 [t46, (.int .i64 8)]) fun t47 =>
 c55_r5_c1 e t44 t47
def c55_r6 (e : Env) : Reg :=
 .op (.mv (.bool false)) fun t2 =>
 .done (e.upd 2 t2)
def c55_r7_c2 (e : Env) (t71 : Value) : Reg :=
 .op (.extract t71 0) fun t84 =>
 .op (.extract t71 1) fun t85 =>
 .op (.mv t84) fun t3 =>
 .op (.mv t85) fun t4 =>
 .done ((e.upd 3 t3).upd 4 t4)
def c55_r7_c1 (e : Env) (t72 : Value) (t73 : Value) (t75 : Value) (t78 : Value) (t79 : Value) : Reg :=
 .op (.load none t79) fun t80 =>
 .op (.bin .sub t78 t80) fun t81 =>
 .snap fun h10 =>
 .op (.call 73 [t75, t81]) fun t82 =>
 .chk none none (.load none t72) t73 <|
 .snap fun h11 =>
 .op (.call 72 [t73, t82]) fun t83 =>
 .op (.mv t83) fun t71 =>
 c55_r7_c2 e t71
def c55_r7 (e : Env) : Reg :=
 .op (.fieldAddr 2 (e 1)) fun t72 =>
 .op (.load none t72) fun t73 =>
 .op (.fieldAddr 1 (e 1)) fun t74 =>
 .op (.load none t74) fun t75 =>
 .op (.fieldAddr 0 (e 1)) fun t76 =>
 .op (.load none t76) fun t77 =>
 .op (.bin .add t77 (.int .i64 1)) fun t78 =>
 .op (.fieldAddr 2 (e 1)) fun t79 =>
 c55_r7_c1 e t72 t73 t75 t78 t79
def c55_r8 (e : Env) : Reg :=
 .op (.mv (e 4)) fun t86 =>
 .op (.mv t86) fun t87 =>
 .opg t87 true (.mv (e 3)) fun t88 =>
 .opg t87 true (.bin .leq t88 (.int .i64 1152921504606846976)) fun t89 =>
 .op (.pick t87 t89 (.bool false)) fun t90 =>
 .op (.mv t90) fun t2 =>
 .done (e.upd 2 t2)
def R55 := an (ro c55_r0.eq_1) <| an (ro c55_r1.eq_1) <| an (ro c55_r2.eq_1) <| an (ro1 c55_r3_c3.eq_1) <| an (ro2 c55_r3_c2.eq_1) <| an (ro2 c55_r3_c1.eq_1) <| an (ro c55_r3.eq_1) <| an (ro c55_r4.eq_1) <| an (ro2 c55_r5_c3.eq_1) <| an (ro1 c55_r5_c2.eq_1) <| an (ro2 c55_r5_c1.eq_1) <| an (ro c55_r5.eq_1) <| an (ro c55_r6.eq_1) <| an (ro1 c55_r7_c2.eq_1) <| an (ro5 c55_r7_c1.eq_1) <| an (ro c55_r7.eq_1) <| ro c55_r8.eq_1
def c55 : CFn := ⟨(.seq (.region c55_r0) (.seq (.seq (.region c55_r1) (.cond (fun e => e 7) (.seq (.region c55_r2) .ret) .skip)) (.seq (.seq (.region c55_r3) (.cond (fun e => e 39) (.seq (.region c55_r4) .ret) .skip)) (.seq (.seq (.region c55_r5) (.cond (fun e => e 70) (.seq (.region c55_r6) .ret) .skip)) (.seq (.region c55_r7) (.seq (.region c55_r8) .ret)))))), [.t 2]⟩
def p55 : Pers := ⟨5, [7, 39, 70], 91, []⟩
def c56_r0 (e : Env) : Reg :=
 .op (.box 30 (e 0)) fun t1 =>
 .op (.mv (.int .i64 0)) fun t2 =>
 .done ((e.upd 1 t1).upd 2 t2)
def c56_r1 (e : Env) : Reg :=
 .op (.mv (.int .i64 6)) fun t3 =>
 .done (e.upd 3 t3)
def c56_r2 (e : Env) : Reg :=
 .op (.fieldAddr 3 (e 1)) fun t8 =>
 .op (.load none t8) fun t9 =>
 .op (.lenSl t9) fun t10 =>
 .op (.mv (.int .i64 0)) fun t11 =>
 .done (((e.upd 9 t9).upd 10 t10).upd 11 t11)
def c56_r3 (e : Env) : Reg :=
 .op (.bin .lss (e 11) (e 10)) fun t12 =>
 .done (e.upd 12 t12)
def c56_r4 (e : Env) : Reg :=
 .op (.indexSl 9 (e 9) (e 11)) fun t13 =>
 .op (.load (some 9) t13) fun t14 =>
 .op (.alloc 34 [(.int .i64 0), (.int .i64 0), (.int .i64 0), (.int .i64 0), (.int .i64 0), (.int .i64 0), (.int .i64 0), (.int .i64 0), (.bool false)]) fun t5 =>
 .op (.store 9 t5 t14) fun _ =>
 .done (e.upd 5 t5)
def c56_r5 (e : Env) : Reg :=
 .op (.build [(.int .i64 0), (.int .i64 0), (.int .i64 0)] [(0, 1, (.int .i64 1)), (1, 1, (.int .i64 3)), (2, 1, (.int .i64 4))]) fun t15 =>
 .op (.mv (.int .i64 0)) fun t16 =>
 .done ((e.upd 15 t15).upd 16 t16)
def c56_r6 (e : Env) : Reg :=
 .op (.bin .lss (e 16) (.int .i64 3)) fun t17 =>
 .done (e.upd 17 t17)
def c56_r7 (e : Env) : Reg :=
 .op (.indexAgg 3 1 none (e 15) (e 16)) fun t18 =>
 .op (.mv t18) fun t7 =>
 .done (e.upd 7 t7)
def c56_r8 (e : Env) : Reg :=
 .op (.mv (e 3)) fun t19 =>
 .op (.mv (e 7)) fun t20 =>
 .op (.fieldAddr 7 (e 5)) fun t21 =>
 .op (.load none t21) fun t22 =>
 .op (.build [(.int .i64 0), (.int .i64 0), (.int .u32 0), (.string ⟨#[]⟩), (.int .i64 0)] [(0, 1, t20), (4, 1, t22)]) fun t23 =>
 .op (.fieldAddr 7 (e 5)) fun t24 =>
 .op (.load none t24) fun t25 =>
 .op (.call 74 [t23, t25]) fun t26 =>
 .op (.minmax true [t19, t26]) fun t27 =>
 .op (.mv t27) fun t3 =>
 .done (e.upd 3 t3)
def c56_r9 (e : Env) : Reg :=
 .op (.bin .add (e 16) (.int .i64 1)) fun t28 =>
 .op (.mv t28) fun t16 =>
 .done (e.upd 16 t16)
def c56_l0 : CC := (.seq (.region c56_r6) (.seq (.cond (fun e => e 17) .skip (.exit 2)) (.seq (.block 3 (.seq (.region c56_r7) (.region c56_r8))) (.region c56_r9))))
def c56_r10 (e : Env) : Reg :=
 .op (.bin .add (e 11) (.int .i64 1)) fun t29 =>
 .op (.mv t29) fun t11 =>
 .done (e.upd 11 t11)
def c56_l1 : CC := (.seq (.region c56_r3) (.seq (.cond (fun e => e 12) .skip (.exit 0)) (.seq (.block 1 (.seq (.region c56_r4) (.seq (.region c56_r5) (.block 2 (.loop c56_l0))))) (.region c56_r10))))
def c56_r11 (e : Env) : Reg :=
 .op (.mv (e 3)) fun t30 =>
 .op (.mv t30) fun t2 =>
 .done (e.upd 2 t2)
def R56 := an (ro c56_r0.eq_1) <| an (ro c56_r1.eq_1) <| an (ro c56_r2.eq_1) <| an (ro c56_r3.eq_1) <| an (ro c56_r4.eq_1) <| an (ro c56_r5.eq_1) <| an (ro c56_r6.eq_1) <| an (ro c56_r7.eq_1) <| an (ro c56_r8.eq_1) <| an (ro c56_r9.eq_1) <| an (ro c56_r10.eq_1) <| ro c56_r11.eq_1
def c56 : CFn := ⟨(.seq (.region c56_r0) (.seq (.region c56_r1) (.seq (.seq (.region c56_r2) (.block 0 (.loop c56_l1))) (.seq (.region c56_r11) .ret)))), [.t 2]⟩
def p56 : Pers := ⟨8, [9, 10, 11, 12, 15, 16, 17], 31, []⟩
def c57_r0 (e : Env) : Reg :=
 .op (.box 30 (e 0)) fun t1 =>
 .op (.mv (.int .i64 0)) fun t2 =>
 .done ((e.upd 1 t1).upd 2 t2)
def c57_r1 (e : Env) : Reg :=
 .op (.fieldAddr 1 (e 1)) fun t6 =>
 .op (.load none t6) fun t7 =>
 .op (.fieldAddr 2 (e 1)) fun t8 =>
 .op (.load none t8) fun t9 =>
 .snap fun h4 =>
 .op (.call 75 [t9]) fun t10 =>
 .chk none none (.load none t6) t7 <|
 .op (.bin .mul t7 t10) fun t11 =>
 .op (.mv t11) fun t3 =>
 .done (e.upd 3 t3)
def c57_r2 (e : Env) : Reg :=
 .op (.fieldAddr 3 (e 1)) fun t12 =>
 .op (.load none t12) fun t13 =>
 .op (.lenSl t13) fun t14 =>
 .op (.mv (.int .i64 0)) fun t15 =>
 .done (((e.upd 13 t13).upd 14 t14).upd 15 t15)
def c57_r3 (e : Env) : Reg :=
 .op (.bin .lss (e 15) (e 14)) fun t16 =>
 .done (e.upd 16 t16)
def c57_r4 (e : Env) : Reg :=
 .op (.indexSl 9 (e 13) (e 15)) fun t17 =>
 .op (.load (some 9) t17) fun t18 =>
 .op (.alloc 34 [(.int .i64 0), (.int .i64 0), (.int .i64 0), (.int .i64 0), (.int .i64 0), (.int .i64 0), (.int .i64 0), (.int .i64 0), (.bool false)]) fun t5 =>
 .op (.store 9 t5 t18) fun _ =>
 .done (e.upd 5 t5)
def c57_r5 (e : Env) : Reg :=
 .op (.mv (e 3)) fun t19 =>
 .op (.load (some 9) (e 5)) fun t20 =>
 .op (.call 76 [t20]) fun t21 =>
 .op (.bin .add t19 t21) fun t22 =>
 .op (.mv t22) fun t3 =>
 .done (e.upd 3 t3)
def c57_r6 (e : Env) : Reg :=
 .op (.bin .add (e 15) (.int .i64 1)) fun t23 =>
 .op (.mv t23) fun t15 =>
 .done (e.upd 15 t15)
def c57_l0 : CC := (.seq (.region c57_r3) (.seq (.cond (fun e => e 16) .skip (.exit 0)) (.seq (.block 1 (.seq (.region c57_r4) (.region c57_r5))) (.region c57_r6))))
def c57_r7 (e : Env) : Reg :=
 .op (.mv (e 3)) fun t24 =>
 .op (.mv t24) fun t2 =>
 .done (e.upd 2 t2)
def R57 := an (ro c57_r0.eq_1) <| an (ro c57_r1.eq_1) <| an (ro c57_r2.eq_1) <| an (ro c57_r3.eq_1) <| an (ro c57_r4.eq_1) <| an (ro c57_r5.eq_1) <| an (ro c57_r6.eq_1) <| ro c57_r7.eq_1
def c57 : CFn := ⟨(.seq (.region c57_r0) (.seq (.region c57_r1) (.seq (.seq (.region c57_r2) (.block 0 (.loop c57_l0))) (.seq (.region c57_r7) .ret)))), [.t 2]⟩
def p57 : Pers := ⟨6, [13, 14, 15, 16], 25, []⟩
def c58_r0 (e : Env) : Reg :=
 .op (.mv (.pointer none)) fun t4 =>
 .done (e.upd 4 t4)
def c58_r1 (e : Env) : Reg :=
 .op (.mv (e 1)) fun t6 =>
 .op (.call 77 [t6]) fun t7 =>
 .op (.mv t7) fun t5 =>
 .done (e.upd 5 t5)
def c58_r2 (e : Env) : Reg :=
 .op (.mv (e 5)) fun t8 =>
 .op (.eqK .ptr false t8 (.pointer none)) fun t9 =>
 .done (e.upd 9 t9)
def c58_r3 (e : Env) : Reg :=
 .op (.mv (.pointer none)) fun t4 =>
 .done (e.upd 4 t4)
def c58_r4 (e : Env) : Reg :=
 .op (.mv (e 5)) fun t10 =>
 .op (.mv (e 0)) fun t11 =>
 .op (.build [(.int .u8 0), (.int .u8 0), (.int .u8 0), (.int .u8 0), (.int .u8 0), (.int .u8 0), (.int .u8 0), (.int .u8 0), (.int .u8 0), (.int .u8 0), (.int .u8 0), (.int .u8 0), (.int .u8 0), (.int .u8 0), (.int .u8 0), (.int .u8 0), (.int .u8 0), (.int .u8 0), (.int .u8 0), (.int .u8 0), (.int .u8 0), (.int .u8 0), (.int .u8 0), (.int .u8 0), (.int .u8 0), (.int .u8 0), (.int .u8 0), (.int .u8 0), (.int .u8 0), (.int .u8 0), (.int .u8 0), (.int .u8 0), (.int .u8 0), (.int .u8 0), (.int .u8 0), (.int .u8 0), (.int .u8 0), (.int .u8 0), (.int .u8 0), (.int .u8 0), (.int .u8 0), (.int .u8 0), (.int .u8 0), (.int .u8 0), (.int .u8 0), (.int .u8 0), (.int .u8 0), (.int .u8 0), (.int .u8 0), (.int .u8 0), (.int .u8 0), (.int .u8 0), (.int .u8 0), (.int .u8 0), (.int .u8 0), (.int .u8 0), (.int .u8 0), (.int .u8 0), (.int .u8 0), (.int .u8 0), (.int .u8 0), (.int .u8 0), (.int .u8 0), (.int .u8 0), (.int .u8 0), (.int .u8 0), (.int .u8 0), (.int .u8 0), (.int .u8 0), (.int .u8 0), (.int .u8 0), (.int .u8 0), (.int .u8 0), (.int .u8 0), (.int .u8 0), (.int .i64 0), (.int .i64 0), (.int .i64 0), (.pointer none), (.int .i64 0), (.bool false)] [(78, 1, t10), (79, 1, t11)]) fun t12 =>
 .op (.box 149 t12) fun t13 =>
 .op (.mv t13) fun t4 =>
 .done (e.upd 4 t4)
def R58 := an (ro c58_r0.eq_1) <| an (ro c58_r1.eq_1) <| an (ro c58_r2.eq_1) <| an (ro c58_r3.eq_1) <| ro c58_r4.eq_1
def c58 : CFn := ⟨(.seq (.region c58_r0) (.seq (.region c58_r1) (.seq (.seq (.region c58_r2) (.cond (fun e => e 9) (.seq (.region c58_r3) .ret) .skip)) (.seq (.region c58_r4) .ret)))), [.t 4]⟩
def p58 : Pers := ⟨6, [9], 14, []⟩
def c59_r0 (e : Env) : Reg :=
 .op (.box 34 (e 0)) fun t2 =>
 .op (.mv (.pointer none)) fun t4 =>
 .done ((e.upd 2 t2).upd 4 t4)
def c59_r1 (e : Env) : Reg :=
 .op (.mv (e 1)) fun t7 =>
 .op (.fieldAddr 5 (e 2)) fun t8 =>
 .op (.load none t8) fun t9 =>
 .op (.bin .add t9 (.int .i64 1)) fun t10 =>
 .op (.call 78 [t7, t10]) fun t11 =>
 .op (.mv t11) fun t5 =>
 .done (e.upd 5 t5)
def c59_r2 (e : Env) : Reg :=
 .op (.mv (e 5)) fun t12 =>
 .op (.mv (e 5)) fun t13 =>
 .op (.lenSl t13) fun t14 =>
 .op (.bin .sub t14 (.int .i64 1)) fun t15 =>
 .op (.indexSl 3 t12 t15) fun t16 =>
 .op (.load (some 3) t16) fun t17 =>
 .op (.alloc 182 [(.int .u64 0), (.int .u64 0), (.int .u64 0)]) fun t6 =>
 .op (.store 3 t6 t17) fun _ =>
 .done (e.upd 6 t6)
def c59_r3_c4 (e : Env) (t18 : Value) (h2 : Heap) (t20 : Value) (h6 : Heap) (t24 : Value) (h12 : Heap) (t30 : Value) (t32 : Value) : Reg :=
 .op (.load (some 3) (e 6)) fun t33 =>
 .chk none (some h12) (.load (some 3) (e 6)) t33 <|
 .chk none (some h6) (.load (some 3) (e 6)) t33 <|
 .chk none (some h2) (.load (some 3) (e 6)) t33 <|
 .snap fun h16 =>
 .op (.call 82 [t32, t33]) fun t34 =>
 .chk none none (.load (some 9) (e 2)) t18 <|
 .op (.build [(.int .i64 0), (.int .i64 0), (.int .i64 0), (.int .i64 0), (.int .i64 0), (.int .i64 0), (.int .i64 0), (.int .i64 0), (.bool false), (.int .i64 0), (.int .i64 0), (.int .i64 0), (.int .i64 0), (.pointer none), (.pointer none), (.pointer none), (.int .i64 0), (.int .i64 0), (.int .i64 0), (.int .i64 0), (.int .i64 0)] [(0, 9, t18), (9, 4, t20), (13, 1, t24), (14, 1, t30), (15, 1, t34)]) fun t35 =>
 .op (.box 131 t35) fun t36 =>
 .op (.mv t36) fun t4 =>
 .done (e.upd 4 t4)
def c59_r3_c3 (e : Env) (t18 : Value) (h2 : Heap) (t20 : Value) (h6 : Heap) (t24 : Value) (t25 : Value) (t29 : Value) : Reg :=
 .snap fun h12 =>
 .op (.call 81 [t25, t29]) fun t30 =>
 .chk none none (.load (some 9) (e 2)) t18 <|
 .op (.fieldAddr 7 (e 2)) fun t31 =>
 .op (.load none t31) fun t32 =>
 .chk none (some h12) (.load none t31) t32 <|
 .chk none (some h6) (.load none t31) t32 <|
 .chk none (some h2) (.load none t31) t32 <|
 c59_r3_c4 e t18 h2 t20 h6 t24 h12 t30 t32
def c59_r3_c2 (e : Env) (t18 : Value) (h2 : Heap) (t20 : Value) (h6 : Heap) (t24 : Value) (t25 : Value) : Reg :=
 .op (.mv (e 5)) fun t26 =>
 .op (.fieldAddr 5 (e 2)) fun t27 =>
 .op (.load none t27) fun t28 =>
 .chk none (some h6) (.load none t27) t28 <|
 .chk none (some h2) (.load none t27) t28 <|
 .op (.slice 182 3 t26 none (some t28)) fun t29 =>
 .chk none (some h6) (.slice 182 3 t26 none (some t28)) t29 <|
 .chk none (some h2) (.slice 182 3 t26 none (some t28)) t29 <|
 c59_r3_c3 e t18 h2 t20 h6 t24 t25 t29
def c59_r3_c1 (e : Env) (t18 : Value) (h2 : Heap) (t20 : Value) (t22 : Value) : Reg :=
 .op (.load (some 3) (e 6)) fun t23 =>
 .chk none (some h2) (.load (some 3) (e 6)) t23 <|
 .snap fun h6 =>
 .op (.call 80 [t22, t23]) fun t24 =>
 .chk none none (.load (some 9) (e 2)) t18 <|
 .op (.load (some 9) (e 2)) fun t25 =>
 .chk none (some h6) (.load (some 9) (e 2)) t25 <|
 .chk none (some h2) (.load (some 9) (e 2)) t25 <|
 c59_r3_c2 e t18 h2 t20 h6 t24 t25
def c59_r3 (e : Env) : Reg :=
 .op (.load (some 9) (e 2)) fun t18 =>
 .op (.load (some 9) (e 2)) fun t19 =>
 .snap fun h2 =>
 .op (.call 79 [t19]) fun t20 =>
 .chk none none (.load (some 9) (e 2)) t18 <|
 .op (.fieldAddr 4 (e 2)) fun t21 =>
 .op (.load none t21) fun t22 =>
 .chk none (some h2) (.load none t21) t22 <|
 c59_r3_c1 e t18 h2 t20 t22
def R59 := an (ro c59_r0.eq_1) <| an (ro c59_r1.eq_1) <| an (ro c59_r2.eq_1) <| an (ro8 c59_r3_c4.eq_1) <| an (ro7 c59_r3_c3.eq_1) <| an (ro6 c59_r3_c2.eq_1) <| an (ro4 c59_r3_c1.eq_1) <| ro c59_r3.eq_1
def c59 : CFn := ⟨(.seq (.region c59_r0) (.seq (.region c59_r1) (.seq (.region c59_r2) (.seq (.region c59_r3) .ret)))), [.t 4]⟩
def p59 : Pers := ⟨7, [], 37, []⟩
def c60_r0 (e : Env) : Reg :=
 .op (.mv (.slice none 0 0)) fun t6 =>
 .done (e.upd 6 t6)
def c60_r1 (e : Env) : Reg :=
 .op (.mv (e 2)) fun t9 =>
 .op (.makeSlice 78 1 8 [(.int .u64 0)] t9 t9) fun t10 =>
 .op (.mv t10) fun t7 =>
 .done (e.upd 7 t7)
def c60_r2 (e : Env) : Reg :=
 .op (.mv (e 7)) fun t11 =>
 .op (.lenSl t11) fun t12 =>
 .op (.mv (.int .i64 0)) fun t13 =>
 .done ((e.upd 12 t12).upd 13 t13)
def c60_r3 (e : Env) : Reg :=
 .op (.bin .lss (e 13) (e 12)) fun t14 =>
 .done (e.upd 14 t14)
def c60_r4 (e : Env) : Reg :=
 .op (.mv (e 13)) fun t15 =>
 .op (.mv t15) fun t8 =>
 .done (e.upd 8 t8)
def c60_r5 (e : Env) : Reg :=
 .op (.mv (e 0)) fun t16 =>
 .op (.lenSl t16) fun t17 =>
 .op (.bin .gtr t17 (.int .i64 0)) fun t18 =>
 .done (e.upd 18 t18)
def c60_r6_c2 (e : Env) (t19 : Value) (t20 : Value) (t33 : Value) (t34 : Value) : Reg :=
 .op (.conv .u64 t34) fun t35 =>
 .op (.bin .mul t35 (.int .u64 11400714819323198485)) fun t36 =>
 .op (.bin .xor t33 t36) fun t37 =>
 .op (.indexSl 1 t19 t20) fun t38 =>
 .op (.store 1 t38 t37) fun _ =>
 .done e
def c60_r6_c1 (e : Env) (t19 : Value) (t20 : Value) (t21 : Value) (t24 : Value) (t26 : Value) : Reg :=
 .op (.bin .rem t24 t26) fun t27 =>
 .op (.indexSl 1 t21 t27) fun t28 =>
 .op (.load none t28) fun t29 =>
 .op (.mv (e 1)) fun t30 =>
 .op (.conv .u64 t30) fun t31 =>
 .op (.bin .shl t31 (.int .u64 56)) fun t32 =>
 .op (.bin .xor t29 t32) fun t33 =>
 .op (.mv (e 8)) fun t34 =>
 c60_r6_c2 e t19 t20 t33 t34
def c60_r6 (e : Env) : Reg :=
 .op (.mv (e 7)) fun t19 =>
 .op (.mv (e 8)) fun t20 =>
 .op (.mv (e 0)) fun t21 =>
 .op (.mv (e 1)) fun t22 =>
 .op (.mv (e 8)) fun t23 =>
 .op (.bin .add t22 t23) fun t24 =>
 .op (.mv (e 0)) fun t25 =>
 .op (.lenSl t25) fun t26 =>
 c60_r6_c1 e t19 t20 t21 t24 t26
def c60_r7 (e : Env) : Reg :=
 .op (.bin .add (e 13) (.int .i64 1)) fun t39 =>
 .op (.mv t39) fun t13 =>
 .done (e.upd 13 t13)
def c60_l0 : CC := (.seq (.region c60_r3) (.seq (.cond (fun e => e 14) .skip (.exit 0)) (.seq (.block 1 (.seq (.region c60_r4) (.seq (.region c60_r5) (.cond (fun e => e 18) (.region c60_r6) .skip)))) (.region c60_r7))))
def c60_r8 (e : Env) : Reg :=
 .op (.mv (e 7)) fun t40 =>
 .op (.mv t40) fun t6 =>
 .done (e.upd 6 t6)
def R60 := an (ro c60_r0.eq_1) <| an (ro c60_r1.eq_1) <| an (ro c60_r2.eq_1) <| an (ro c60_r3.eq_1) <| an (ro c60_r4.eq_1) <| an (ro c60_r5.eq_1) <| an (ro4 c60_r6_c2.eq_1) <| an (ro5 c60_r6_c1.eq_1) <| an (ro c60_r6.eq_1) <| an (ro c60_r7.eq_1) <| ro c60_r8.eq_1
def c60 : CFn := ⟨(.seq (.region c60_r0) (.seq (.region c60_r1) (.seq (.seq (.region c60_r2) (.block 0 (.loop c60_l0))) (.seq (.region c60_r8) .ret)))), [.t 6]⟩
def p60 : Pers := ⟨9, [12, 13, 14, 18], 41, []⟩
def c61_r0 (e : Env) : Reg :=
 .op (.mv (e 0)) fun t2 =>
 .op (.eqK .ptr true t2 (.pointer none)) fun t3 =>
 .done (e.upd 3 t3)
def c61_r1 (e : Env) : Reg :=
 .op (.mv (e 0)) fun t4 =>
 .op (.mv (e 0)) fun t5 =>
 .op (.nilCheck t4) fun t6 =>
 .op (.fieldAddr 1 t6) fun t7 =>
 .op (.store 1 t7 (.int .i64 0)) fun _ =>
 .op (.nilCheck t5) fun t8 =>
 .op (.fieldAddr 2 t8) fun t9 =>
 .op (.store 1 t9 (.int .i64 0)) fun _ =>
 .done e
def R61 := an (ro c61_r0.eq_1) <| ro c61_r1.eq_1
def c61 : CFn := ⟨(.seq (.region c61_r0) (.cond (fun e => e 3) (.region c61_r1) .skip)), []⟩
def p61 : Pers := ⟨2, [3], 10, []⟩
def c62_r0 (e : Env) : Reg :=
 .op (.mv (.int .i64 0)) fun t2 =>
 .done (e.upd 2 t2)
def c62_r1 (e : Env) : Reg :=
 .op (.mv (e 0)) fun t3 =>
 .op (.nilCheck t3) fun t4 =>
 .op (.fieldAddr 77 t4) fun t5 =>
 .op (.load none t5) fun t6 =>
 .op (.mv t6) fun t2 =>
 .done (e.upd 2 t2)
def R62 := an (ro c62_r0.eq_1) <| ro c62_r1.eq_1
def c62 : CFn := ⟨(.seq (.region c62_r0) (.seq (.region c62_r1) .ret)), [.t 2]⟩
def p62 : Pers := ⟨3, [], 7, []⟩
def c63_r0 (e : Env) : Reg :=
 .op (.mv (.int .i64 0)) fun t2 =>
 .done (e.upd 2 t2)
def c63_r1 (e : Env) : Reg :=
 .op (.mv (e 0)) fun t3 =>
 .op (.eqK .ptr false t3 (.pointer none)) fun t4 =>
 .done (e.upd 4 t4)
def c63_r2 (e : Env) : Reg :=
 .op (.mv (.int .i64 0)) fun t2 =>
 .done (e.upd 2 t2)
def c63_r3_c1 (e : Env) (t9 : Value) (t12 : Value) : Reg :=
 .op (.load none t12) fun t13 =>
 .op (.bin .sub t9 t13) fun t14 =>
 .op (.mv t14) fun t2 =>
 .done (e.upd 2 t2)
def c63_r3 (e : Env) : Reg :=
 .op (.mv (e 0)) fun t5 =>
 .op (.nilCheck t5) fun t6 =>
 .op (.fieldAddr 0 t6) fun t7 =>
 .op (.load none t7) fun t8 =>
 .op (.lenSl t8) fun t9 =>
 .op (.mv (e 0)) fun t10 =>
 .op (.nilCheck t10) fun t11 =>
 .op (.fieldAddr 2 t11) fun t12 =>
 c63_r3_c1 e t9 t12
def R63 := an (ro c63_r0.eq_1) <| an (ro c63_r1.eq_1) <| an (ro c63_r2.eq_1) <| an (ro2 c63_r3_c1.eq_1) <| ro c63_r3.eq_1
def c63 : CFn := ⟨(.seq (.region c63_r0) (.seq (.seq (.region c63_r1) (.cond (fun e => e 4) (.seq (.region c63_r2) .ret) .skip)) (.seq (.region c63_r3) .ret))), [.t 2]⟩
def p63 : Pers := ⟨3, [4], 15, []⟩
def c64_r0 (e : Env) : Reg :=
 .op (.mv (.bool false)) fun t4 =>
 .done (e.upd 4 t4)
def c64_r1 (e : Env) : Reg :=
 .op (.mv (e 1)) fun t7 =>
 .op (.lenSl t7) fun t8 =>
 .op (.mv (e 0)) fun t9 =>
 .op (.call 63 [t9]) fun t10 =>
 .op (.bin .gtr t8 t10) fun t11 =>
 .done (e.upd 11 t11)
def c64_r2 (e : Env) : Reg :=
 .op (.mv (.bool false)) fun t4 =>
 .done (e.upd 4 t4)
def c64_r3 (e : Env) : Reg :=
 .op (.mv (e 1)) fun t12 =>
 .op (.lenSl t12) fun t13 =>
 .op (.mv (.int .i64 0)) fun t14 =>
 .done (((e.upd 12 t12).upd 13 t13).upd 14 t14)
def c64_r4 (e : Env) : Reg :=
 .op (.bin .lss (e 14) (e 13)) fun t15 =>
 .done (e.upd 15 t15)
def c64_r5 (e : Env) : Reg :=
 .op (.indexSl 1 (e 12) (e 14)) fun t16 =>
 .op (.load none t16) fun t17 =>
 .op (.mv t17) fun t6 =>
 .done (e.upd 6 t6)
def c64_r6_c2 (e : Env) (t21 : Value) (t30 : Value) (t33 : Value) : Reg :=
 .op (.load none t33) fun t34 =>
 .op (.lenSl t34) fun t35 =>
 .op (.bin .rem t30 t35) fun t36 =>
 .op (.mv (e 6)) fun t37 =>
 .op (.indexSl 1 t21 t36) fun t38 =>
 .snap fun h21 =>
 .op (.store 1 t38 t37) fun _ =>
 .done e
def c64_r6_c1 (e : Env) (t21 : Value) (t25 : Value) : Reg :=
 .op (.mv (e 0)) fun t26 =>
 .op (.nilCheck t26) fun t27 =>
 .op (.fieldAddr 2 t27) fun t28 =>
 .op (.load none t28) fun t29 =>
 .op (.bin .add t25 t29) fun t30 =>
 .op (.mv (e 0)) fun t31 =>
 .op (.nilCheck t31) fun t32 =>
 .op (.fieldAddr 0 t32) fun t33 =>
 c64_r6_c2 e t21 t30 t33
def c64_r6 (e : Env) : Reg :=
 .op (.mv (e 0)) fun t18 =>
 .op (.nilCheck t18) fun t19 =>
 .op (.fieldAddr 0 t19) fun t20 =>
 .op (.load none t20) fun t21 =>
 .op (.mv (e 0)) fun t22 =>
 .op (.nilCheck t22) fun t23 =>
 .op (.fieldAddr 1 t23) fun t24 =>
 .op (.load none t24) fun t25 =>
 c64_r6_c1 e t21 t25
def c64_r7 (e : Env) : Reg :=
 .op (.mv (e 0)) fun t39 =>
 .op (.nilCheck t39) fun t40 =>
 .op (.fieldAddr 2 t40) fun t41 =>
 .op (.load none t41) fun t42 =>
 .op (.bin .add t42 (.int .i64 1)) fun t43 =>
 .op (.nilCheck t39) fun t44 =>
 .op (.fieldAddr 2 t44) fun t45 =>
 .op (.store 1 t45 t43) fun _ =>
 .done e
def c64_r8 (e : Env) : Reg :=
 .op (.bin .add (e 14) (.int .i64 1)) fun t46 =>
 .op (.mv t46) fun t14 =>
 .done (e.upd 14 t14)
def c64_l0 : CC := (.seq (.region c64_r4) (.seq (.cond (fun e => e 15) .skip (.exit 0)) (.seq (.block 1 (.seq (.region c64_r5) (.seq (.region c64_r6) (.region c64_r7)))) (.region c64_r8))))
def c64_r9 (e : Env) : Reg :=
 .op (.mv (.bool true)) fun t4 =>
 .done (e.upd 4 t4)
def R64 := an (ro c64_r0.eq_1) <| an (ro c64_r1.eq_1) <| an (ro c64_r2.eq_1) <| an (ro c64_r3.eq_1) <| an (ro c64_r4.eq_1) <| an (ro c64_r5.eq_1) <| an (ro3 c64_r6_c2.eq_1) <| an (ro2 c64_r6_c1.eq_1) <| an (ro c64_r6.eq_1) <| an (ro c64_r7.eq_1) <| an (ro c64_r8.eq_1) <| ro c64_r9.eq_1
def c64 : CFn := ⟨(.seq (.region c64_r0) (.seq (.seq (.region c64_r1) (.cond (fun e => e 11) (.seq (.region c64_r2) .ret) .skip)) (.seq (.seq (.region c64_r3) (.block 0 (.loop c64_l0))) (.seq (.region c64_r9) .ret)))), [.t 4]⟩
def p64 : Pers := ⟨7, [11, 12, 13, 14, 15], 47, []⟩
def c65_r0 (e : Env) : Reg :=
 .op (.mv (.slice none 0 0)) fun t2 =>
 .done (e.upd 2 t2)
def c65_r1 (e : Env) : Reg :=
 .op (.mv (e 0)) fun t3 =>
 .op (.conv .u8 t3) fun t4 =>
 .op (.buildSlice 5 2 [(.int .u8 0)] [(0, 1, (.int .u8 255)), (1, 1, t4)]) fun t5 =>
 .op (.call 45 [(.int .u8 168), t5]) fun t6 =>
 .op (.mv t6) fun t2 =>
 .done (e.upd 2 t2)
def R65 := an (ro c65_r0.eq_1) <| ro c65_r1.eq_1
def c65 : CFn := ⟨(.seq (.region c65_r0) (.seq (.region c65_r1) .ret)), [.t 2]⟩
def p65 : Pers := ⟨3, [], 7, []⟩
def c66_r0 (e : Env) : Reg :=
 .op (.mv (.slice none 0 0)) fun t4 =>
 .done (e.upd 4 t4)
def c66_r1 (e : Env) : Reg :=
 .op (.mv (.slice none 0 0)) fun t5 =>
 .done (e.upd 5 t5)
def c66_r2 (e : Env) : Reg :=
 .op (.mv (e 1)) fun t6 =>
 .op (.minmax true [t6, (.int .i64 0)]) fun t7 =>
 .op (.mv (e 0)) fun t8 =>
 .op (.call 83 [t8]) fun t9 =>
 .op (.minmax false [t7, t9]) fun t10 =>
 .op (.mv (.int .i64 0)) fun t11 =>
 .done ((e.upd 10 t10).upd 11 t11)
def c66_r3 (e : Env) : Reg :=
 .op (.bin .lss (e 11) (e 10)) fun t12 =>
 .done (e.upd 12 t12)
def c66_r4_c1 (e : Env) (t13 : Value) (t17 : Value) (t20 : Value) : Reg :=
 .op (.load none t20) fun t21 =>
 .op (.indexSl 1 t17 t21) fun t22 =>
 .op (.load none t22) fun t23 =>
 .op (.buildSlice 5 1 [(.int .u8 0)] [(0, 1, t23)]) fun t24 =>
 .snap fun h12 =>
 .op (.append 5 1 1 t13 t24) fun t25 =>
 .op (.mv t25) fun t5 =>
 .done (e.upd 5 t5)
def c66_r4 (e : Env) : Reg :=
 .op (.mv (e 5)) fun t13 =>
 .op (.mv (e 0)) fun t14 =>
 .op (.nilCheck t14) fun t15 =>
 .op (.fieldAddr 0 t15) fun t16 =>
 .op (.load none t16) fun t17 =>
 .op (.mv (e 0)) fun t18 =>
 .op (.nilCheck t18) fun t19 =>
 .op (.fieldAddr 1 t19) fun t20 =>
 c66_r4_c1 e t13 t17 t20
def c66_r5_c1 (e : Env) (t26 : Value) (t31 : Value) (t33 : Value) : Reg :=
 .op (.fieldAddr 0 t33) fun t34 =>
 .op (.load none t34) fun t35 =>
 .op (.lenSl t35) fun t36 =>
 .op (.bin .rem t31 t36) fun t37 =>
 .op (.nilCheck t26) fun t38 =>
 .op (.fieldAddr 1 t38) fun t39 =>
 .snap fun h14 =>
 .op (.store 1 t39 t37) fun _ =>
 .done e
def c66_r5 (e : Env) : Reg :=
 .op (.mv (e 0)) fun t26 =>
 .op (.mv (e 0)) fun t27 =>
 .op (.nilCheck t27) fun t28 =>
 .op (.fieldAddr 1 t28) fun t29 =>
 .op (.load none t29) fun t30 =>
 .op (.bin .add t30 (.int .i64 1)) fun t31 =>
 .op (.mv (e 0)) fun t32 =>
 .op (.nilCheck t32) fun t33 =>
 c66_r5_c1 e t26 t31 t33
def c66_r6 (e : Env) : Reg :=
 .op (.mv (e 0)) fun t40 =>
 .op (.nilCheck t40) fun t41 =>
 .op (.fieldAddr 2 t41) fun t42 =>
 .op (.load none t42) fun t43 =>
 .op (.bin .sub t43 (.int .i64 1)) fun t44 =>
 .op (.nilCheck t40) fun t45 =>
 .op (.fieldAddr 2 t45) fun t46 =>
 .op (.store 1 t46 t44) fun _ =>
 .done e
def c66_r7 (e : Env) : Reg :=
 .op (.bin .add (e 11) (.int .i64 1)) fun t47 =>
 .op (.mv t47) fun t11 =>
 .done (e.upd 11 t11)
def c66_l0 : CC := (.seq (.region c66_r3) (.seq (.cond (fun e => e 12) .skip (.exit 0)) (.seq (.block 1 (.seq (.region c66_r4) (.seq (.region c66_r5) (.region c66_r6)))) (.region c66_r7))))
def c66_r8 (e : Env) : Reg :=
 .op (.mv (e 5)) fun t48 =>
 .op (.mv t48) fun t4 =>
 .done (e.upd 4 t4)
def R66 := an (ro c66_r0.eq_1) <| an (ro c66_r1.eq_1) <| an (ro c66_r2.eq_1) <| an (ro c66_r3.eq_1) <| an (ro3 c66_r4_c1.eq_1) <| an (ro c66_r4.eq_1) <| an (ro3 c66_r5_c1.eq_1) <| an (ro c66_r5.eq_1) <| an (ro c66_r6.eq_1) <| an (ro c66_r7.eq_1) <| ro c66_r8.eq_1
def c66 : CFn := ⟨(.seq (.region c66_r0) (.seq (.region c66_r1) (.seq (.seq (.region c66_r2) (.block 0 (.loop c66_l0))) (.seq (.region c66_r8) .ret)))), [.t 4]⟩
def p66 : Pers := ⟨6, [10, 11, 12], 49, []⟩
def c70_r0 (e : Env) : Reg :=
 .op (.mv (.int .i64 0)) fun t2 =>
 .done (e.upd 2 t2)
def c70_r1 (e : Env) : Reg :=
 .op (.mv (e 0)) fun t3 =>
 .op (.eqK .ptr false t3 (.pointer none)) fun t4 =>
 .done (e.upd 4 t4)
def c70_r2 (e : Env) : Reg :=
 .op (.mv (.int .i64 0)) fun t2 =>
 .done (e.upd 2 t2)
def c70_r3 (e : Env) : Reg :=
 .op (.mv (e 0)) fun t5 =>
 .op (.nilCheck t5) fun t6 =>
 .op (.fieldAddr 4 t6) fun t7 =>
 .op (.load none t7) fun t8 =>
 .op (.mv t8) fun t2 =>
 .done (e.upd 2 t2)
def R70 := an (ro c70_r0.eq_1) <| an (ro c70_r1.eq_1) <| an (ro c70_r2.eq_1) <| ro c70_r3.eq_1
def c70 : CFn := ⟨(.seq (.region c70_r0) (.seq (.seq (.region c70_r1) (.cond (fun e => e 4) (.seq (.region c70_r2) .ret) .skip)) (.seq (.region c70_r3) .ret))), [.t 2]⟩
def p70 : Pers := ⟨3, [4], 9, []⟩
def c71_r0 (e : Env) : Reg :=
 .op (.alloc 61 [(.int .i64 0), (.int .i64 0), (.int .u32 0), (.string ⟨#[]⟩), (.int .i64 0)]) fun t4 =>
 .op (.mv (.int .i64 0)) fun t5 =>
 .op (.mv (.int .i64 0)) fun t6 =>
 .done (((e.upd 4 t4).upd 5 t5).upd 6 t6)
def c71_r1 (e : Env) : Reg :=
 .op (.mv (e 0)) fun t10 =>
 .op (.mv (e 1)) fun t11 =>
 .op (.call 84 [t10, t11]) fun t12 =>
 .op (.mv t12) fun t7 =>
 .done (e.upd 7 t7)
def c71_r2 (e : Env) : Reg :=
 .op (.mv (e 7)) fun t13 =>
 .op (.bin .neq t13 (.int .i64 0)) fun t14 =>
 .done (e.upd 14 t14)
def c71_r3 (e : Env) : Reg :=
 .op (.build [(.int .i64 0), (.int .i64 0), (.int .u32 0), (.string ⟨#[]⟩), (.int .i64 0)] []) fun t15 =>
 .op (.mv (e 7)) fun t16 =>
 .op (.store 5 (e 4) t15) fun _ =>
 .op (.mv (.int .i64 0)) fun t5 =>
 .op (.mv t16) fun t6 =>
 .done ((e.upd 5 t5).upd 6 t6)
def c71_r4_c1 (e : Env) (t20 : Value) (t22 : Value) (t24 : Value) : Reg :=
 .opg t20 false (.load none t24) fun t25 =>
 .opg t20 false (.conv .i64 t25) fun t26 =>
 .opg t20 false (.bin .add (.int .i64 4) t26) fun t27 =>
 .opg t20 false (.bin .lss t22 t27) fun t28 =>
 .op (.pick t20 (.bool true) t28) fun t29 =>
 .done (e.upd 29 t29)
def c71_r4 (e : Env) : Reg :=
 .op (.mv (e 0)) fun t17 =>
 .op (.lenSl t17) fun t18 =>
 .op (.bin .lss t18 (.int .i64 4)) fun t19 =>
 .op (.mv t19) fun t20 =>
 .opg t20 false (.mv (e 0)) fun t21 =>
 .opg t20 false (.lenSl t21) fun t22 =>
 .opg t20 false (.mv (e 0)) fun t23 =>
 .opg t20 false (.indexSl 1 t23 (.int .i64 3)) fun t24 =>
 c71_r4_c1 e t20 t22 t24
def c71_r5 (e : Env) : Reg :=
 .op (.build [(.int .i64 0), (.int .i64 0), (.int .u32 0), (.string ⟨#[]⟩), (.int .i64 0)] []) fun t30 =>
 .op (.store 5 (e 4) t30) fun _ =>
 .op (.mv (.int .i64 0)) fun t5 =>
 .op (.mv (.int .i64 0)) fun t6 =>
 .done ((e.upd 5 t5).upd 6 t6)
def c71_r6 (e : Env) : Reg :=
 .op (.mv (e 0)) fun t31 =>
 .op (.indexSl 1 t31 (.int .i64 3)) fun t32 =>
 .op (.load none t32) fun t33 =>
 .op (.conv .i64 t33) fun t34 =>
 .op (.bin .add (.int .i64 4) t34) fun t35 =>
 .op (.mv t35) fun t8 =>
 .done (e.upd 8 t8)
def c71_r7_c1 (e : Env) (t39 : Value) (t43 : Value) : Reg :=
 .op (.build [(.int .i64 0), (.int .i64 0), (.int .u32 0), (.string ⟨#[]⟩), (.int .i64 0)] [(0, 1, t39), (1, 1, t43)]) fun t44 =>
 .op (.alloc 61 [(.int .i64 0), (.int .i64 0), (.int .u32 0), (.string ⟨#[]⟩), (.int .i64 0)]) fun t9 =>
 .snap fun h10 =>
 .op (.store 5 t9 t44) fun _ =>
 .done (e.upd 9 t9)
def c71_r7 (e : Env) : Reg :=
 .op (.mv (e 0)) fun t36 =>
 .op (.indexSl 1 t36 (.int .i64 4)) fun t37 =>
 .op (.load none t37) fun t38 =>
 .op (.conv .i64 t38) fun t39 =>
 .op (.mv (e 0)) fun t40 =>
 .op (.indexSl 1 t40 (.int .i64 5)) fun t41 =>
 .op (.load none t41) fun t42 =>
 .op (.conv .i64 t42) fun t43 =>
 c71_r7_c1 e t39 t43
def c71_r8 (e : Env) : Reg :=
 .op (.fieldAddr 0 (e 9)) fun t45 =>
 .op (.load none t45) fun t46 =>
 .done (e.upd 46 t46)
def c71_r9 (e : Env) : Reg :=
 .op (.bin .eql (e 46) (.int .i64 1)) fun t48 =>
 .op (.mv t48) fun t47 =>
 .done (e.upd 47 t47)
def c71_r10 (e : Env) : Reg :=
 .op (.bin .eql (e 46) (.int .i64 2)) fun t49 =>
 .op (.mv t49) fun t47 =>
 .done (e.upd 47 t47)
def c71_r11_c2 (e : Env) (t57 : Value) : Reg :=
 .op (.fieldAddr 3 (e 9)) fun t59 =>
 .snap fun h11 =>
 .op (.store 1 t59 t57) fun _ =>
 .done e
def c71_r11_c1 (e : Env) (h2 : Heap) (t53 : Value) (t54 : Value) (t55 : Value) (t56 : Value) : Reg :=
 .chk none (some h2) (.slice 5 1 t54 (some (.int .i64 11)) (some t55)) t56 <|
 .op (.toStr t56) fun t57 =>
 .chk none (some h2) (.toStr t56) t57 <|
 .op (.fieldAddr 2 (e 9)) fun t58 =>
 .snap fun h9 =>
 .op (.store 1 t58 t53) fun _ =>
 .chk none none (.toStr t56) t57 <|
 .chk none none (.slice 5 1 t54 (some (.int .i64 11)) (some t55)) t56 <|
 c71_r11_c2 e t57
def c71_r11 (e : Env) : Reg :=
 .op (.mv (e 0)) fun t50 =>
 .op (.slice 5 1 t50 (some (.int .i64 6)) (some (.int .i64 10))) fun t51 =>
 .snap fun h2 =>
 .op (.call 46 [t51]) fun t52 =>
 .op (.conv .u32 t52) fun t53 =>
 .op (.mv (e 0)) fun t54 =>
 .op (.mv (e 8)) fun t55 =>
 .op (.slice 5 1 t54 (some (.int .i64 11)) (some t55)) fun t56 =>
 c71_r11_c1 e h2 t53 t54 t55 t56
def c71_r12 (e : Env) : Reg :=
 .op (.bin .eql (e 46) (.int .i64 4)) fun t61 =>
 .op (.mv t61) fun t60 =>
 .done (e.upd 60 t60)
def c71_r13 (e : Env) : Reg :=
 .op (.mv (e 0)) fun t62 =>
 .op (.indexSl 1 t62 (.int .i64 6)) fun t63 =>
 .op (.load none t63) fun t64 =>
 .op (.conv .i64 t64) fun t65 =>
 .op (.fieldAddr 4 (e 9)) fun t66 =>
 .op (.store 1 t66 t65) fun _ =>
 .done e
def c71_r14 (e : Env) : Reg :=
 .op (.load (some 5) (e 9)) fun t67 =>
 .op (.mv (e 8)) fun t68 =>
 .op (.store 5 (e 4) t67) fun _ =>
 .op (.mv t68) fun t5 =>
 .op (.mv (.int .i64 0)) fun t6 =>
 .done ((e.upd 5 t5).upd 6 t6)
def R71 := an (ro c71_r0.eq_1) <| an (ro c71_r1.eq_1) <| an (ro c71_r2.eq_1) <| an (ro c71_r3.eq_1) <| an (ro3 c71_r4_c1.eq_1) <| an (ro c71_r4.eq_1) <| an (ro c71_r5.eq_1) <| an (ro c71_r6.eq_1) <| an (ro2 c71_r7_c1.eq_1) <| an (ro c71_r7.eq_1) <| an (ro c71_r8.eq_1) <| an (ro c71_r9.eq_1) <| an (ro c71_r10.eq_1) <| an (ro1 c71_r11_c2.eq_1) <| an (ro5 c71_r11_c1.eq_1) <| an (ro c71_r11.eq_1) <| an (ro c71_r12.eq_1) <| an (ro c71_r13.eq_1) <| ro c71_r14.eq_1
def c71 : CFn := ⟨(.seq (.region c71_r0) (.seq (.seq (.region c71_r1) (.seq (.region c71_r2) (.cond (fun e => e 14) (.seq (.region c71_r3) .ret) .skip))) (.seq (.seq (.region c71_r4) (.cond (fun e => e 29) (.seq (.region c71_r5) .ret) .skip)) (.seq (.region c71_r6) (.seq (.region c71_r7) (.seq (.seq (.region c71_r8) (.block 0 (.seq (.seq (.region c71_r9) (.cond (fun e => e 47) .skip (.region c71_r10))) (.cond (fun e => e 47) (.region c71_r11) (.seq (.region c71_r12) (.cond (fun e => e 60) (.region c71_r13) .skip)))))) (.seq (.region c71_r14) .ret))))))), [.c 4 (some 5), .t 5, .t 6]⟩
def p71 : Pers := ⟨10, [14, 29, 46, 47, 60], 69, []⟩
def c72_r0 (e : Env) : Reg :=
 .op (.mv (.int .i64 0)) fun t4 =>
 .op (.mv (.bool false)) fun t5 =>
 .done ((e.upd 4 t4).upd 5 t5)
def c72_r1 (e : Env) : Reg :=
 .op (.mv (e 0)) fun t10 =>
 .op (.conv .u64 t10) fun t11 =>
 .op (.mv (e 1)) fun t12 =>
 .op (.conv .u64 t12) fun t13 =>
 .op (.call 85 [t11, t13]) fun t14 =>
 .op (.mv t14) fun t9 =>
 .op (.extract t9 0) fun t15 =>
 .op (.extract t9 1) fun t16 =>
 .op (.mv t15) fun t6 =>
 .op (.mv t16) fun t7 =>
 .done ((e.upd 6 t6).upd 7 t7)
def c72_r2 (e : Env) : Reg :=
 .op (.mv (e 6)) fun t17 =>
 .op (.conv .i64 t17) fun t18 =>
 .op (.mv t18) fun t8 =>
 .done (e.upd 8 t8)
def c72_r3 (e : Env) : Reg :=
 .op (.mv (e 0)) fun t19 =>
 .op (.bin .lss t19 (.int .i64 0)) fun t20 =>
 .done (e.upd 20 t20)
def c72_r4 (e : Env) : Reg :=
 .op (.mv (e 8)) fun t21 =>
 .op (.mv (e 1)) fun t22 =>
 .op (.bin .sub t21 t22) fun t23 =>
 .op (.mv t23) fun t8 =>
 .done (e.upd 8 t8)
def c72_r5 (e : Env) : Reg :=
 .op (.mv (e 1)) fun t24 =>
 .op (.bin .lss t24 (.int .i64 0)) fun t25 =>
 .done (e.upd 25 t25)
def c72_r6 (e : Env) : Reg :=
 .op (.mv (e 8)) fun t26 =>
 .op (.mv (e 0)) fun t27 =>
 .op (.bin .sub t26 t27) fun t28 =>
 .op (.mv t28) fun t8 =>
 .done (e.upd 8 t8)
def c72_r7 (e : Env) : Reg :=
 .op (.mv (e 7)) fun t29 =>
 .op (.conv .i64 t29) fun t30 =>
 .op (.mv (e 8)) fun t31 =>
 .op (.mv (e 7)) fun t32 =>
 .op (.conv .i64 t32) fun t33 =>
 .op (.bin .shr t33 (.int .u64 63)) fun t34 =>
 .op (.bin .eql t31 t34) fun t35 =>
 .op (.mv t30) fun t4 =>
 .op (.mv t35) fun t5 =>
 .done ((e.upd 4 t4).upd 5 t5)
def R72 := an (ro c72_r0.eq_1) <| an (ro c72_r1.eq_1) <| an (ro c72_r2.eq_1) <| an (ro c72_r3.eq_1) <| an (ro c72_r4.eq_1) <| an (ro c72_r5.eq_1) <| an (ro c72_r6.eq_1) <| ro c72_r7.eq_1
def c72 : CFn := ⟨(.seq (.region c72_r0) (.seq (.region c72_r1) (.seq (.region c72_r2) (.seq (.seq (.region c72_r3) (.cond (fun e => e 20) (.region c72_r4) .skip)) (.seq (.seq (.region c72_r5) (.cond (fun e => e 25) (.region c72_r6) .skip)) (.seq (.region c72_r7) .ret)))))), [.t 4, .t 5]⟩
def p72 : Pers := ⟨9, [20, 25], 36, []⟩
def c73_r0 (e : Env) : Reg :=
 .op (.mv (.int .i64 0)) fun t4 =>
 .done (e.upd 4 t4)
def c73_r1 (e : Env) : Reg :=
 .op (.mv (e 0)) fun t6 =>
 .op (.bin .lss t6 (.int .i64 0)) fun t7 =>
 .op (.mv t7) fun t8 =>
 .opg t8 false (.mv (e 1)) fun t9 =>
 .opg t8 false (.bin .lss t9 (.int .i64 1)) fun t10 =>
 .op (.pick t8 (.bool true) t10) fun t11 =>
 .done (e.upd 11 t11)
def c73_r2 (e : Env) : Reg :=
 .op (.mv (.int .i64 0)) fun t4 =>
 .done (e.upd 4 t4)
def c73_r3 (e : Env) : Reg :=
 .op (.mv (e 0)) fun t12 =>
 .op (.mv (e 1)) fun t13 =>
 .op (.bin .quo t12 t13) fun t14 =>
 .op (.mv t14) fun t5 =>
 .done (e.upd 5 t5)
def c73_r4 (e : Env) : Reg :=
 .op (.mv (e 0)) fun t15 =>
 .op (.mv (e 1)) fun t16 =>
 .op (.bin .rem t15 t16) fun t17 =>
 .op (.bin .gtr t17 (.int .i64 0)) fun t18 =>
 .done (e.upd 18 t18)
def c73_r5 (e : Env) : Reg :=
 .op (.mv (e 5)) fun t19 =>
 .op (.bin .add t19 (.int .i64 1)) fun t20 =>
 .op (.mv t20) fun t5 =>
 .done (e.upd 5 t5)
def c73_r6 (e : Env) : Reg :=
 .op (.mv (e 5)) fun t21 =>
 .op (.mv t21) fun t4 =>
 .done (e.upd 4 t4)
def R73 := an (ro c73_r0.eq_1) <| an (ro c73_r1.eq_1) <| an (ro c73_r2.eq_1) <| an (ro c73_r3.eq_1) <| an (ro c73_r4.eq_1) <| an (ro c73_r5.eq_1) <| ro c73_r6.eq_1
def c73 : CFn := ⟨(.seq (.region c73_r0) (.seq (.seq (.region c73_r1) (.cond (fun e => e 11) (.seq (.region c73_r2) .ret) .skip)) (.seq (.region c73_r3) (.seq (.seq (.region c73_r4) (.cond (fun e => e 18) (.region c73_r5) .skip)) (.seq (.region c73_r6) .ret))))), [.t 4]⟩
def p73 : Pers := ⟨6, [11, 18], 22, []⟩
def c74_r0 (e : Env) : Reg :=
 .op (.box 61 (e 0)) fun t2 =>
 .op (.mv (.int .i64 0)) fun t4 =>
 .done ((e.upd 2 t2).upd 4 t4)
def c74_r1 (e : Env) : Reg :=
 .op (.fieldAddr 0 (e 2)) fun t5 =>
 .op (.load none t5) fun t6 =>
 .done (e.upd 6 t6)
def c74_r2 (e : Env) : Reg :=
 .op (.bin .eql (e 6) (.int .i64 3)) fun t8 =>
 .op (.mv t8) fun t7 =>
 .done (e.upd 7 t7)
def c74_r3 (e : Env) : Reg :=
 .op (.mv (.int .i64 46)) fun t4 =>
 .done (e.upd 4 t4)
def c74_r4 (e : Env) : Reg :=
 .op (.bin .eql (e 6) (.int .i64 4)) fun t10 =>
 .op (.mv t10) fun t9 =>
 .done (e.upd 9 t9)
def c74_r5 (e : Env) : Reg :=
 .op (.fieldAddr 4 (e 2)) fun t11 =>
 .op (.load none t11) fun t12 =>
 .op (.minmax true [t12, (.int .i64 1)]) fun t13 =>
 .op (.mv (e 1)) fun t14 =>
 .op (.minmax false [t13, t14]) fun t15 =>
 .op (.bin .mul t15 (.int .i64 81)) fun t16 =>
 .op (.bin .add (.int .i64 7) t16) fun t17 =>
 .op (.mv t17) fun t4 =>
 .done (e.upd 4 t4)
def c74_r6 (e : Env) : Reg :=
 .op (.mv (.int .i64 22)) fun t4 =>
 .done (e.upd 4 t4)
def R74 := an (ro c74_r0.eq_1) <| an (ro c74_r1.eq_1) <| an (ro c74_r2.eq_1) <| an (ro c74_r3.eq_1) <| an (ro c74_r4.eq_1) <| an (ro c74_r5.eq_1) <| ro c74_r6.eq_1
def c74 : CFn := ⟨(.seq (.region c74_r0) (.seq (.seq (.region c74_r1) (.block 0 (.seq (.region c74_r2) (.cond (fun e => e 7) (.seq (.region c74_r3) .ret) (.seq (.region c74_r4) (.cond (fun e => e 9) (.seq (.region c74_r5) .ret) .skip)))))) (.seq (.region c74_r6) .ret))), [.t 4]⟩
def p74 : Pers := ⟨5, [6, 7, 9], 18, []⟩
def c75_r0 (e : Env) : Reg :=
 .op (.mv (.int .i64 0)) fun t2 =>
 .done (e.upd 2 t2)
def c75_r1 (e : Env) : Reg :=
 .op (.mv (e 0)) fun t3 =>
 .op (.mv t3) fun t2 =>
 .done (e.upd 2 t2)
def R75 := an (ro c75_r0.eq_1) <| ro c75_r1.eq_1
def c75 : CFn := ⟨(.seq (.region c75_r0) (.seq (.region c75_r1) .ret)), [.t 2]⟩
def p75 : Pers := ⟨3, [], 4, []⟩
def c76_r0 (e : Env) : Reg :=
 .op (.box 34 (e 0)) fun t1 =>
 .op (.mv (.int .i64 0)) fun t2 =>
 .done ((e.upd 1 t1).upd 2 t2)
def c76_r1_c2 (e : Env) (h2 : Heap) (h4 : Heap) (h8 : Heap) (t12 : Value) : Reg :=
 .op (.fieldAddr 5 (e 1)) fun t13 =>
 .op (.load none t13) fun t14 =>
 .chk none (some h8) (.load none t13) t14 <|
 .chk none (some h4) (.load none t13) t14 <|
 .chk none (some h2) (.load none t13) t14 <|
 .op (.bin .add t14 (.int .i64 1)) fun t15 =>
 .op (.bin .mul (.int .i64 24) t15) fun t16 =>
 .op (.bin .add t12 t16) fun t17 =>
 .op (.mv t17) fun t2 =>
 .done (e.upd 2 t2)
def c76_r1_c1 (e : Env) (h2 : Heap) (t5 : Value) (h4 : Heap) (t7 : Value) : Reg :=
 .op (.bin .add t5 t7) fun t8 =>
 .op (.fieldAddr 7 (e 1)) fun t9 =>
 .op (.load none t9) fun t10 =>
 .chk none (some h4) (.load none t9) t10 <|
 .chk none (some h2) (.load none t9) t10 <|
 .snap fun h8 =>
 .op (.call 88 [t10]) fun t11 =>
 .op (.bin .add t8 t11) fun t12 =>
 c76_r1_c2 e h2 h4 h8 t12
def c76_r1 (e : Env) : Reg :=
 .op (.fieldAddr 4 (e 1)) fun t3 =>
 .op (.load none t3) fun t4 =>
 .snap fun h2 =>
 .op (.call 86 [t4]) fun t5 =>
 .op (.load (some 9) (e 1)) fun t6 =>
 .chk none (some h2) (.load (some 9) (e 1)) t6 <|
 .snap fun h4 =>
 .op (.call 87 [t6]) fun t7 =>
 c76_r1_c1 e h2 t5 h4 t7
def R76 := an (ro c76_r0.eq_1) <| an (ro4 c76_r1_c2.eq_1) <| an (ro4 c76_r1_c1.eq_1) <| ro c76_r1.eq_1
def c76 : CFn := ⟨(.seq (.region c76_r0) (.seq (.region c76_r1) .ret)), [.t 2]⟩
def p76 : Pers := ⟨3, [], 18, []⟩
def c77_r0 (e : Env) : Reg :=
 .op (.mv (.pointer none)) fun t2 =>
 .done (e.upd 2 t2)
def c77_r1 (e : Env) : Reg :=
 .op (.mv (e 0)) fun t3 =>
 .op (.bin .lss t3 (.int .i64 1)) fun t4 =>
 .op (.mv t4) fun t5 =>
 .opg t5 false (.mv (e 0)) fun t6 =>
 .opg t5 false (.bin .gtr t6 (.int .i64 65536)) fun t7 =>
 .op (.pick t5 (.bool true) t7) fun t8 =>
 .done (e.upd 8 t8)
def c77_r2 (e : Env) : Reg :=
 .op (.mv (.pointer none)) fun t2 =>
 .done (e.upd 2 t2)
def c77_r3 (e : Env) : Reg :=
 .op (.mv (e 0)) fun t9 =>
 .op (.makeSlice 5 1 1 [(.int .u8 0)] t9 t9) fun t10 =>
 .op (.build [(.slice none 0 0), (.int .i64 0), (.int .i64 0)] [(0, 1, t10)]) fun t11 =>
 .op (.box 188 t11) fun t12 =>
 .op (.mv t12) fun t2 =>
 .done (e.upd 2 t2)
def R77 := an (ro c77_r0.eq_1) <| an (ro c77_r1.eq_1) <| an (ro c77_r2.eq_1) <| ro c77_r3.eq_1
def c77 : CFn := ⟨(.seq (.region c77_r0) (.seq (.seq (.region c77_r1) (.cond (fun e => e 8) (.seq (.region c77_r2) .ret) .skip)) (.seq (.region c77_r3) .ret))), [.t 2]⟩
def p77 : Pers := ⟨3, [8], 13, []⟩
def c78_r0 (e : Env) : Reg :=
 .op (.mv (.slice none 0 0)) fun t4 =>
 .done (e.upd 4 t4)
def c78_r1 (e : Env) : Reg :=
 .op (.mv (.slice none 0 0)) fun t5 =>
 .done (e.upd 5 t5)
def c78_r2 (e : Env) : Reg :=
 .op (.mv (e 1)) fun t7 =>
 .op (.minmax true [t7, (.int .i64 0)]) fun t8 =>
 .op (.minmax false [t8, (.int .i64 9)]) fun t9 =>
 .op (.mv (.int .i64 0)) fun t10 =>
 .done ((e.upd 9 t9).upd 10 t10)
def c78_r3 (e : Env) : Reg :=
 .op (.bin .lss (e 10) (e 9)) fun t11 =>
 .done (e.upd 11 t11)
def c78_r4 (e : Env) : Reg :=
 .op (.mv (e 10)) fun t12 =>
 .op (.mv t12) fun t6 =>
 .done (e.upd 6 t6)
def c78_r5_c2 (e : Env) (t13 : Value) (t17 : Value) (t22 : Value) (t28 : Value) : Reg :=
 .op (.build [(.int .u64 0), (.int .u64 0), (.int .u64 0)] [(0, 1, t17), (1, 1, t22), (2, 1, t28)]) fun t29 =>
 .op (.buildSlice 182 1 [(.int .u64 0), (.int .u64 0), (.int .u64 0)] [(0, 3, t29)]) fun t30 =>
 .op (.append 182 3 24 t13 t30) fun t31 =>
 .op (.mv t31) fun t5 =>
 .done (e.upd 5 t5)
def c78_r5_c1 (e : Env) (t13 : Value) (t17 : Value) (t18 : Value) (t20 : Value) : Reg :=
 .op (.bin .add t20 (.int .i64 1)) fun t21 =>
 .op (.call 89 [t18, t21]) fun t22 =>
 .op (.mv (e 0)) fun t23 =>
 .op (.mv (e 6)) fun t24 =>
 .op (.bin .mul (.int .i64 3) t24) fun t25 =>
 .op (.bin .add t25 (.int .i64 2)) fun t26 =>
 .op (.call 91 [t23, t26]) fun t27 =>
 .op (.call 90 [t27]) fun t28 =>
 c78_r5_c2 e t13 t17 t22 t28
def c78_r5 (e : Env) : Reg :=
 .op (.mv (e 5)) fun t13 =>
 .op (.mv (e 0)) fun t14 =>
 .op (.mv (e 6)) fun t15 =>
 .op (.bin .mul (.int .i64 3) t15) fun t16 =>
 .op (.call 89 [t14, t16]) fun t17 =>
 .op (.mv (e 0)) fun t18 =>
 .op (.mv (e 6)) fun t19 =>
 .op (.bin .mul (.int .i64 3) t19) fun t20 =>
 c78_r5_c1 e t13 t17 t18 t20
def c78_r6 (e : Env) : Reg :=
 .op (.bin .add (e 10) (.int .i64 1)) fun t32 =>
 .op (.mv t32) fun t10 =>
 .done (e.upd 10 t10)
def c78_l0 : CC := (.seq (.region c78_r3) (.seq (.cond (fun e => e 11) .skip (.exit 0)) (.seq (.block 1 (.seq (.region c78_r4) (.region c78_r5))) (.region c78_r6))))
def c78_r7 (e : Env) : Reg :=
 .op (.mv (e 5)) fun t33 =>
 .op (.mv t33) fun t4 =>
 .done (e.upd 4 t4)
def R78 := an (ro c78_r0.eq_1) <| an (ro c78_r1.eq_1) <| an (ro c78_r2.eq_1) <| an (ro c78_r3.eq_1) <| an (ro c78_r4.eq_1) <| an (ro4 c78_r5_c2.eq_1) <| an (ro4 c78_r5_c1.eq_1) <| an (ro c78_r5.eq_1) <| an (ro c78_r6.eq_1) <| ro c78_r7.eq_1
def c78 : CFn := ⟨(.seq (.region c78_r0) (.seq (.region c78_r1) (.seq (.seq (.region c78_r2) (.block 0 (.loop c78_l0))) (.seq (.region c78_r7) .ret)))), [.t 4]⟩
def p78 : Pers := ⟨7, [9, 10, 11], 34, []⟩
def c79_r0 (e : Env) : Reg :=
 .op (.box 34 (e 0)) fun t1 =>
 .op (.alloc 126 [(.int .i64 0), (.int .i64 0), (.int .i64 0), (.int .i64 0)]) fun t2 =>
 .done ((e.upd 1 t1).upd 2 t2)
def c79_r1_c2 (e : Env) (h8 : Heap) (t11 : Value) (t13 : Value) (t15 : Value) : Reg :=
 .op (.fieldAddr 0 (e 1)) fun t16 =>
 .op (.load none t16) fun t17 =>
 .chk none (some h8) (.load none t16) t17 <|
 .op (.build [(.int .i64 0), (.int .i64 0), (.int .i64 0), (.int .i64 0)] [(0, 1, t11), (1, 1, t13), (2, 1, t15), (3, 1, t17)]) fun t18 =>
 .snap fun h16 =>
 .op (.store 4 (e 2) t18) fun _ =>
 .done e
def c79_r1_c1 (e : Env) (t4 : Value) (t10 : Value) : Reg :=
 .snap fun h8 =>
 .op (.call 73 [t4, t10]) fun t11 =>
 .op (.fieldAddr 1 (e 1)) fun t12 =>
 .op (.load none t12) fun t13 =>
 .chk none (some h8) (.load none t12) t13 <|
 .op (.fieldAddr 2 (e 1)) fun t14 =>
 .op (.load none t14) fun t15 =>
 .chk none (some h8) (.load none t14) t15 <|
 c79_r1_c2 e h8 t11 t13 t15
def c79_r1 (e : Env) : Reg :=
 .op (.fieldAddr 1 (e 1)) fun t3 =>
 .op (.load none t3) fun t4 =>
 .op (.fieldAddr 0 (e 1)) fun t5 =>
 .op (.load none t5) fun t6 =>
 .op (.bin .add t6 (.int .i64 1)) fun t7 =>
 .op (.fieldAddr 2 (e 1)) fun t8 =>
 .op (.load none t8) fun t9 =>
 .op (.bin .sub t7 t9) fun t10 =>
 c79_r1_c1 e t4 t10
def R79 := an (ro c79_r0.eq_1) <| an (ro4 c79_r1_c2.eq_1) <| an (ro2 c79_r1_c1.eq_1) <| ro c79_r1.eq_1
def c79 : CFn := ⟨(.seq (.region c79_r0) (.seq (.region c79_r1) .ret)), [.c 2 (some 4)]⟩
def p79 : Pers := ⟨3, [], 19, []⟩
def c80_r0 (e : Env) : Reg :=
 .op (.box 182 (e 1)) fun t3 =>
 .op (.mv (.pointer none)) fun t4 =>
 .done ((e.upd 3 t3).upd 4 t4)
def c80_r1 (e : Env) : Reg :=
 .op (.mv (e 0)) fun t6 =>
 .op (.bin .lss t6 (.int .i64 1)) fun t7 =>
 .op (.mv t7) fun t8 =>
 .opg t8 false (.mv (e 0)) fun t9 =>
 .opg t8 false (.bin .gtr t9 (.int .i64 1024)) fun t10 =>
 .op (.pick t8 (.bool true) t10) fun t11 =>
 .done (e.upd 11 t11)
def c80_r2 (e : Env) : Reg :=
 .op (.mv (.pointer none)) fun t4 =>
 .done (e.upd 4 t4)
def c80_r3 (e : Env) : Reg :=
 .op (.mv (e 0)) fun t12 =>
 .snap fun h1 =>
 .op (.call 92 [t12]) fun t13 =>
 .op (.mv (e 0)) fun t14 =>
 .op (.makeSlice 250 4 32 [(.int .i64 0), (.int .i64 0), (.int .i64 0), (.int .i64 0)] t14 t14) fun t15 =>
 .op (.build [(.pointer none), (.pointer none), (.slice none 0 0)] [(0, 1, t13), (2, 1, t15)]) fun t16 =>
 .op (.box 165 t16) fun t17 =>
 .op (.mv t17) fun t5 =>
 .done (e.upd 5 t5)
def c80_r4_c1 (e : Env) (t18 : Value) (t24 : Value) : Reg :=
 .op (.nilCheck t18) fun t25 =>
 .op (.fieldAddr 1 t25) fun t26 =>
 .snap fun h9 =>
 .op (.store 1 t26 t24) fun _ =>
 .done e
def c80_r4 (e : Env) : Reg :=
 .op (.mv (e 5)) fun t18 =>
 .op (.mv (e 5)) fun t19 =>
 .op (.nilCheck t19) fun t20 =>
 .op (.fieldAddr 0 t20) fun t21 =>
 .op (.load none t21) fun t22 =>
 .op (.load (some 3) (e 3)) fun t23 =>
 .snap fun h6 =>
 .op (.call 93 [t22, t23]) fun t24 =>
 c80_r4_c1 e t18 t24
def c80_r5 (e : Env) : Reg :=
 .op (.mv (e 5)) fun t27 =>
 .op (.mv t27) fun t4 =>
 .done (e.upd 4 t4)
def R80 := an (ro c80_r0.eq_1) <| an (ro c80_r1.eq_1) <| an (ro c80_r2.eq_1) <| an (ro c80_r3.eq_1) <| an (ro2 c80_r4_c1.eq_1) <| an (ro c80_r4.eq_1) <| ro c80_r5.eq_1
def c80 : CFn := ⟨(.seq (.region c80_r0) (.seq (.seq (.region c80_r1) (.cond (fun e => e 11) (.seq (.region c80_r2) .ret) .skip)) (.seq (.region c80_r3) (.seq (.region c80_r4) (.seq (.region c80_r5) .ret))))), [.t 4]⟩
def p80 : Pers := ⟨6, [11], 28, []⟩
def c81_r0 (e : Env) : Reg :=
 .op (.box 34 (e 0)) fun t2 =>
 .op (.mv (.pointer none)) fun t4 =>
 .done ((e.upd 2 t2).upd 4 t4)
def c81_r1_c2 (e : Env) (t22 : Value) : Reg :=
 .op (.mv t22) fun t23 =>
 .opg t23 false (.mv (e 1)) fun t24 =>
 .opg t23 false (.lenSl t24) fun t25 =>
 .opg t23 false (.bin .eql t25 (.int .i64 0)) fun t26 =>
 .op (.pick t23 (.bool true) t26) fun t27 =>
 .op (.mv t27) fun t28 =>
 .opg t28 false (.fieldAddr 6 (e 2)) fun t29 =>
 .opg t28 false (.load none t29) fun t30 =>
 .opg t28 false (.bin .lss t30 (.int .i64 1)) fun t31 =>
 .op (.pick t28 (.bool true) t31) fun t32 =>
 .done (e.upd 32 t32)
def c81_r1_c1 (e : Env) (t14 : Value) : Reg :=
 .op (.mv t14) fun t15 =>
 .opg t15 false (.fieldAddr 1 (e 2)) fun t16 =>
 .opg t15 false (.load none t16) fun t17 =>
 .opg t15 false (.fieldAddr 3 (e 2)) fun t18 =>
 .opg t15 false (.load none t18) fun t19 =>
 .opg t15 false (.bin .quo t17 t19) fun t20 =>
 .opg t15 false (.bin .lss t20 (.int .i64 1)) fun t21 =>
 .op (.pick t15 (.bool true) t21) fun t22 =>
 c81_r1_c2 e t22
def c81_r1 (e : Env) : Reg :=
 .op (.fieldAddr 3 (e 2)) fun t7 =>
 .op (.load none t7) fun t8 =>
 .op (.bin .lss t8 (.int .i64 1)) fun t9 =>
 .op (.mv t9) fun t10 =>
 .opg t10 false (.fieldAddr 3 (e 2)) fun t11 =>
 .opg t10 false (.load none t11) fun t12 =>
 .opg t10 false (.bin .gtr t12 (.int .i64 64)) fun t13 =>
 .op (.pick t10 (.bool true) t13) fun t14 =>
 c81_r1_c1 e t14
def c81_r2 (e : Env) : Reg :=
 .op (.mv (.pointer none)) fun t4 =>
 .done (e.upd 4 t4)
def c81_r3_c2 (e : Env) (t36 : Value) (t40 : Value) (t45 : Value) (t47 : Value) (t48 : Value) : Reg :=
 .op (.load none t48) fun t49 =>
 .op (.fieldAddr 8 (e 2)) fun t50 =>
 .op (.load none t50) fun t51 =>
 .op (.build [(.slice none 0 0), (.slice none 0 0), (.int .i64 0), (.int .i64 0), (.int .i64 0), (.bool false), (.int .i64 0)] [(0, 1, t36), (1, 1, t40), (2, 1, t45), (3, 1, t47), (4, 1, t49), (5, 1, t51)]) fun t52 =>
 .op (.box 201 t52) fun t53 =>
 .op (.mv t53) fun t5 =>
 .done (e.upd 5 t5)
def c81_r3_c1 (e : Env) (t36 : Value) (t40 : Value) : Reg :=
 .op (.fieldAddr 1 (e 2)) fun t41 =>
 .op (.load none t41) fun t42 =>
 .op (.fieldAddr 3 (e 2)) fun t43 =>
 .op (.load none t43) fun t44 =>
 .op (.bin .quo t42 t44) fun t45 =>
 .op (.mv (e 1)) fun t46 =>
 .op (.lenSl t46) fun t47 =>
 .op (.fieldAddr 0 (e 2)) fun t48 =>
 c81_r3_c2 e t36 t40 t45 t47 t48
def c81_r3 (e : Env) : Reg :=
 .op (.fieldAddr 3 (e 2)) fun t33 =>
 .op (.load none t33) fun t34 =>
 .op (.bin .add t34 (.int .i64 1)) fun t35 =>
 .op (.makeSlice 202 1 8 [(.pointer none)] t35 t35) fun t36 =>
 .op (.fieldAddr 3 (e 2)) fun t37 =>
 .op (.load none t37) fun t38 =>
 .op (.bin .add t38 (.int .i64 1)) fun t39 =>
 .op (.makeSlice 2 1 8 [(.int .i64 0)] t39 t39) fun t40 =>
 c81_r3_c1 e t36 t40
def c81_r4 (e : Env) : Reg :=
 .op (.mv (e 5)) fun t54 =>
 .op (.nilCheck t54) fun t55 =>
 .op (.fieldAddr 0 t55) fun t56 =>
 .op (.load none t56) fun t57 =>
 .op (.lenSl t57) fun t58 =>
 .op (.mv (.int .i64 0)) fun t59 =>
 .done ((e.upd 58 t58).upd 59 t59)
def c81_r5 (e : Env) : Reg :=
 .op (.bin .lss (e 59) (e 58)) fun t60 =>
 .done (e.upd 60 t60)
def c81_r6 (e : Env) : Reg :=
 .op (.mv (e 59)) fun t61 =>
 .op (.mv t61) fun t6 =>
 .done (e.upd 6 t6)
def c81_r7_c1 (e : Env) (t64 : Value) (t65 : Value) (t66 : Value) (t67 : Value) (t69 : Value) : Reg :=
 .snap fun h8 =>
 .op (.call 94 [t67, t69]) fun t70 =>
 .chk none none (.load none t64) t65 <|
 .op (.indexSl 1 t65 t66) fun t71 =>
 .snap fun h10 =>
 .op (.store 1 t71 t70) fun _ =>
 .done e
def c81_r7 (e : Env) : Reg :=
 .op (.mv (e 5)) fun t62 =>
 .op (.nilCheck t62) fun t63 =>
 .op (.fieldAddr 0 t63) fun t64 =>
 .op (.load none t64) fun t65 =>
 .op (.mv (e 6)) fun t66 =>
 .op (.mv (e 1)) fun t67 =>
 .op (.fieldAddr 6 (e 2)) fun t68 =>
 .op (.load none t68) fun t69 =>
 c81_r7_c1 e t64 t65 t66 t67 t69
def c81_r8 (e : Env) : Reg :=
 .op (.bin .add (e 59) (.int .i64 1)) fun t72 =>
 .op (.mv t72) fun t59 =>
 .done (e.upd 59 t59)
def c81_l0 : CC := (.seq (.region c81_r5) (.seq (.cond (fun e => e 60) .skip (.exit 0)) (.seq (.block 1 (.seq (.region c81_r6) (.region c81_r7))) (.region c81_r8))))
def c81_r9 (e : Env) : Reg :=
 .op (.mv (e 5)) fun t73 =>
 .op (.mv t73) fun t4 =>
 .done (e.upd 4 t4)
def R81 := an (ro c81_r0.eq_1) <| an (ro1 c81_r1_c2.eq_1) <| an (ro1 c81_r1_c1.eq_1) <| an (ro c81_r1.eq_1) <| an (ro c81_r2.eq_1) <| an (ro5 c81_r3_c2.eq_1) <| an (ro2 c81_r3_c1.eq_1) <| an (ro c81_r3.eq_1) <| an (ro c81_r4.eq_1) <| an (ro c81_r5.eq_1) <| an (ro c81_r6.eq_1) <| an (ro5 c81_r7_c1.eq_1) <| an (ro c81_r7.eq_1) <| an (ro c81_r8.eq_1) <| ro c81_r9.eq_1
def c81 : CFn := ⟨(.seq (.region c81_r0) (.seq (.seq (.region c81_r1) (.cond (fun e => e 32) (.seq (.region c81_r2) .ret) .skip)) (.seq (.region c81_r3) (.seq (.seq (.region c81_r4) (.block 0 (.loop c81_l0))) (.seq (.region c81_r9) .ret))))), [.t 4]⟩
def p81 : Pers := ⟨7, [32, 58, 59, 60], 74, []⟩
def c82_r0 (e : Env) : Reg :=
 .op (.box 182 (e 1)) fun t3 =>
 .op (.mv (.pointer none)) fun t4 =>
 .done ((e.upd 3 t3).upd 4 t4)
def c82_r1 (e : Env) : Reg :=
 .op (.mv (e 0)) fun t6 =>
 .op (.bin .lss t6 (.int .i64 1)) fun t7 =>
 .op (.mv t7) fun t8 =>
 .opg t8 false (.mv (e 0)) fun t9 =>
 .opg t8 false (.bin .gtr t9 (.int .i64 64)) fun t10 =>
 .op (.pick t8 (.bool true) t10) fun t11 =>
 .done (e.upd 11 t11)
def c82_r2 (e : Env) : Reg :=
 .op (.mv (.pointer none)) fun t4 =>
 .done (e.upd 4 t4)
def c82_r3_c1 (e : Env) (t13 : Value) (t15 : Value) (t17 : Value) (t18 : Value) : Reg :=
 .op (.makeSlice 21 1 4 [(.int .i32 0)] t18 t18) fun t19 =>
 .op (.mv (e 0)) fun t20 =>
 .op (.makeSlice 21 1 4 [(.int .i32 0)] t20 t20) fun t21 =>
 .op (.build [(.pointer none), (.pointer none), (.slice none 0 0), (.slice none 0 0), (.slice none 0 0), (.slice none 0 0), (.int .i64 0)] [(0, 1, t13), (2, 1, t15), (3, 1, t17), (4, 1, t19), (5, 1, t21)]) fun t22 =>
 .op (.box 169 t22) fun t23 =>
 .op (.mv t23) fun t5 =>
 .done (e.upd 5 t5)
def c82_r3 (e : Env) : Reg :=
 .op (.mv (e 0)) fun t12 =>
 .snap fun h1 =>
 .op (.call 92 [t12]) fun t13 =>
 .op (.mv (e 0)) fun t14 =>
 .op (.makeSlice 2 1 8 [(.int .i64 0)] t14 t14) fun t15 =>
 .op (.mv (e 0)) fun t16 =>
 .op (.makeSlice 2 1 8 [(.int .i64 0)] t16 t16) fun t17 =>
 .op (.mv (e 0)) fun t18 =>
 c82_r3_c1 e t13 t15 t17 t18
def c82_r4_c1 (e : Env) (t24 : Value) (t30 : Value) : Reg :=
 .op (.nilCheck t24) fun t31 =>
 .op (.fieldAddr 1 t31) fun t32 =>
 .snap fun h9 =>
 .op (.store 1 t32 t30) fun _ =>
 .done e
def c82_r4 (e : Env) : Reg :=
 .op (.mv (e 5)) fun t24 =>
 .op (.mv (e 5)) fun t25 =>
 .op (.nilCheck t25) fun t26 =>
 .op (.fieldAddr 0 t26) fun t27 =>
 .op (.load none t27) fun t28 =>
 .op (.load (some 3) (e 3)) fun t29 =>
 .snap fun h6 =>
 .op (.call 93 [t28, t29]) fun t30 =>
 c82_r4_c1 e t24 t30
def c82_r5 (e : Env) : Reg :=
 .op (.mv (e 5)) fun t33 =>
 .op (.mv t33) fun t4 =>
 .done (e.upd 4 t4)
def R82 := an (ro c82_r0.eq_1) <| an (ro c82_r1.eq_1) <| an (ro c82_r2.eq_1) <| an (ro4 c82_r3_c1.eq_1) <| an (ro c82_r3.eq_1) <| an (ro2 c82_r4_c1.eq_1) <| an (ro c82_r4.eq_1) <| ro c82_r5.eq_1
def c82 : CFn := ⟨(.seq (.region c82_r0) (.seq (.seq (.region c82_r1) (.cond (fun e => e 11) (.seq (.region c82_r2) .ret) .skip)) (.seq (.region c82_r3) (.seq (.region c82_r4) (.seq (.region c82_r5) .ret))))), [.t 4]⟩
def p82 : Pers := ⟨6, [11], 34, []⟩
def c83_r0 (e : Env) : Reg :=
 .op (.mv (.int .i64 0)) fun t2 =>
 .done (e.upd 2 t2)
def c83_r1 (e : Env) : Reg :=
 .op (.mv (e 0)) fun t3 =>
 .op (.eqK .ptr false t3 (.pointer none)) fun t4 =>
 .done (e.upd 4 t4)
def c83_r2 (e : Env) : Reg :=
 .op (.mv (.int .i64 0)) fun t2 =>
 .done (e.upd 2 t2)
def c83_r3 (e : Env) : Reg :=
 .op (.mv (e 0)) fun t5 =>
 .op (.nilCheck t5) fun t6 =>
 .op (.fieldAddr 2 t6) fun t7 =>
 .op (.load none t7) fun t8 =>
 .op (.mv t8) fun t2 =>
 .done (e.upd 2 t2)
def R83 := an (ro c83_r0.eq_1) <| an (ro c83_r1.eq_1) <| an (ro c83_r2.eq_1) <| ro c83_r3.eq_1
def c83 : CFn := ⟨(.seq (.region c83_r0) (.seq (.seq (.region c83_r1) (.cond (fun e => e 4) (.seq (.region c83_r2) .ret) .skip)) (.seq (.region c83_r3) .ret))), [.t 2]⟩
def p83 : Pers := ⟨3, [4], 9, []⟩
def c84_r0 (e : Env) : Reg :=
 .op (.mv (.int .i64 0)) fun t4 =>
 .done (e.upd 4 t4)
def c84_r1 (e : Env) : Reg :=
 .op (.mv (e 0)) fun t8 =>
 .op (.lenSl t8) fun t9 =>
 .op (.mv (.int .i64 0)) fun t10 =>
 .done (((e.upd 8 t8).upd 9 t9).upd 10 t10)
def c84_r2 (e : Env) : Reg :=
 .op (.bin .lss (e 10) (e 9)) fun t11 =>
 .done (e.upd 11 t11)
def c84_r3 (e : Env) : Reg :=
 .op (.mv (e 10)) fun t12 =>
 .op (.indexSl 1 (e 8) (e 10)) fun t13 =>
 .op (.load none t13) fun t14 =>
 .op (.mv t12) fun t5 =>
 .op (.mv t14) fun t6 =>
 .done ((e.upd 5 t5).upd 6 t6)
def c84_r4_c1 (e : Env) (t17 : Value) (t18 : Value) (t22 : Value) : Reg :=
 .opg t17 true (.bin .add (.int .i64 4) t22) fun t23 =>
 .opg t17 true (.bin .geq t18 t23) fun t24 =>
 .op (.pick t17 t24 (.bool false)) fun t25 =>
 .done (e.upd 25 t25)
def c84_r4 (e : Env) : Reg :=
 .op (.mv (e 5)) fun t15 =>
 .op (.bin .geq t15 (.int .i64 4)) fun t16 =>
 .op (.mv t16) fun t17 =>
 .opg t17 true (.mv (e 5)) fun t18 =>
 .opg t17 true (.mv (e 0)) fun t19 =>
 .opg t17 true (.indexSl 1 t19 (.int .i64 3)) fun t20 =>
 .opg t17 true (.load none t20) fun t21 =>
 .opg t17 true (.conv .i64 t21) fun t22 =>
 c84_r4_c1 e t17 t18 t22
def c84_r5 (e : Env) : Reg :=
 .op (.mv (e 0)) fun t26 =>
 .op (.mv (e 5)) fun t27 =>
 .op (.mv (e 6)) fun t28 =>
 .op (.mv (e 1)) fun t29 =>
 .op (.call 95 [t26, t27, t28, t29]) fun t30 =>
 .op (.mv t30) fun t7 =>
 .done (e.upd 7 t7)
def c84_r6 (e : Env) : Reg :=
 .op (.mv (e 7)) fun t31 =>
 .op (.bin .neq t31 (.int .i64 0)) fun t32 =>
 .done (e.upd 32 t32)
def c84_r7 (e : Env) : Reg :=
 .op (.mv (e 7)) fun t33 =>
 .op (.mv t33) fun t4 =>
 .done (e.upd 4 t4)
def c84_r8 (e : Env) : Reg :=
 .op (.bin .add (e 10) (.int .i64 1)) fun t34 =>
 .op (.mv t34) fun t10 =>
 .done (e.upd 10 t10)
def c84_l0 : CC := (.seq (.region c84_r2) (.seq (.cond (fun e => e 11) .skip (.exit 0)) (.seq (.block 1 (.seq (.region c84_r3) (.seq (.seq (.region c84_r4) (.cond (fun e => e 25) (.exit 0) .skip)) (.seq (.region c84_r5) (.seq (.region c84_r6) (.cond (fun e => e 32) (.seq (.region c84_r7) .ret) .skip)))))) (.region c84_r8))))
def c84_r9 (e : Env) : Reg :=
 .op (.mv (.int .i64 0)) fun t4 =>
 .done (e.upd 4 t4)
def R84 := an (ro c84_r0.eq_1) <| an (ro c84_r1.eq_1) <| an (ro c84_r2.eq_1) <| an (ro c84_r3.eq_1) <| an (ro3 c84_r4_c1.eq_1) <| an (ro c84_r4.eq_1) <| an (ro c84_r5.eq_1) <| an (ro c84_r6.eq_1) <| an (ro c84_r7.eq_1) <| an (ro c84_r8.eq_1) <| ro c84_r9.eq_1
def c84 : CFn := ⟨(.seq (.region c84_r0) (.seq (.seq (.region c84_r1) (.block 0 (.loop c84_l0))) (.seq (.region c84_r9) .ret))), [.t 4]⟩
def p84 : Pers := ⟨8, [8, 9, 10, 11, 25, 32], 35, []⟩
def c85_r0 (e : Env) : Reg :=
 .op (.mv (.int .u64 0)) fun t4 =>
 .op (.mv (.int .u64 0)) fun t5 =>
 .done ((e.upd 4 t4).upd 5 t5)
def c85_r1 (e : Env) : Reg :=
 .op (.mv (e 0)) fun t14 =>
 .op (.bin .and t14 (.int .u64 4294967295)) fun t15 =>
 .op (.mv t15) fun t6 =>
 .done (e.upd 6 t6)
def c85_r2 (e : Env) : Reg :=
 .op (.mv (e 0)) fun t16 =>
 .op (.bin .shr t16 (.int .u64 32)) fun t17 =>
 .op (.mv t17) fun t7 =>
 .done (e.upd 7 t7)
def c85_r3 (e : Env) : Reg :=
 .op (.mv (e 1)) fun t18 =>
 .op (.bin .and t18 (.int .u64 4294967295)) fun t19 =>
 .op (.mv t19) fun t8 =>
 .done (e.upd 8 t8)
def c85_r4 (e : Env) : Reg :=
 .op (.mv (e 1)) fun t20 =>
 .op (.bin .shr t20 (.int .u64 32)) fun t21 =>
 .op (.mv t21) fun t9 =>
 .done (e.upd 9 t9)
def c85_r5 (e : Env) : Reg :=
 .op (.mv (e 6)) fun t22 =>
 .op (.mv (e 8)) fun t23 =>
 .op (.bin .mul t22 t23) fun t24 =>
 .op (.mv t24) fun t10 =>
 .done (e.upd 10 t10)
def c85_r6 (e : Env) : Reg :=
 .op (.mv (e 7)) fun t25 =>
 .op (.mv (e 8)) fun t26 =>
 .op (.bin .mul t25 t26) fun t27 =>
 .op (.mv (e 10)) fun t28 =>
 .op (.bin .shr t28 (.int .u64 32)) fun t29 =>
 .op (.bin .add t27 t29) fun t30 =>
 .op (.mv t30) fun t11 =>
 .done (e.upd 11 t11)
def c85_r7 (e : Env) : Reg :=
 .op (.mv (e 11)) fun t31 =>
 .op (.bin .and t31 (.int .u64 4294967295)) fun t32 =>
 .op (.mv t32) fun t12 =>
 .done (e.upd 12 t12)
def c85_r8 (e : Env) : Reg :=
 .op (.mv (e 11)) fun t33 =>
 .op (.bin .shr t33 (.int .u64 32)) fun t34 =>
 .op (.mv t34) fun t13 =>
 .done (e.upd 13 t13)
def c85_r9 (e : Env) : Reg :=
 .op (.mv (e 12)) fun t35 =>
 .op (.mv (e 6)) fun t36 =>
 .op (.mv (e 9)) fun t37 =>
 .op (.bin .mul t36 t37) fun t38 =>
 .op (.bin .add t35 t38) fun t39 =>
 .op (.mv t39) fun t12 =>
 .done (e.upd 12 t12)
def c85_r10 (e : Env) : Reg :=
 .op (.mv (e 7)) fun t40 =>
 .op (.mv (e 9)) fun t41 =>
 .op (.bin .mul t40 t41) fun t42 =>
 .op (.mv (e 13)) fun t43 =>
 .op (.bin .add t42 t43) fun t44 =>
 .op (.mv (e 12)) fun t45 =>
 .op (.bin .shr t45 (.int .u64 32)) fun t46 =>
 .op (.bin .add t44 t46) fun t47 =>
 .op (.mv t47) fun t4 =>
 .done (e.upd 4 t4)
def c85_r11 (e : Env) : Reg :=
 .op (.mv (e 0)) fun t48 =>
 .op (.mv (e 1)) fun t49 =>
 .op (.bin .mul t48 t49) fun t50 =>
 .op (.mv t50) fun t5 =>
 .done (e.upd 5 t5)
def R85 := an (ro c85_r0.eq_1) <| an (ro c85_r1.eq_1) <| an (ro c85_r2.eq_1) <| an (ro c85_r3.eq_1) <| an (ro c85_r4.eq_1) <| an (ro c85_r5.eq_1) <| an (ro c85_r6.eq_1) <| an (ro c85_r7.eq_1) <| an (ro c85_r8.eq_1) <| an (ro c85_r9.eq_1) <| an (ro c85_r10.eq_1) <| ro c85_r11.eq_1
def c85 : CFn := ⟨(.seq (.region c85_r0) (.seq (.region c85_r1) (.seq (.region c85_r2) (.seq (.region c85_r3) (.seq (.region c85_r4) (.seq (.region c85_r5) (.seq (.region c85_r6) (.seq (.region c85_r7) (.seq (.region c85_r8) (.seq (.region c85_r9) (.seq (.region c85_r10) (.seq (.region c85_r11) .ret)))))))))))), [.t 4, .t 5]⟩
def p85 : Pers := ⟨14, [], 51, []⟩
def c86_r0 (e : Env) : Reg :=
 .op (.mv (.int .i64 0)) fun t2 =>
 .done (e.upd 2 t2)
def c86_r1 (e : Env) : Reg :=
 .op (.mv (e 0)) fun t3 =>
 .op (.call 96 [t3]) fun t4 =>
 .op (.mv (e 0)) fun t5 =>
 .op (.call 97 [t5]) fun t6 =>
 .op (.bin .add t4 t6) fun t7 =>
 .op (.mv (e 0)) fun t8 =>
 .op (.bin .mul (.int .i64 32) t8) fun t9 =>
 .op (.bin .add t7 t9) fun t10 =>
 .op (.mv t10) fun t2 =>
 .done (e.upd 2 t2)
def R86 := an (ro c86_r0.eq_1) <| ro c86_r1.eq_1
def c86 : CFn := ⟨(.seq (.region c86_r0) (.seq (.region c86_r1) .ret)), [.t 2]⟩
def p86 : Pers := ⟨3, [], 11, []⟩
def c87_r0 (e : Env) : Reg :=
 .op (.box 34 (e 0)) fun t1 =>
 .op (.mv (.int .i64 0)) fun t2 =>
 .done ((e.upd 1 t1).upd 2 t2)
def c87_r1 (e : Env) : Reg :=
 .op (.fieldAddr 3 (e 1)) fun t4 =>
 .op (.load none t4) fun t5 =>
 .op (.bin .add t5 (.int .i64 1)) fun t6 =>
 .op (.mv t6) fun t3 =>
 .done (e.upd 3 t3)
def c87_r2 (e : Env) : Reg :=
 .op (.mv (e 3)) fun t7 =>
 .op (.fieldAddr 5 (e 1)) fun t8 =>
 .op (.load none t8) fun t9 =>
 .op (.fieldAddr 6 (e 1)) fun t10 =>
 .op (.load none t10) fun t11 =>
 .op (.call 98 [t9, t11]) fun t12 =>
 .op (.bin .add (.int .i64 16) t12) fun t13 =>
 .op (.bin .mul t7 t13) fun t14 =>
 .op (.mv t14) fun t2 =>
 .done (e.upd 2 t2)
def R87 := an (ro c87_r0.eq_1) <| an (ro c87_r1.eq_1) <| ro c87_r2.eq_1
def c87 : CFn := ⟨(.seq (.region c87_r0) (.seq (.region c87_r1) (.seq (.region c87_r2) .ret))), [.t 2]⟩
def p87 : Pers := ⟨4, [], 15, []⟩
def c88_r0 (e : Env) : Reg :=
 .op (.mv (.int .i64 0)) fun t2 =>
 .done (e.upd 2 t2)
def c88_r1 (e : Env) : Reg :=
 .op (.mv (e 0)) fun t3 =>
 .op (.call 96 [t3]) fun t4 =>
 .op (.mv (e 0)) fun t5 =>
 .op (.call 97 [t5]) fun t6 =>
 .op (.bin .add t4 t6) fun t7 =>
 .op (.mv (e 0)) fun t8 =>
 .op (.bin .mul t8 (.int .i64 24)) fun t9 =>
 .op (.bin .add t7 t9) fun t10 =>
 .op (.mv t10) fun t2 =>
 .done (e.upd 2 t2)
def R88 := an (ro c88_r0.eq_1) <| ro c88_r1.eq_1
def c88 : CFn := ⟨(.seq (.region c88_r0) (.seq (.region c88_r1) .ret)), [.t 2]⟩
def p88 : Pers := ⟨3, [], 11, []⟩
def c89_r0 (e : Env) : Reg :=
 .op (.mv (.int .u64 0)) fun t4 =>
 .done (e.upd 4 t4)
def c89_r1 (e : Env) : Reg :=
 .op (.mv (e 0)) fun t5 =>
 .op (.mv (e 1)) fun t6 =>
 .op (.call 91 [t5, t6]) fun t7 =>
 .op (.bin .rem t7 (.int .u64 2305843009213693950)) fun t8 =>
 .op (.bin .add t8 (.int .u64 1)) fun t9 =>
 .op (.mv t9) fun t4 =>
 .done (e.upd 4 t4)
def R89 := an (ro c89_r0.eq_1) <| ro c89_r1.eq_1
def c89 : CFn := ⟨(.seq (.region c89_r0) (.seq (.region c89_r1) .ret)), [.t 4]⟩
def p89 : Pers := ⟨5, [], 10, []⟩
def c90_r0 (e : Env) : Reg :=
 .op (.mv (.int .u64 0)) fun t2 =>
 .done (e.upd 2 t2)
def c90_r1 (e : Env) : Reg :=
 .op (.mv (e 0)) fun t3 =>
 .op (.bin .shr t3 (.int .u64 61)) fun t4 =>
 .op (.mv (e 0)) fun t5 =>
 .op (.bin .and t5 (.int .u64 2305843009213693951)) fun t6 =>
 .op (.bin .add t4 t6) fun t7 =>
 .op (.mv t7) fun t0 =>
 .done (e.upd 0 t0)
def c90_r2 (e : Env) : Reg :=
 .op (.mv (e 0)) fun t8 =>
 .op (.bin .geq t8 (.int .u64 2305843009213693951)) fun t9 =>
 .done (e.upd 9 t9)
def c90_r3 (e : Env) : Reg :=
 .op (.mv (e 0)) fun t10 =>
 .op (.bin .sub t10 (.int .u64 2305843009213693951)) fun t11 =>
 .op (.mv t11) fun t0 =>
 .done (e.upd 0 t0)
def c90_r4 (e : Env) : Reg :=
 .op (.mv (e 0)) fun t12 =>
 .op (.mv t12) fun t2 =>
 .done (e.upd 2 t2)
def R90 := an (ro c90_r0.eq_1) <| an (ro c90_r1.eq_1) <| an (ro c90_r2.eq_1) <| an (ro c90_r3.eq_1) <| ro c90_r4.eq_1
def c90 : CFn := ⟨(.seq (.region c90_r0) (.seq (.region c90_r1) (.seq (.seq (.region c90_r2) (.cond (fun e => e 9) (.region c90_r3) .skip)) (.seq (.region c90_r4) .ret)))), [.t 2]⟩
def p90 : Pers := ⟨3, [9], 13, []⟩
def c91_r0 (e : Env) : Reg :=
 .op (.mv (.int .u64 0)) fun t4 =>
 .done (e.upd 4 t4)
def c91_r1 (e : Env) : Reg :=
 .op (.mv (e 1)) fun t5 =>
 .op (.mv (e 0)) fun t6 =>
 .op (.lenSl t6) fun t7 =>
 .op (.bin .geq t5 t7) fun t8 =>
 .done (e.upd 8 t8)
def c91_r2 (e : Env) : Reg :=
 .op (.mv (.int .u64 0)) fun t4 =>
 .done (e.upd 4 t4)
def c91_r3 (e : Env) : Reg :=
 .op (.mv (e 0)) fun t9 =>
 .op (.mv (e 1)) fun t10 =>
 .op (.indexSl 1 t9 t10) fun t11 =>
 .op (.load none t11) fun t12 =>
 .op (.mv t12) fun t4 =>
 .done (e.upd 4 t4)
def R91 := an (ro c91_r0.eq_1) <| an (ro c91_r1.eq_1) <| an (ro c91_r2.eq_1) <| ro c91_r3.eq_1
def c91 : CFn := ⟨(.seq (.region c91_r0) (.seq (.seq (.region c91_r1) (.cond (fun e => e 8) (.seq (.region c91_r2) .ret) .skip)) (.seq (.region c91_r3) .ret))), [.t 4]⟩
def p91 : Pers := ⟨5, [8], 13, []⟩
def c92_r0 (e : Env) : Reg :=
 .op (.mv (.pointer none)) fun t2 =>
 .done (e.upd 2 t2)
def c92_r1 (e : Env) : Reg :=
 .op (.mv (e 0)) fun t5 =>
 .op (.bin .lss t5 (.int .i64 0)) fun t6 =>
 .op (.mv t6) fun t7 =>
 .opg t7 false (.mv (e 0)) fun t8 =>
 .opg t7 false (.bin .gtr t8 (.int .i64 65536)) fun t9 =>
 .op (.pick t7 (.bool true) t9) fun t10 =>
 .done (e.upd 10 t10)
def c92_r2 (e : Env) : Reg :=
 .op (.mv (.pointer none)) fun t2 =>
 .done (e.upd 2 t2)
def c92_r3 (e : Env) : Reg :=
 .op (.mv (e 0)) fun t11 =>
 .op (.bin .mul t11 (.int .i64 64)) fun t12 =>
 .op (.makeSlice 5 1 1 [(.int .u8 0)] t12 t12) fun t13 =>
 .op (.mv (e 0)) fun t14 =>
 .op (.makeSlice 206 1 1 [(.int .i8 0)] t14 t14) fun t15 =>
 .op (.mv (e 0)) fun t16 =>
 .op (.makeSlice 21 1 4 [(.int .i32 0)] t16 t16) fun t17 =>
 .op (.build [(.slice none 0 0), (.slice none 0 0), (.slice none 0 0), (.int .i32 0), (.int .i64 0)] [(0, 1, t13), (1, 1, t15), (2, 1, t17), (3, 1, (.int .i32 (-1)))]) fun t18 =>
 .op (.box 191 t18) fun t19 =>
 .op (.mv t19) fun t3 =>
 .done (e.upd 3 t3)
def c92_r4 (e : Env) : Reg :=
 .op (.mv (e 0)) fun t20 =>
 .op (.bin .sub t20 (.int .i64 1)) fun t21 =>
 .op (.mv t21) fun t4 =>
 .done (e.upd 4 t4)
def c92_r5 (e : Env) : Reg :=
 .op (.mv (e 4)) fun t22 =>
 .op (.bin .geq t22 (.int .i64 0)) fun t23 =>
 .done (e.upd 23 t23)
def c92_r7_c2 (e : Env) (t34 : Value) (t35 : Value) (t39 : Value) (t40 : Value) : Reg :=
 .op (.store 1 t40 (.int .i8 (-1))) fun _ =>
 .op (.indexSl 1 t34 t35) fun t41 =>
 .snap fun h17 =>
 .op (.store 1 t41 t39) fun _ =>
 .done e
def c92_r7_c1 (e : Env) (t29 : Value) (t30 : Value) (t33 : Value) : Reg :=
 .op (.load none t33) fun t34 =>
 .op (.mv (e 4)) fun t35 =>
 .op (.mv (e 3)) fun t36 =>
 .op (.nilCheck t36) fun t37 =>
 .op (.fieldAddr 3 t37) fun t38 =>
 .op (.load none t38) fun t39 =>
 .op (.indexSl 1 t29 t30) fun t40 =>
 .snap fun h15 =>
 c92_r7_c2 e t34 t35 t39 t40
def c92_r7 (e : Env) : Reg :=
 .op (.mv (e 3)) fun t26 =>
 .op (.nilCheck t26) fun t27 =>
 .op (.fieldAddr 1 t27) fun t28 =>
 .op (.load none t28) fun t29 =>
 .op (.mv (e 4)) fun t30 =>
 .op (.mv (e 3)) fun t31 =>
 .op (.nilCheck t31) fun t32 =>
 .op (.fieldAddr 2 t32) fun t33 =>
 c92_r7_c1 e t29 t30 t33
def c92_r8 (e : Env) : Reg :=
 .op (.mv (e 3)) fun t42 =>
 .op (.mv (e 4)) fun t43 =>
 .op (.conv .i32 t43) fun t44 =>
 .op (.nilCheck t42) fun t45 =>
 .op (.fieldAddr 3 t45) fun t46 =>
 .op (.store 1 t46 t44) fun _ =>
 .done e
def c92_r6 (e : Env) : Reg :=
 .op (.mv (e 4)) fun t24 =>
 .op (.bin .sub t24 (.int .i64 1)) fun t25 =>
 .op (.mv t25) fun t4 =>
 .done (e.upd 4 t4)
def c92_l0 : CC := (.seq (.seq (.region c92_r5) (.cond (fun e => e 23) .skip (.exit 0))) (.seq (.block 1 (.seq (.region c92_r7) (.region c92_r8))) (.region c92_r6)))
def c92_r9 (e : Env) : Reg :=
 .op (.mv (e 3)) fun t47 =>
 .op (.mv t47) fun t2 =>
 .done (e.upd 2 t2)
def R92 := an (ro c92_r0.eq_1) <| an (ro c92_r1.eq_1) <| an (ro c92_r2.eq_1) <| an (ro c92_r3.eq_1) <| an (ro c92_r4.eq_1) <| an (ro c92_r5.eq_1) <| an (ro4 c92_r7_c2.eq_1) <| an (ro3 c92_r7_c1.eq_1) <| an (ro c92_r7.eq_1) <| an (ro c92_r8.eq_1) <| an (ro c92_r6.eq_1) <| ro c92_r9.eq_1
def c92 : CFn := ⟨(.seq (.region c92_r0) (.seq (.seq (.region c92_r1) (.cond (fun e => e 10) (.seq (.region c92_r2) .ret) .skip)) (.seq (.region c92_r3) (.seq (.seq (.region c92_r4) (.block 0 (.loop c92_l0))) (.seq (.region c92_r9) .ret))))), [.t 2]⟩
def p92 : Pers := ⟨5, [10, 23], 48, []⟩
def c93_r0 (e : Env) : Reg :=
 .op (.box 182 (e 1)) fun t3 =>
 .op (.mv (.pointer none)) fun t4 =>
 .done ((e.upd 3 t3).upd 4 t4)
def c93_r1 (e : Env) : Reg :=
 .op (.mv (e 0)) fun t5 =>
 .op (.eqK .ptr false t5 (.pointer none)) fun t6 =>
 .done (e.upd 6 t6)
def c93_r2 (e : Env) : Reg :=
 .op (.mv (.pointer none)) fun t4 =>
 .done (e.upd 4 t4)
def c93_r3_c1 (e : Env) (t7 : Value) (t8 : Value) (t11 : Value) : Reg :=
 .chk none none (.load (some 3) (e 3)) t8 <|
 .op (.makeSlice 21 1 4 [(.int .i32 0)] t11 t11) fun t12 =>
 .op (.build [(.pointer none), (.int .u64 0), (.int .u64 0), (.int .u64 0), (.slice none 0 0)] [(0, 1, t7), (1, 3, t8), (4, 1, t12)]) fun t13 =>
 .op (.box 209 t13) fun t14 =>
 .op (.mv t14) fun t4 =>
 .done (e.upd 4 t4)
def c93_r3 (e : Env) : Reg :=
 .op (.mv (e 0)) fun t7 =>
 .op (.load (some 3) (e 3)) fun t8 =>
 .op (.mv (e 0)) fun t9 =>
 .snap fun h3 =>
 .op (.call 100 [t9]) fun t10 =>
 .chk none none (.load (some 3) (e 3)) t8 <|
 .snap fun h4 =>
 .op (.call 99 [t10]) fun t11 =>
 c93_r3_c1 e t7 t8 t11
def R93 := an (ro c93_r0.eq_1) <| an (ro c93_r1.eq_1) <| an (ro c93_r2.eq_1) <| an (ro3 c93_r3_c1.eq_1) <| ro c93_r3.eq_1
def c93 : CFn := ⟨(.seq (.region c93_r0) (.seq (.seq (.region c93_r1) (.cond (fun e => e 6) (.seq (.region c93_r2) .ret) .skip)) (.seq (.region c93_r3) .ret))), [.t 4]⟩
def p93 : Pers := ⟨5, [6], 15, []⟩
def c94_r0 (e : Env) : Reg :=
 .op (.mv (.pointer none)) fun t4 =>
 .done (e.upd 4 t4)
def c94_r1 (e : Env) : Reg :=
 .op (.mv (e 0)) fun t5 =>
 .op (.lenSl t5) fun t6 =>
 .op (.bin .eql t6 (.int .i64 0)) fun t7 =>
 .op (.mv t7) fun t8 =>
 .opg t8 false (.mv (e 1)) fun t9 =>
 .opg t8 false (.bin .lss t9 (.int .i64 1)) fun t10 =>
 .op (.pick t8 (.bool true) t10) fun t11 =>
 .done (e.upd 11 t11)
def c94_r2 (e : Env) : Reg :=
 .op (.mv (.pointer none)) fun t4 =>
 .done (e.upd 4 t4)
def c94_r3 (e : Env) : Reg :=
 .op (.mv (e 0)) fun t12 =>
 .op (.mv (e 1)) fun t13 =>
 .op (.mv (e 0)) fun t14 =>
 .op (.lenSl t14) fun t15 =>
 .op (.mv (e 1)) fun t16 =>
 .op (.bin .mul t15 t16) fun t17 =>
 .op (.makeSlice 2 1 8 [(.int .i64 0)] t17 t17) fun t18 =>
 .op (.build [(.slice none 0 0), (.int .i64 0), (.slice none 0 0)] [(0, 1, t12), (1, 1, t13), (2, 1, t18)]) fun t19 =>
 .op (.box 211 t19) fun t20 =>
 .op (.mv t20) fun t4 =>
 .done (e.upd 4 t4)
def R94 := an (ro c94_r0.eq_1) <| an (ro c94_r1.eq_1) <| an (ro c94_r2.eq_1) <| ro c94_r3.eq_1
def c94 : CFn := ⟨(.seq (.region c94_r0) (.seq (.seq (.region c94_r1) (.cond (fun e => e 11) (.seq (.region c94_r2) .ret) .skip)) (.seq (.region c94_r3) .ret))), [.t 4]⟩
def p94 : Pers := ⟨5, [11], 21, []⟩
def c95_r0 (e : Env) : Reg :=
 .op (.mv (.int .i64 0)) fun t8 =>
 .done (e.upd 8 t8)
def c95_r1 (e : Env) : Reg :=
 .op (.mv (e 1)) fun t10 =>
 .op (.bin .eql t10 (.int .i64 0)) fun t11 =>
 .op (.mv t11) fun t12 =>
 .opg t12 true (.mv (e 2)) fun t13 =>
 .opg t12 true (.bin .neq t13 (.int .u8 167)) fun t14 =>
 .op (.pick t12 t14 (.bool false)) fun t15 =>
 .op (.mv t15) fun t9 =>
 .done (e.upd 9 t9)
def c95_r2 (e : Env) : Reg :=
 .op (.mv (.int .i64 5)) fun t8 =>
 .done (e.upd 8 t8)
def c95_r3 (e : Env) : Reg :=
 .op (.mv (e 1)) fun t17 =>
 .op (.bin .eql t17 (.int .i64 1)) fun t18 =>
 .op (.mv t18) fun t19 =>
 .opg t19 true (.mv (e 2)) fun t20 =>
 .opg t19 true (.bin .neq t20 (.int .u8 1)) fun t21 =>
 .op (.pick t19 t21 (.bool false)) fun t22 =>
 .op (.mv t22) fun t16 =>
 .done (e.upd 16 t16)
def c95_r4 (e : Env) : Reg :=
 .op (.mv (.int .i64 6)) fun t8 =>
 .done (e.upd 8 t8)
def c95_r5 (e : Env) : Reg :=
 .op (.mv (e 1)) fun t24 =>
 .op (.bin .eql t24 (.int .i64 2)) fun t25 =>
 .op (.mv t25) fun t26 =>
 .opg t26 true (.mv (e 2)) fun t27 =>
 .opg t26 true (.bin .neq t27 (.int .u8 0)) fun t28 =>
 .op (.pick t26 t28 (.bool false)) fun t29 =>
 .op (.mv t29) fun t23 =>
 .done (e.upd 23 t23)
def c95_r6 (e : Env) : Reg :=
 .op (.mv (.int .i64 7)) fun t8 =>
 .done (e.upd 8 t8)
def c95_r7_c2 (e : Env) (t41 : Value) (t44 : Value) (t46 : Value) : Reg :=
 .opg t41 true (.pick t44 (.bool true) t46) fun t47 =>
 .op (.pick t41 t47 (.bool false)) fun t48 =>
 .op (.mv t48) fun t30 =>
 .done (e.upd 30 t30)
def c95_r7_c1 (e : Env) (t37 : Value) (t38 : Value) : Reg :=
 .opg t37 true (.bin .neq t38 (.int .u8 3)) fun t39 =>
 .op (.pick t37 t39 (.bool false)) fun t40 =>
 .op (.mv t40) fun t41 =>
 .opg t41 true (.mv (e 2)) fun t42 =>
 .opg t41 true (.bin .lss t42 (.int .u8 7)) fun t43 =>
 .opg t41 true (.mv t43) fun t44 =>
 .opg t44 false (.mv (e 2)) fun t45 =>
 .opg t44 false (.bin .gtr t45 (.int .u8 71)) fun t46 =>
 c95_r7_c2 e t41 t44 t46
def c95_r7 (e : Env) : Reg :=
 .op (.mv (e 1)) fun t31 =>
 .op (.bin .eql t31 (.int .i64 3)) fun t32 =>
 .op (.mv t32) fun t33 =>
 .opg t33 true (.mv (e 2)) fun t34 =>
 .opg t33 true (.bin .neq t34 (.int .u8 2)) fun t35 =>
 .op (.pick t33 t35 (.bool false)) fun t36 =>
 .op (.mv t36) fun t37 =>
 .opg t37 true (.mv (e 2)) fun t38 =>
 c95_r7_c1 e t37 t38
def c95_r8 (e : Env) : Reg :=
 .op (.mv (.int .i64 7)) fun t8 =>
 .done (e.upd 8 t8)
def c95_r9_c1 (e : Env) (t52 : Value) (t57 : Value) : Reg :=
 .opg t52 true (.un .not t57) fun t58 =>
 .op (.pick t52 t58 (.bool false)) fun t59 =>
 .op (.mv t59) fun t49 =>
 .done (e.upd 49 t49)
def c95_r9 (e : Env) : Reg :=
 .op (.mv (e 1)) fun t50 =>
 .op (.bin .eql t50 (.int .i64 4)) fun t51 =>
 .op (.mv t51) fun t52 =>
 .opg t52 true (.mv (e 2)) fun t53 =>
 .opg t52 true (.mv (e 0)) fun t54 =>
 .opg t52 true (.indexSl 1 t54 (.int .i64 3)) fun t55 =>
 .opg t52 true (.load none t55) fun t56 =>
 .opg t52 true (.call 101 [t53, t56]) fun t57 =>
 c95_r9_c1 e t52 t57
def c95_r10 (e : Env) : Reg :=
 .op (.mv (.int .i64 8)) fun t8 =>
 .done (e.upd 8 t8)
def c95_r11 (e : Env) : Reg :=
 .op (.mv (e 1)) fun t61 =>
 .op (.bin .eql t61 (.int .i64 5)) fun t62 =>
 .op (.mv t62) fun t63 =>
 .opg t63 true (.mv (e 2)) fun t64 =>
 .opg t63 true (.conv .i64 t64) fun t65 =>
 .opg t63 true (.mv (e 3)) fun t66 =>
 .opg t63 true (.bin .geq t65 t66) fun t67 =>
 .op (.pick t63 t67 (.bool false)) fun t68 =>
 .op (.mv t68) fun t60 =>
 .done (e.upd 60 t60)
def c95_r12 (e : Env) : Reg :=
 .op (.mv (.int .i64 9)) fun t8 =>
 .done (e.upd 8 t8)
def c95_r13_c1 (e : Env) (t72 : Value) (t74 : Value) (t77 : Value) : Reg :=
 .opg t72 true (.conv .i64 t77) fun t78 =>
 .opg t72 true (.bin .sub t78 (.int .i64 7)) fun t79 =>
 .opg t72 true (.bin .neq t74 t79) fun t80 =>
 .op (.pick t72 t80 (.bool false)) fun t81 =>
 .op (.mv t81) fun t69 =>
 .done (e.upd 69 t69)
def c95_r13 (e : Env) : Reg :=
 .op (.mv (e 1)) fun t70 =>
 .op (.bin .eql t70 (.int .i64 10)) fun t71 =>
 .op (.mv t71) fun t72 =>
 .opg t72 true (.mv (e 2)) fun t73 =>
 .opg t72 true (.conv .i64 t73) fun t74 =>
 .opg t72 true (.mv (e 0)) fun t75 =>
 .opg t72 true (.indexSl 1 t75 (.int .i64 3)) fun t76 =>
 .opg t72 true (.load none t76) fun t77 =>
 c95_r13_c1 e t72 t74 t77
def c95_r14 (e : Env) : Reg :=
 .op (.mv (.int .i64 10)) fun t8 =>
 .done (e.upd 8 t8)
def c95_r15 (e : Env) : Reg :=
 .op (.mv (.int .i64 0)) fun t8 =>
 .done (e.upd 8 t8)
def R95 := an (ro c95_r0.eq_1) <| an (ro c95_r1.eq_1) <| an (ro c95_r2.eq_1) <| an (ro c95_r3.eq_1) <| an (ro c95_r4.eq_1) <| an (ro c95_r5.eq_1) <| an (ro c95_r6.eq_1) <| an (ro3 c95_r7_c2.eq_1) <| an (ro2 c95_r7_c1.eq_1) <| an (ro c95_r7.eq_1) <| an (ro c95_r8.eq_1) <| an (ro2 c95_r9_c1.eq_1) <| an (ro c95_r9.eq_1) <| an (ro c95_r10.eq_1) <| an (ro c95_r11.eq_1) <| an (ro c95_r12.eq_1) <| an (ro3 c95_r13_c1.eq_1) <| an (ro c95_r13.eq_1) <| an (ro c95_r14.eq_1) <| ro c95_r15.eq_1
def c95 : CFn := ⟨(.seq (.region c95_r0) (.seq (.block 0 (.seq (.region c95_r1) (.cond (fun e => e 9) (.seq (.region c95_r2) .ret) (.seq (.region c95_r3) (.cond (fun e => e 16) (.seq (.region c95_r4) .ret) (.seq (.region c95_r5) (.cond (fun e => e 23) (.seq (.region c95_r6) .ret) (.seq (.region c95_r7) (.cond (fun e => e 30) (.seq (.region c95_r8) .ret) (.seq (.region c95_r9) (.cond (fun e => e 49) (.seq (.region c95_r10) .ret) (.seq (.region c95_r11) (.cond (fun e => e 60) (.seq (.region c95_r12) .ret) (.seq (.region c95_r13) (.cond (fun e => e 69) (.seq (.region c95_r14) .ret) .skip))))))))))))))) (.seq (.region c95_r15) .ret))), [.t 8]⟩
def p95 : Pers := ⟨9, [9, 16, 23, 30, 49, 60, 69], 82, []⟩
def c96_r0 (e : Env) : Reg :=
 .op (.mv (.int .i64 0)) fun t2 =>
 .done (e.upd 2 t2)
def c96_r1 (e : Env) : Reg :=
 .op (.mv (e 0)) fun t3 =>
 .op (.bin .mul t3 (.int .i64 69)) fun t4 =>
 .op (.mv t4) fun t2 =>
 .done (e.upd 2 t2)
def R96 := an (ro c96_r0.eq_1) <| ro c96_r1.eq_1
def c96 : CFn := ⟨(.seq (.region c96_r0) (.seq (.region c96_r1) .ret)), [.t 2]⟩
def p96 : Pers := ⟨3, [], 5, []⟩
def c97_r0 (e : Env) : Reg :=
 .op (.mv (.int .i64 0)) fun t2 =>
 .done (e.upd 2 t2)
def c97_r1 (e : Env) : Reg :=
 .op (.mv (e 0)) fun t3 =>
 .op (.call 99 [t3]) fun t4 =>
 .op (.bin .mul (.int .i64 4) t4) fun t5 =>
 .op (.mv t5) fun t2 =>
 .done (e.upd 2 t2)
def R97 := an (ro c97_r0.eq_1) <| ro c97_r1.eq_1
def c97 : CFn := ⟨(.seq (.region c97_r0) (.seq (.region c97_r1) .ret)), [.t 2]⟩
def p97 : Pers := ⟨3, [], 6, []⟩
def c98_r0 (e : Env) : Reg :=
 .op (.mv (.int .i64 0)) fun t4 =>
 .done (e.upd 4 t4)
def c98_r1 (e : Env) : Reg :=
 .op (.mv (e 0)) fun t5 =>
 .op (.bin .mul (.int .i64 8) t5) fun t6 =>
 .op (.mv (e 1)) fun t7 =>
 .op (.bin .mul t6 t7) fun t8 =>
 .op (.mv t8) fun t4 =>
 .done (e.upd 4 t4)
def R98 := an (ro c98_r0.eq_1) <| ro c98_r1.eq_1
def c98 : CFn := ⟨(.seq (.region c98_r0) (.seq (.region c98_r1) .ret)), [.t 4]⟩
def p98 : Pers := ⟨5, [], 9, []⟩
def c99_r0 (e : Env) : Reg :=
 .op (.mv (.int .i64 0)) fun t2 =>
 .done (e.upd 2 t2)
def c99_r1 (e : Env) : Reg :=
 .op (.mv (e 0)) fun t3 =>
 .op (.bin .mul (.int .i64 2) t3) fun t4 =>
 .op (.bin .add t4 (.int .i64 1)) fun t5 =>
 .op (.mv t5) fun t2 =>
 .done (e.upd 2 t2)
def R99 := an (ro c99_r0.eq_1) <| ro c99_r1.eq_1
def c99 : CFn := ⟨(.seq (.region c99_r0) (.seq (.region c99_r1) .ret)), [.t 2]⟩
def p99 : Pers := ⟨3, [], 6, []⟩
def c100_r0 (e : Env) : Reg :=
 .op (.mv (.int .i64 0)) fun t2 =>
 .done (e.upd 2 t2)
def c100_r1 (e : Env) : Reg :=
 .op (.mv (e 0)) fun t3 =>
 .op (.eqK .ptr false t3 (.pointer none)) fun t4 =>
 .done (e.upd 4 t4)
def c100_r2 (e : Env) : Reg :=
 .op (.mv (.int .i64 0)) fun t2 =>
 .done (e.upd 2 t2)
def c100_r3 (e : Env) : Reg :=
 .op (.mv (e 0)) fun t5 =>
 .op (.nilCheck t5) fun t6 =>
 .op (.fieldAddr 1 t6) fun t7 =>
 .op (.load none t7) fun t8 =>
 .op (.lenSl t8) fun t9 =>
 .op (.mv t9) fun t2 =>
 .done (e.upd 2 t2)
def R100 := an (ro c100_r0.eq_1) <| an (ro c100_r1.eq_1) <| an (ro c100_r2.eq_1) <| ro c100_r3.eq_1
def c100 : CFn := ⟨(.seq (.region c100_r0) (.seq (.seq (.region c100_r1) (.cond (fun e => e 4) (.seq (.region c100_r2) .ret) .skip)) (.seq (.region c100_r3) .ret))), [.t 2]⟩
def p100 : Pers := ⟨3, [4], 10, []⟩
def c101_r0 (e : Env) : Reg :=
 .op (.mv (.bool false)) fun t4 =>
 .done (e.upd 4 t4)
def c101_r1 (e : Env) : Reg :=
 .op (.mv (e 0)) fun t5 =>
 .done (e.upd 5 t5)
def c101_r2 (e : Env) : Reg :=
 .op (.bin .eql (e 5) (.int .u8 1)) fun t7 =>
 .op (.mv t7) fun t6 =>
 .done (e.upd 6 t6)
def c101_r3 (e : Env) : Reg :=
 .op (.bin .eql (e 5) (.int .u8 2)) fun t8 =>
 .op (.mv t8) fun t6 =>
 .done (e.upd 6 t6)
def c101_r4 (e : Env) : Reg :=
 .op (.mv (e 1)) fun t9 =>
 .op (.bin .geq t9 (.int .u8 7)) fun t10 =>
 .op (.mv t10) fun t4 =>
 .done (e.upd 4 t4)
def c101_r5 (e : Env) : Reg :=
 .op (.bin .eql (e 5) (.int .u8 3)) fun t12 =>
 .op (.mv t12) fun t11 =>
 .done (e.upd 11 t11)
def c101_r6 (e : Env) : Reg :=
 .op (.mv (e 1)) fun t13 =>
 .op (.bin .eql t13 (.int .u8 2)) fun t14 =>
 .op (.mv t14) fun t4 =>
 .done (e.upd 4 t4)
def c101_r7 (e : Env) : Reg :=
 .op (.bin .eql (e 5) (.int .u8 4)) fun t16 =>
 .op (.mv t16) fun t15 =>
 .done (e.upd 15 t15)
def c101_r8 (e : Env) : Reg :=
 .op (.mv (e 1)) fun t17 =>
 .op (.bin .eql t17 (.int .u8 3)) fun t18 =>
 .op (.mv t18) fun t4 =>
 .done (e.upd 4 t4)
def c101_r9 (e : Env) : Reg :=
 .op (.mv (.bool false)) fun t4 =>
 .done (e.upd 4 t4)
def R101 := an (ro c101_r0.eq_1) <| an (ro c101_r1.eq_1) <| an (ro c101_r2.eq_1) <| an (ro c101_r3.eq_1) <| an (ro c101_r4.eq_1) <| an (ro c101_r5.eq_1) <| an (ro c101_r6.eq_1) <| an (ro c101_r7.eq_1) <| an (ro c101_r8.eq_1) <| ro c101_r9.eq_1
def c101 : CFn := ⟨(.seq (.region c101_r0) (.seq (.seq (.region c101_r1) (.block 0 (.seq (.seq (.region c101_r2) (.cond (fun e => e 6) .skip (.region c101_r3))) (.cond (fun e => e 6) (.seq (.region c101_r4) .ret) (.seq (.region c101_r5) (.cond (fun e => e 11) (.seq (.region c101_r6) .ret) (.seq (.region c101_r7) (.cond (fun e => e 15) (.seq (.region c101_r8) .ret) .skip)))))))) (.seq (.region c101_r9) .ret))), [.t 4]⟩
def p101 : Pers := ⟨5, [5, 6, 11, 15], 19, []⟩
def c117_r0 (e : Env) : Reg :=
 .op (.box 61 (e 1)) fun t3 =>
 .op (.mv (.slice none 0 0)) fun t4 =>
 .done ((e.upd 3 t3).upd 4 t4)
def c117_r1 (e : Env) : Reg :=
 .op (.mv (e 0)) fun t12 =>
 .op (.nilCheck t12) fun t13 =>
 .op (.fieldAddr 9 t13) fun t14 =>
 .op (.load none t14) fun t15 =>
 .op (.fieldAddr 1 (e 3)) fun t16 =>
 .op (.load none t16) fun t17 =>
 .op (.indexSl 1 t15 t17) fun t18 =>
 .op (.load none t18) fun t19 =>
 .op (.mv t19) fun t5 =>
 .done (e.upd 5 t5)
def c117_r2_c2 (e : Env) (h3 : Heap) (t23 : Value) (t26 : Value) (t31 : Value) (t32 : Value) (t33 : Value) : Reg :=
 .chk none (some h3) (.load none t32) t33 <|
 .op (.indexSl 9 t31 t33) fun t34 =>
 .op (.fieldAddr 1 t34) fun t35 =>
 .op (.load none t35) fun t36 =>
 .chk none (some h3) (.load none t35) t36 <|
 .snap fun h17 =>
 .op (.call 119 [t26, t36]) fun t37 =>
 .op (.mv t23) fun t6 =>
 .op (.mv t37) fun t7 =>
 .done ((e.upd 6 t6).upd 7 t7)
def c117_r2_c1 (e : Env) (h3 : Heap) (t23 : Value) (t26 : Value) : Reg :=
 .op (.mv (e 0)) fun t27 =>
 .op (.nilCheck t27) fun t28 =>
 .op (.fieldAddr 4 t28) fun t29 =>
 .op (.fieldAddr 3 t29) fun t30 =>
 .op (.load none t30) fun t31 =>
 .chk none (some h3) (.load none t30) t31 <|
 .op (.fieldAddr 1 (e 3)) fun t32 =>
 .op (.load none t32) fun t33 =>
 c117_r2_c2 e h3 t23 t26 t31 t32 t33
def c117_r2 (e : Env) : Reg :=
 .op (.mv (e 0)) fun t20 =>
 .op (.nilCheck t20) fun t21 =>
 .op (.fieldAddr 0 t21) fun t22 =>
 .snap fun h3 =>
 .op (.call 26 [t22]) fun t23 =>
 .op (.mv (e 0)) fun t24 =>
 .op (.nilCheck t24) fun t25 =>
 .op (.fieldAddr 0 t25) fun t26 =>
 c117_r2_c1 e h3 t23 t26
def c117_r3 (e : Env) : Reg :=
 .op (.fieldAddr 0 (e 3)) fun t38 =>
 .op (.load none t38) fun t39 =>
 .done (e.upd 39 t39)
def c117_r4 (e : Env) : Reg :=
 .op (.bin .eql (e 39) (.int .i64 1)) fun t41 =>
 .op (.mv t41) fun t40 =>
 .done (e.upd 40 t40)
def c117_r5_c1 (e : Env) (t43 : Value) (t44 : Value) (t45 : Value) (t47 : Value) (t50 : Value) : Reg :=
 .op (.call 120 [t43, t44, t45, t47, t50]) fun t51 =>
 .op (.mv t51) fun t42 =>
 .op (.extract t42 0) fun t52 =>
 .op (.extract t42 1) fun t53 =>
 .op (.alloc 55 [(.int .i64 0), (.int .i64 0), (.int .i64 0)]) fun t8 =>
 .op (.store 3 t8 t52) fun _ =>
 .op (.mv t53) fun t9 =>
 .done ((e.upd 8 t8).upd 9 t9)
def c117_r5 (e : Env) : Reg :=
 .op (.mv (e 5)) fun t43 =>
 .op (.mv (e 6)) fun t44 =>
 .op (.mv (e 7)) fun t45 =>
 .op (.fieldAddr 3 (e 3)) fun t46 =>
 .op (.load none t46) fun t47 =>
 .op (.fieldAddr 2 (e 3)) fun t48 =>
 .op (.load none t48) fun t49 =>
 .op (.conv .i64 t49) fun t50 =>
 c117_r5_c1 e t43 t44 t45 t47 t50
def c117_r6 (e : Env) : Reg :=
 .op (.mv (e 9)) fun t54 =>
 .op (.lenSl t54) fun t55 =>
 .op (.mv (.int .i64 0)) fun t56 =>
 .done (((e.upd 54 t54).upd 55 t55).upd 56 t56)
def c117_r7 (e : Env) : Reg :=
 .op (.bin .lss (e 56) (e 55)) fun t57 =>
 .done (e.upd 57 t57)
def c117_r8 (e : Env) : Reg :=
 .op (.indexSl 4 (e 54) (e 56)) fun t58 =>
 .op (.load (some 4) t58) fun t59 =>
 .op (.alloc 123 [(.int .i64 0), (.string ⟨#[]⟩), (.bool false), (.int .i64 0)]) fun t11 =>
 .op (.store 4 t11 t59) fun _ =>
 .done (e.upd 11 t11)
def c117_r9 (e : Env) : Reg :=
 .op (.fieldAddr 1 (e 3)) fun t60 =>
 .op (.load none t60) fun t61 =>
 .op (.fieldAddr 0 (e 11)) fun t62 =>
 .op (.store 1 t62 t61) fun _ =>
 .done e
def c117_r10_c1 (e : Env) (t63 : Value) (t67 : Value) (t69 : Value) : Reg :=
 .op (.append 123 4 40 t67 t69) fun t70 =>
 .op (.nilCheck t63) fun t71 =>
 .op (.fieldAddr 10 t71) fun t72 =>
 .snap fun h10 =>
 .op (.store 1 t72 t70) fun _ =>
 .done e
def c117_r10 (e : Env) : Reg :=
 .op (.mv (e 0)) fun t63 =>
 .op (.mv (e 0)) fun t64 =>
 .op (.nilCheck t64) fun t65 =>
 .op (.fieldAddr 10 t65) fun t66 =>
 .op (.load none t66) fun t67 =>
 .op (.load (some 4) (e 11)) fun t68 =>
 .op (.buildSlice 123 1 [(.int .i64 0), (.string ⟨#[]⟩), (.bool false), (.int .i64 0)] [(0, 4, t68)]) fun t69 =>
 .snap fun h7 =>
 c117_r10_c1 e t63 t67 t69
def c117_r11 (e : Env) : Reg :=
 .op (.bin .add (e 56) (.int .i64 1)) fun t73 =>
 .op (.mv t73) fun t56 =>
 .done (e.upd 56 t56)
def c117_l0 : CC := (.seq (.region c117_r7) (.seq (.cond (fun e => e 57) .skip (.exit 1)) (.seq (.block 2 (.seq (.region c117_r8) (.seq (.region c117_r9) (.region c117_r10)))) (.region c117_r11))))
def c117_r12 (e : Env) : Reg :=
 .op (.fieldAddr 0 (e 3)) fun t74 =>
 .op (.load none t74) fun t75 =>
 .op (.load (some 3) (e 8)) fun t76 =>
 .op (.call 121 [t75, t76]) fun t77 =>
 .op (.mv t77) fun t4 =>
 .done (e.upd 4 t4)
def c117_r13 (e : Env) : Reg :=
 .op (.bin .eql (e 39) (.int .i64 2)) fun t79 =>
 .op (.mv t79) fun t78 =>
 .done (e.upd 78 t78)
def c117_r14_c1 (e : Env) (t80 : Value) (t81 : Value) (t82 : Value) (t83 : Value) (t84 : Value) (t86 : Value) (t87 : Value) : Reg :=
 .op (.load none t87) fun t88 =>
 .op (.conv .i64 t88) fun t89 =>
 .snap fun h10 =>
 .op (.call 122 [t82, t83, t84, t86, t89]) fun t90 =>
 .chk none none (.load none t80) t81 <|
 .snap fun h11 =>
 .op (.call 121 [t81, t90]) fun t91 =>
 .op (.mv t91) fun t4 =>
 .done (e.upd 4 t4)
def c117_r14 (e : Env) : Reg :=
 .op (.fieldAddr 0 (e 3)) fun t80 =>
 .op (.load none t80) fun t81 =>
 .op (.mv (e 5)) fun t82 =>
 .op (.mv (e 6)) fun t83 =>
 .op (.mv (e 7)) fun t84 =>
 .op (.fieldAddr 3 (e 3)) fun t85 =>
 .op (.load none t85) fun t86 =>
 .op (.fieldAddr 2 (e 3)) fun t87 =>
 c117_r14_c1 e t80 t81 t82 t83 t84 t86 t87
def c117_r15 (e : Env) : Reg :=
 .op (.bin .eql (e 39) (.int .i64 3)) fun t93 =>
 .op (.mv t93) fun t92 =>
 .done (e.upd 92 t92)
def c117_r16 (e : Env) : Reg :=
 .op (.fieldAddr 1 (e 3)) fun t94 =>
 .op (.load none t94) fun t95 =>
 .op (.mv (e 5)) fun t96 =>
 .snap fun h3 =>
 .op (.call 28 [t96]) fun t97 =>
 .chk none none (.load none t94) t95 <|
 .snap fun h4 =>
 .op (.call 123 [t95, t97]) fun t98 =>
 .op (.mv t98) fun t4 =>
 .done (e.upd 4 t4)
def c117_r17_c1 (e : Env) (t100 : Value) (t104 : Value) : Reg :=
 .snap fun h6 =>
 .op (.call 124 [t100, t104]) fun t105 =>
 .op (.mv t105) fun t4 =>
 .done (e.upd 4 t4)
def c117_r17 (e : Env) : Reg :=
 .op (.fieldAddr 1 (e 3)) fun t99 =>
 .op (.load none t99) fun t100 =>
 .op (.mv (e 5)) fun t101 =>
 .op (.fieldAddr 4 (e 3)) fun t102 =>
 .op (.load none t102) fun t103 =>
 .snap fun h5 =>
 .op (.call 125 [t101, t103]) fun t104 =>
 .chk none none (.load none t99) t100 <|
 c117_r17_c1 e t100 t104
def R117 := an (ro c117_r0.eq_1) <| an (ro c117_r1.eq_1) <| an (ro6 c117_r2_c2.eq_1) <| an (ro3 c117_r2_c1.eq_1) <| an (ro c117_r2.eq_1) <| an (ro c117_r3.eq_1) <| an (ro c117_r4.eq_1) <| an (ro5 c117_r5_c1.eq_1) <| an (ro c117_r5.eq_1) <| an (ro c117_r6.eq_1) <| an (ro c117_r7.eq_1) <| an (ro c117_r8.eq_1) <| an (ro c117_r9.eq_1) <| an (ro3 c117_r10_c1.eq_1) <| an (ro c117_r10.eq_1) <| an (ro c117_r11.eq_1) <| an (ro c117_r12.eq_1) <| an (ro c117_r13.eq_1) <| an (ro7 c117_r14_c1.eq_1) <| an (ro c117_r14.eq_1) <| an (ro c117_r15.eq_1) <| an (ro c117_r16.eq_1) <| an (ro2 c117_r17_c1.eq_1) <| ro c117_r17.eq_1
def c117 : CFn := ⟨(.seq (.region c117_r0) (.seq (.region c117_r1) (.seq (.region c117_r2) (.seq (.seq (.region c117_r3) (.block 0 (.seq (.region c117_r4) (.cond (fun e => e 40) (.seq (.region c117_r5) (.seq (.seq (.region c117_r6) (.block 1 (.loop c117_l0))) (.seq (.region c117_r12) .ret))) (.seq (.region c117_r13) (.cond (fun e => e 78) (.seq (.region c117_r14) .ret) (.seq (.region c117_r15) (.cond (fun e => e 92) (.seq (.region c117_r16) .ret) .skip)))))))) (.seq (.region c117_r17) .ret))))), [.t 4]⟩
def p117 : Pers := ⟨12, [39, 40, 54, 55, 56, 57, 78, 92], 106, []⟩
def c118_r0 (e : Env) : Reg :=
 .op (.box 61 (e 1)) fun t3 =>
 .op (.mv (.int .i64 0)) fun t4 =>
 .done ((e.upd 3 t3).upd 4 t4)
def c118_r1_c1 (e : Env) (t5 : Value) (t10 : Value) (t12 : Value) : Reg :=
 .op (.indexSl 9 t10 t12) fun t13 =>
 .op (.fieldAddr 7 t13) fun t14 =>
 .op (.load none t14) fun t15 =>
 .snap fun h11 =>
 .op (.call 74 [t5, t15]) fun t16 =>
 .op (.mv t16) fun t4 =>
 .done (e.upd 4 t4)
def c118_r1 (e : Env) : Reg :=
 .op (.load (some 5) (e 3)) fun t5 =>
 .op (.mv (e 0)) fun t6 =>
 .op (.nilCheck t6) fun t7 =>
 .op (.fieldAddr 4 t7) fun t8 =>
 .op (.fieldAddr 3 t8) fun t9 =>
 .op (.load none t9) fun t10 =>
 .op (.fieldAddr 1 (e 3)) fun t11 =>
 .op (.load none t11) fun t12 =>
 c118_r1_c1 e t5 t10 t12
def R118 := an (ro c118_r0.eq_1) <| an (ro3 c118_r1_c1.eq_1) <| ro c118_r1.eq_1
def c118 : CFn := ⟨(.seq (.region c118_r0) (.seq (.region c118_r1) .ret)), [.t 4]⟩
def p118 : Pers := ⟨5, [], 17, []⟩
def c119_r0 (e : Env) : Reg :=
 .op (.mv (.int .i64 0)) fun t4 =>
 .done (e.upd 4 t4)
def c119_r1 (e : Env) : Reg :=
 .op (.mv (e 0)) fun t5 =>
 .op (.nilCheck t5) fun t6 =>
 .op (.fieldAddr 2 t6) fun t7 =>
 .op (.load none t7) fun t8 =>
 .op (.un .not t8) fun t9 =>
 .done (e.upd 9 t9)
def c119_r2 (e : Env) : Reg :=
 .op (.mv (.int .i64 0)) fun t4 =>
 .done (e.upd 4 t4)
def c119_r3_c1 (e : Env) (h5 : Heap) (t15 : Value) (t16 : Value) : Reg :=
 .op (.nilCheck t16) fun t17 =>
 .op (.fieldAddr 0 t17) fun t18 =>
 .op (.load none t18) fun t19 =>
 .chk none (some h5) (.load none t18) t19 <|
 .op (.bin .sub t15 t19) fun t20 =>
 .op (.minmax true [t20, (.int .i64 0)]) fun t21 =>
 .op (.mv t21) fun t4 =>
 .done (e.upd 4 t4)
def c119_r3 (e : Env) : Reg :=
 .op (.mv (e 0)) fun t10 =>
 .op (.nilCheck t10) fun t11 =>
 .op (.fieldAddr 1 t11) fun t12 =>
 .op (.load none t12) fun t13 =>
 .op (.mv (e 1)) fun t14 =>
 .snap fun h5 =>
 .op (.call 126 [t13, t14]) fun t15 =>
 .op (.mv (e 0)) fun t16 =>
 c119_r3_c1 e h5 t15 t16
def R119 := an (ro c119_r0.eq_1) <| an (ro c119_r1.eq_1) <| an (ro c119_r2.eq_1) <| an (ro3 c119_r3_c1.eq_1) <| ro c119_r3.eq_1
def c119 : CFn := ⟨(.seq (.region c119_r0) (.seq (.seq (.region c119_r1) (.cond (fun e => e 9) (.seq (.region c119_r2) .ret) .skip)) (.seq (.region c119_r3) .ret))), [.t 4]⟩
def p119 : Pers := ⟨5, [9], 22, []⟩
def c120_r0 (e : Env) : Reg :=
 .op (.alloc 55 [(.int .i64 0), (.int .i64 0), (.int .i64 0)]) fun t10 =>
 .op (.mv (.slice none 0 0)) fun t11 =>
 .done ((e.upd 10 t10).upd 11 t11)
def c120_r1_c1 (e : Env) (t23 : Value) (t24 : Value) : Reg :=
 .op (.alloc 55 [(.int .i64 0), (.int .i64 0), (.int .i64 0)]) fun t12 =>
 .op (.store 3 t12 t23) fun _ =>
 .op (.mv t24) fun t13 =>
 .done ((e.upd 12 t12).upd 13 t13)
def c120_r1 (e : Env) : Reg :=
 .op (.mv (e 0)) fun t18 =>
 .op (.mv (e 1)) fun t19 =>
 .op (.mv (e 2)) fun t20 =>
 .op (.mv (e 4)) fun t21 =>
 .op (.call 127 [t18, t19, t20, t21]) fun t22 =>
 .op (.mv t22) fun t17 =>
 .op (.extract t17 0) fun t23 =>
 .op (.extract t17 1) fun t24 =>
 c120_r1_c1 e t23 t24
def c120_r2 (e : Env) : Reg :=
 .op (.mv (e 13)) fun t25 =>
 .done (e.upd 25 t25)
def c120_r3 (e : Env) : Reg :=
 .op (.mv (e 0)) fun t26 =>
 .op (.fieldAddr 0 (e 12)) fun t27 =>
 .op (.load none t27) fun t28 =>
 .op (.call 128 [t26, t28]) fun t29 =>
 .done e
def c120_r4 (e : Env) : Reg :=
 .op (.load (some 3) (e 12)) fun t30 =>
 .op (.store 3 (e 10) t30) fun _ =>
 .op (.mv (.slice none 0 0)) fun t11 =>
 .done (e.upd 11 t11)
def c120_r5 (e : Env) : Reg :=
 .op (.mv (e 0)) fun t31 =>
 .op (.nilCheck t31) fun t32 =>
 .op (.fieldAddr 14 t32) fun t33 =>
 .op (.load none t33) fun t34 =>
 .op (.mv (e 1)) fun t35 =>
 .op (.call 129 [t34, t35]) fun t36 =>
 .done e
def c120_r6 (e : Env) : Reg :=
 .op (.mv (e 0)) fun t37 =>
 .op (.nilCheck t37) fun t38 =>
 .op (.fieldAddr 15 t38) fun t39 =>
 .op (.load none t39) fun t40 =>
 .op (.mv (e 3)) fun t41 =>
 .op (.mv (e 4)) fun t42 =>
 .op (.call 130 [t40, t41, t42]) fun t43 =>
 .done e
def c120_r7 (e : Env) : Reg :=
 .op (.mv (e 0)) fun t45 =>
 .op (.mv (e 1)) fun t46 =>
 .op (.mv (e 3)) fun t47 =>
 .op (.call 131 [t45, t46, t47]) fun t48 =>
 .op (.mv t48) fun t44 =>
 .op (.extract t44 0) fun t49 =>
 .op (.extract t44 1) fun t50 =>
 .op (.mv t49) fun t14 =>
 .op (.mv t50) fun t15 =>
 .done ((e.upd 14 t14).upd 15 t15)
def c120_r8 (e : Env) : Reg :=
 .op (.build [(.int .i64 0), (.int .i64 0), (.int .i64 0)] [(0, 1, (.int .i64 2))]) fun t51 =>
 .op (.alloc 55 [(.int .i64 0), (.int .i64 0), (.int .i64 0)]) fun t16 =>
 .op (.store 3 t16 t51) fun _ =>
 .done (e.upd 16 t16)
def c120_r9 (e : Env) : Reg :=
 .op (.mv (e 14)) fun t52 =>
 .op (.eqK .ptr true t52 (.pointer none)) fun t53 =>
 .done (e.upd 53 t53)
def c120_r10 (e : Env) : Reg :=
 .op (.mv (e 14)) fun t54 =>
 .op (.mv (e 0)) fun t55 =>
 .op (.nilCheck t55) fun t56 =>
 .op (.fieldAddr 9 t56) fun t57 =>
 .op (.load (some 4) t57) fun t58 =>
 .op (.mv (e 1)) fun t59 =>
 .op (.mv (e 4)) fun t60 =>
 .op (.call 132 [t54, t58, t59, t60]) fun t61 =>
 .done (e.upd 61 t61)
def c120_r11 (e : Env) : Reg :=
 .op (.fieldAddr 0 (e 16)) fun t62 =>
 .op (.store 1 t62 (.int .i64 1)) fun _ =>
 .done e
def c120_r12_c1 (e : Env) (t65 : Value) (t69 : Value) (t70 : Value) : Reg :=
 .op (.mv (e 4)) fun t71 =>
 .snap fun h9 =>
 .op (.call 133 [t65, t69, t70, t71]) fun t72 =>
 .op (.fieldAddr 2 (e 16)) fun t73 =>
 .snap fun h11 =>
 .op (.store 1 t73 t72) fun _ =>
 .done e
def c120_r12 (e : Env) : Reg :=
 .op (.mv (e 14)) fun t63 =>
 .op (.nilCheck t63) fun t64 =>
 .op (.load (some 4) t64) fun t65 =>
 .op (.mv (e 0)) fun t66 =>
 .op (.nilCheck t66) fun t67 =>
 .op (.fieldAddr 9 t67) fun t68 =>
 .op (.load (some 4) t68) fun t69 =>
 .op (.mv (e 1)) fun t70 =>
 c120_r12_c1 e t65 t69 t70
def c120_r13_c1 (e : Env) (t76 : Value) (t80 : Value) (t81 : Value) : Reg :=
 .snap fun h8 =>
 .op (.call 134 [t76, t80, t81]) fun t82 =>
 .op (.fieldAddr 1 (e 16)) fun t83 =>
 .snap fun h10 =>
 .op (.store 1 t83 t82) fun _ =>
 .done e
def c120_r13 (e : Env) : Reg :=
 .op (.mv (e 14)) fun t74 =>
 .op (.nilCheck t74) fun t75 =>
 .op (.load (some 4) t75) fun t76 =>
 .op (.mv (e 0)) fun t77 =>
 .op (.nilCheck t77) fun t78 =>
 .op (.fieldAddr 9 t78) fun t79 =>
 .op (.load (some 4) t79) fun t80 =>
 .op (.mv (e 1)) fun t81 =>
 c120_r13_c1 e t76 t80 t81
def c120_r14_c1 (e : Env) (h5 : Heap) (t89 : Value) (t90 : Value) : Reg :=
 .snap fun h7 =>
 .op (.call 126 [t89, t90]) fun t91 =>
 .op (.mv (e 0)) fun t92 =>
 .op (.nilCheck t92) fun t93 =>
 .op (.fieldAddr 0 t93) fun t94 =>
 .op (.fieldAddr 0 t94) fun t95 =>
 .op (.load none t95) fun t96 =>
 .chk none (some h7) (.load none t95) t96 <|
 .chk none (some h5) (.load none t95) t96 <|
 .op (.bin .leq t91 t96) fun t97 =>
 .done (e.upd 97 t97)
def c120_r14 (e : Env) : Reg :=
 .op (.mv (e 0)) fun t84 =>
 .op (.nilCheck t84) fun t85 =>
 .op (.fieldAddr 14 t85) fun t86 =>
 .op (.load none t86) fun t87 =>
 .op (.mv (e 3)) fun t88 =>
 .snap fun h5 =>
 .op (.call 135 [t87, t88]) fun t89 =>
 .op (.mv (e 4)) fun t90 =>
 c120_r14_c1 e h5 t89 t90
def c120_r15 (e : Env) : Reg :=
 .op (.fieldAddr 0 (e 16)) fun t98 =>
 .op (.store 1 t98 (.int .i64 1)) fun _ =>
 .done e
def c120_r16 (e : Env) : Reg :=
 .op (.mv (e 0)) fun t99 =>
 .op (.nilCheck t99) fun t100 =>
 .op (.fieldAddr 14 t100) fun t101 =>
 .op (.load none t101) fun t102 =>
 .op (.mv (e 3)) fun t103 =>
 .op (.mv (e 4)) fun t104 =>
 .op (.call 136 [t102, t103, t104]) fun t105 =>
 .done e
def c120_r17 (e : Env) : Reg :=
 .op (.mv (e 0)) fun t106 =>
 .op (.nilCheck t106) fun t107 =>
 .op (.fieldAddr 14 t107) fun t108 =>
 .op (.load none t108) fun t109 =>
 .op (.mv (e 3)) fun t110 =>
 .op (.mv (e 4)) fun t111 =>
 .op (.call 137 [t109, t110, t111]) fun t112 =>
 .op (.fieldAddr 2 (e 16)) fun t113 =>
 .op (.store 1 t113 t112) fun _ =>
 .done e
def c120_r18_c2 (e : Env) (t114 : Value) (t126 : Value) : Reg :=
 .op (.call 138 [t114, t126]) fun t127 =>
 .op (.fieldAddr 1 (e 16)) fun t128 =>
 .snap fun h15 =>
 .op (.store 1 t128 t127) fun _ =>
 .done e
def c120_r18_c1 (e : Env) (t114 : Value) (t118 : Value) (t119 : Value) (t121 : Value) : Reg :=
 .op (.fieldAddr 14 t121) fun t122 =>
 .op (.load none t122) fun t123 =>
 .op (.mv (e 3)) fun t124 =>
 .snap fun h11 =>
 .op (.call 135 [t123, t124]) fun t125 =>
 .chk none none (.load none t118) t119 <|
 .op (.bin .sub t119 t125) fun t126 =>
 .snap fun h13 =>
 c120_r18_c2 e t114 t126
def c120_r18 (e : Env) : Reg :=
 .op (.mv (e 0)) fun t114 =>
 .op (.mv (e 0)) fun t115 =>
 .op (.nilCheck t115) fun t116 =>
 .op (.fieldAddr 0 t116) fun t117 =>
 .op (.fieldAddr 0 t117) fun t118 =>
 .op (.load none t118) fun t119 =>
 .op (.mv (e 0)) fun t120 =>
 .op (.nilCheck t120) fun t121 =>
 c120_r18_c1 e t114 t118 t119 t121
def c120_r19 (e : Env) : Reg :=
 .op (.mv (e 0)) fun t129 =>
 .op (.fieldAddr 0 (e 16)) fun t130 =>
 .op (.load none t130) fun t131 =>
 .op (.call 128 [t129, t131]) fun t132 =>
 .done e
def c120_r20 (e : Env) : Reg :=
 .op (.load (some 3) (e 16)) fun t133 =>
 .op (.mv (e 15)) fun t134 =>
 .op (.store 3 (e 10) t133) fun _ =>
 .op (.mv t134) fun t11 =>
 .done (e.upd 11 t11)
def R120 := an (ro c120_r0.eq_1) <| an (ro2 c120_r1_c1.eq_1) <| an (ro c120_r1.eq_1) <| an (ro c120_r2.eq_1) <| an (ro c120_r3.eq_1) <| an (ro c120_r4.eq_1) <| an (ro c120_r5.eq_1) <| an (ro c120_r6.eq_1) <| an (ro c120_r7.eq_1) <| an (ro c120_r8.eq_1) <| an (ro c120_r9.eq_1) <| an (ro c120_r10.eq_1) <| an (ro c120_r11.eq_1) <| an (ro3 c120_r12_c1.eq_1) <| an (ro c120_r12.eq_1) <| an (ro3 c120_r13_c1.eq_1) <| an (ro c120_r13.eq_1) <| an (ro3 c120_r14_c1.eq_1) <| an (ro c120_r14.eq_1) <| an (ro c120_r15.eq_1) <| an (ro c120_r16.eq_1) <| an (ro c120_r17.eq_1) <| an (ro2 c120_r18_c2.eq_1) <| an (ro4 c120_r18_c1.eq_1) <| an (ro c120_r18.eq_1) <| an (ro c120_r19.eq_1) <| ro c120_r20.eq_1
def c120 : CFn := ⟨(.seq (.region c120_r0) (.seq (.seq (.region c120_r1) (.seq (.region c120_r2) (.cond (fun e => e 25) (.seq (.region c120_r3) (.seq (.region c120_r4) .ret)) .skip))) (.seq (.region c120_r5) (.seq (.region c120_r6) (.seq (.region c120_r7) (.seq (.region c120_r8) (.seq (.seq (.region c120_r9) (.cond (fun e => e 53) (.seq (.seq (.region c120_r10) (.cond (fun e => e 61) (.region c120_r11) (.region c120_r12))) (.region c120_r13)) (.seq (.seq (.region c120_r14) (.cond (fun e => e 97) (.seq (.region c120_r15) (.region c120_r16)) (.region c120_r17))) (.region c120_r18)))) (.seq (.region c120_r19) (.seq (.region c120_r20) .ret))))))))), [.c 10 (some 3), .t 11]⟩
def p120 : Pers := ⟨17, [25, 53, 61, 97], 135, []⟩
def c121_r0 (e : Env) : Reg :=
 .op (.box 55 (e 1)) fun t3 =>
 .op (.mv (.slice none 0 0)) fun t4 =>
 .done ((e.upd 3 t3).upd 4 t4)
def c121_r1 (e : Env) : Reg :=
 .op (.mv (e 0)) fun t6 =>
 .op (.bin .or t6 (.int .i64 128)) fun t7 =>
 .op (.conv .u8 t7) fun t8 =>
 .op (.fieldAddr 0 (e 3)) fun t9 =>
 .op (.load none t9) fun t10 =>
 .op (.conv .u8 t10) fun t11 =>
 .op (.buildSlice 5 2 [(.int .u8 0)] [(0, 1, t8), (1, 1, t11)]) fun t12 =>
 .op (.mv t12) fun t5 =>
 .done (e.upd 5 t5)
def c121_r2_c1 (e : Env) (h4 : Heap) (t17 : Value) (t18 : Value) (t19 : Value) : Reg :=
 .chk none (some h4) (.load none t18) t19 <|
 .op (.conv .u64 t19) fun t20 =>
 .snap fun h8 =>
 .op (.call 44 [t17, (.int .i64 8), t20]) fun t21 =>
 .snap fun h9 =>
 .op (.call 45 [(.int .u8 168), t21]) fun t22 =>
 .op (.mv t22) fun t4 =>
 .done (e.upd 4 t4)
def c121_r2 (e : Env) : Reg :=
 .op (.mv (e 5)) fun t13 =>
 .op (.fieldAddr 1 (e 3)) fun t14 =>
 .op (.load none t14) fun t15 =>
 .op (.conv .u64 t15) fun t16 =>
 .snap fun h4 =>
 .op (.call 44 [t13, (.int .i64 8), t16]) fun t17 =>
 .op (.fieldAddr 2 (e 3)) fun t18 =>
 .op (.load none t18) fun t19 =>
 c121_r2_c1 e h4 t17 t18 t19
def R121 := an (ro c121_r0.eq_1) <| an (ro c121_r1.eq_1) <| an (ro4 c121_r2_c1.eq_1) <| ro c121_r2.eq_1
def c121 : CFn := ⟨(.seq (.region c121_r0) (.seq (.region c121_r1) (.seq (.region c121_r2) .ret))), [.t 4]⟩
def p121 : Pers := ⟨6, [], 23, []⟩
def c126_r0 (e : Env) : Reg :=
 .op (.mv (.int .i64 0)) fun t4 =>
 .done (e.upd 4 t4)
def c126_r1 (e : Env) : Reg :=
 .op (.mv (e 0)) fun t8 =>
 .op (.mv (e 1)) fun t9 =>
 .op (.call 144 [t8, t9]) fun t10 =>
 .op (.mv t10) fun t7 =>
 .op (.extract t7 0) fun t11 =>
 .op (.extract t7 1) fun t12 =>
 .op (.mv t11) fun t5 =>
 .op (.mv t12) fun t6 =>
 .done ((e.upd 5 t5).upd 6 t6)
def c126_r2 (e : Env) : Reg :=
 .op (.mv (e 6)) fun t13 =>
 .op (.un .not t13) fun t14 =>
 .done (e.upd 14 t14)
def c126_r3 (e : Env) : Reg :=
 .op (.mv (e 0)) fun t15 =>
 .op (.bin .lss t15 (.int .i64 0)) fun t16 =>
 .op (.call 145 [t16]) fun t17 =>
 .op (.mv t17) fun t4 =>
 .done (e.upd 4 t4)
def c126_r4 (e : Env) : Reg :=
 .op (.mv (e 5)) fun t18 =>
 .op (.mv t18) fun t4 =>
 .done (e.upd 4 t4)
def R126 := an (ro c126_r0.eq_1) <| an (ro c126_r1.eq_1) <| an (ro c126_r2.eq_1) <| an (ro c126_r3.eq_1) <| ro c126_r4.eq_1
def c126 : CFn := ⟨(.seq (.region c126_r0) (.seq (.region c126_r1) (.seq (.seq (.region c126_r2) (.cond (fun e => e 14) (.seq (.region c126_r3) .ret) .skip)) (.seq (.region c126_r4) .ret)))), [.t 4]⟩
def p126 : Pers := ⟨7, [14], 19, []⟩
def c127_r0 (e : Env) : Reg :=
 .op (.alloc 55 [(.int .i64 0), (.int .i64 0), (.int .i64 0)]) fun t8 =>
 .op (.mv (.bool false)) fun t9 =>
 .done ((e.upd 8 t8).upd 9 t9)
def c127_r1_c1 (e : Env) (t13 : Value) (t14 : Value) (t18 : Value) : Reg :=
 .opg t13 false (.load none t18) fun t19 =>
 .opg t13 false (.bin .gtr t14 t19) fun t20 =>
 .op (.pick t13 (.bool true) t20) fun t21 =>
 .op (.mv t21) fun t10 =>
 .done (e.upd 10 t10)
def c127_r1 (e : Env) : Reg :=
 .op (.mv (e 3)) fun t11 =>
 .op (.bin .lss t11 (.int .i64 1)) fun t12 =>
 .op (.mv t12) fun t13 =>
 .opg t13 false (.mv (e 3)) fun t14 =>
 .opg t13 false (.mv (e 0)) fun t15 =>
 .opg t13 false (.nilCheck t15) fun t16 =>
 .opg t13 false (.fieldAddr 0 t16) fun t17 =>
 .opg t13 false (.fieldAddr 2 t17) fun t18 =>
 c127_r1_c1 e t13 t14 t18
def c127_r2 (e : Env) : Reg :=
 .op (.build [(.int .i64 0), (.int .i64 0), (.int .i64 0)] [(0, 1, (.int .i64 3))]) fun t22 =>
 .op (.store 3 (e 8) t22) fun _ =>
 .op (.mv (.bool true)) fun t9 =>
 .done (e.upd 9 t9)
def c127_r3 (e : Env) : Reg :=
 .op (.mv (e 1)) fun t24 =>
 .op (.bin .geq t24 (.int .i64 4611686018427387904)) fun t25 =>
 .op (.mv t25) fun t23 =>
 .done (e.upd 23 t23)
def c127_r4 (e : Env) : Reg :=
 .op (.build [(.int .i64 0), (.int .i64 0), (.int .i64 0)] [(0, 1, (.int .i64 2)), (2, 1, (.int .i64 9223372036854775807))]) fun t26 =>
 .op (.store 3 (e 8) t26) fun _ =>
 .op (.mv (.bool true)) fun t9 =>
 .done (e.upd 9 t9)
def c127_r5 (e : Env) : Reg :=
 .op (.mv (e 2)) fun t28 =>
 .op (.bin .gtr t28 (.int .i64 0)) fun t29 =>
 .op (.mv t29) fun t27 =>
 .done (e.upd 27 t27)
def c127_r6 (e : Env) : Reg :=
 .op (.mv (e 2)) fun t30 =>
 .op (.build [(.int .i64 0), (.int .i64 0), (.int .i64 0)] [(0, 1, (.int .i64 2)), (2, 1, t30)]) fun t31 =>
 .op (.store 3 (e 8) t31) fun _ =>
 .op (.mv (.bool true)) fun t9 =>
 .done (e.upd 9 t9)
def c127_r7 (e : Env) : Reg :=
 .op (.build [(.int .i64 0), (.int .i64 0), (.int .i64 0)] []) fun t32 =>
 .op (.store 3 (e 8) t32) fun _ =>
 .op (.mv (.bool false)) fun t9 =>
 .done (e.upd 9 t9)
def R127 := an (ro c127_r0.eq_1) <| an (ro3 c127_r1_c1.eq_1) <| an (ro c127_r1.eq_1) <| an (ro c127_r2.eq_1) <| an (ro c127_r3.eq_1) <| an (ro c127_r4.eq_1) <| an (ro c127_r5.eq_1) <| an (ro c127_r6.eq_1) <| ro c127_r7.eq_1
def c127 : CFn := ⟨(.seq (.region c127_r0) (.seq (.block 0 (.seq (.region c127_r1) (.cond (fun e => e 10) (.seq (.region c127_r2) .ret) (.seq (.region c127_r3) (.cond (fun e => e 23) (.seq (.region c127_r4) .ret) (.seq (.region c127_r5) (.cond (fun e => e 27) (.seq (.region c127_r6) .ret) .skip))))))) (.seq (.region c127_r7) .ret))), [.c 8 (some 3), .t 9]⟩
def p127 : Pers := ⟨10, [10, 23, 27], 33, []⟩
def c128_r0 (e : Env) : Reg :=
 .op (.mv (e 1)) fun t4 =>
 .done (e.upd 4 t4)
def c128_r2 (e : Env) : Reg :=
 .op (.bin .eql (e 4) (.int .i64 1)) fun t15 =>
 .op (.mv t15) fun t14 =>
 .done (e.upd 14 t14)
def c128_r3 (e : Env) : Reg :=
 .op (.mv (e 0)) fun t16 =>
 .op (.nilCheck t16) fun t17 =>
 .op (.fieldAddr 16 t17) fun t18 =>
 .op (.fieldAddr 0 t18) fun t19 =>
 .op (.load none t19) fun t20 =>
 .op (.bin .add t20 (.int .i64 1)) fun t21 =>
 .op (.nilCheck t16) fun t22 =>
 .op (.fieldAddr 16 t22) fun t23 =>
 .op (.fieldAddr 0 t23) fun t24 =>
 .op (.store 1 t24 t21) fun _ =>
 .done e
def c128_r4 (e : Env) : Reg :=
 .op (.bin .eql (e 4) (.int .i64 2)) fun t26 =>
 .op (.mv t26) fun t25 =>
 .done (e.upd 25 t25)
def c128_r5 (e : Env) : Reg :=
 .op (.mv (e 0)) fun t27 =>
 .op (.nilCheck t27) fun t28 =>
 .op (.fieldAddr 16 t28) fun t29 =>
 .op (.fieldAddr 1 t29) fun t30 =>
 .op (.load none t30) fun t31 =>
 .op (.bin .add t31 (.int .i64 1)) fun t32 =>
 .op (.nilCheck t27) fun t33 =>
 .op (.fieldAddr 16 t33) fun t34 =>
 .op (.fieldAddr 1 t34) fun t35 =>
 .op (.store 1 t35 t32) fun _ =>
 .done e
def c128_r1 (e : Env) : Reg :=
 .op (.mv (e 0)) fun t5 =>
 .op (.nilCheck t5) fun t6 =>
 .op (.fieldAddr 16 t6) fun t7 =>
 .op (.fieldAddr 2 t7) fun t8 =>
 .op (.load none t8) fun t9 =>
 .op (.bin .add t9 (.int .i64 1)) fun t10 =>
 .op (.nilCheck t5) fun t11 =>
 .op (.fieldAddr 16 t11) fun t12 =>
 .op (.fieldAddr 2 t12) fun t13 =>
 .op (.store 1 t13 t10) fun _ =>
 .done e
def R128 := an (ro c128_r0.eq_1) <| an (ro c128_r2.eq_1) <| an (ro c128_r3.eq_1) <| an (ro c128_r4.eq_1) <| an (ro c128_r5.eq_1) <| ro c128_r1.eq_1
def c128 : CFn := ⟨(.seq (.region c128_r0) (.block 0 (.seq (.region c128_r2) (.cond (fun e => e 14) (.region c128_r3) (.seq (.region c128_r4) (.cond (fun e => e 25) (.region c128_r5) (.region c128_r1))))))), []⟩
def p128 : Pers := ⟨4, [4, 14, 25], 36, []⟩
def c129_r0 (e : Env) : Reg :=
 .op (.mv (e 0)) fun t4 =>
 .op (.eqK .ptr true t4 (.pointer none)) fun t5 =>
 .done (e.upd 5 t5)
def c129_r1 (e : Env) : Reg :=
 .op (.mv (e 0)) fun t6 =>
 .op (.mv (e 0)) fun t7 =>
 .op (.nilCheck t7) fun t8 =>
 .op (.fieldAddr 6 t8) fun t9 =>
 .op (.load none t9) fun t10 =>
 .op (.mv (e 1)) fun t11 =>
 .op (.minmax true [t10, t11]) fun t12 =>
 .op (.nilCheck t6) fun t13 =>
 .op (.fieldAddr 6 t13) fun t14 =>
 .op (.store 1 t14 t12) fun _ =>
 .done e
def R129 := an (ro c129_r0.eq_1) <| ro c129_r1.eq_1
def c129 : CFn := ⟨(.seq (.region c129_r0) (.cond (fun e => e 5) (.region c129_r1) .skip)), []⟩
def p129 : Pers := ⟨4, [5], 15, []⟩
def c130_r0 (e : Env) : Reg :=
 .op (.mv (e 0)) fun t9 =>
 .op (.eqK .ptr false t9 (.pointer none)) fun t10 =>
 .op (.mv t10) fun t11 =>
 .opg t11 false (.mv (e 2)) fun t12 =>
 .opg t11 false (.bin .lss t12 (.int .i64 1)) fun t13 =>
 .op (.pick t11 (.bool true) t13) fun t14 =>
 .op (.mv t14) fun t15 =>
 .opg t15 false (.mv (e 2)) fun t16 =>
 .opg t15 false (.bin .geq t16 (.int .i64 4611686018427387904)) fun t17 =>
 .op (.pick t15 (.bool true) t17) fun t18 =>
 .op (.mv t18) fun t19 =>
 .opg t19 false (.mv (e 1)) fun t20 =>
 .opg t19 false (.lenStr t20) fun t21 =>
 .opg t19 false (.bin .gtr t21 (.int .i64 64)) fun t22 =>
 .op (.pick t19 (.bool true) t22) fun t23 =>
 .done (e.upd 23 t23)
def c130_r1 (e : Env) : Reg :=
 .op (.mv (e 0)) fun t24 =>
 .op (.nilCheck t24) fun t25 =>
 .op (.fieldAddr 6 t25) fun t26 =>
 .op (.load none t26) fun t27 =>
 .op (.mv (e 2)) fun t28 =>
 .op (.bin .sub (.int .i64 4611686018427387904) t28) fun t29 =>
 .op (.bin .geq t27 t29) fun t30 =>
 .done (e.upd 30 t30)
def c130_r2 (e : Env) : Reg :=
 .op (.mv (e 0)) fun t31 =>
 .op (.call 146 [t31]) fun t32 =>
 .done e
def c130_r3 (e : Env) : Reg :=
 .op (.mv (e 0)) fun t33 =>
 .op (.nilCheck t33) fun t34 =>
 .op (.fieldAddr 6 t34) fun t35 =>
 .op (.load none t35) fun t36 =>
 .op (.mv (e 2)) fun t37 =>
 .op (.bin .add t36 t37) fun t38 =>
 .op (.nilCheck t33) fun t39 =>
 .op (.fieldAddr 6 t39) fun t40 =>
 .op (.store 1 t40 t38) fun _ =>
 .done e
def c130_r4 (e : Env) : Reg :=
 .op (.mv (e 0)) fun t41 =>
 .op (.nilCheck t41) fun t42 =>
 .op (.fieldAddr 1 t42) fun t43 =>
 .op (.load none t43) fun t44 =>
 .op (.mv (e 1)) fun t45 =>
 .op (.call 147 [t44, t45]) fun t46 =>
 .op (.mv t46) fun t6 =>
 .done (e.upd 6 t6)
def c130_r5 (e : Env) : Reg :=
 .op (.mv (e 6)) fun t47 =>
 .op (.bin .lss t47 (.int .i64 0)) fun t48 =>
 .done (e.upd 48 t48)
def c130_r6 (e : Env) : Reg :=
 .op (.mv (.int .i64 0)) fun t7 =>
 .done (e.upd 7 t7)
def c130_r7 (e : Env) : Reg :=
 .op (.mv (e 0)) fun t49 =>
 .snap fun h1 =>
 .op (.call 148 [t49]) fun t50 =>
 .op (.mv (e 0)) fun t51 =>
 .op (.nilCheck t51) fun t52 =>
 .op (.fieldAddr 2 t52) fun t53 =>
 .op (.load none t53) fun t54 =>
 .chk none (some h1) (.load none t53) t54 <|
 .op (.lenSl t54) fun t55 =>
 .op (.bin .eql t50 t55) fun t56 =>
 .done (e.upd 56 t56)
def c130_r8 (e : Env) : Reg :=
 .op (.mv (e 0)) fun t57 =>
 .op (.call 149 [t57]) fun t58 =>
 .op (.mv t58) fun t7 =>
 .done (e.upd 7 t7)
def c130_r9 (e : Env) : Reg :=
 .op (.mv (e 0)) fun t59 =>
 .op (.nilCheck t59) fun t60 =>
 .op (.fieldAddr 1 t60) fun t61 =>
 .op (.load none t61) fun t62 =>
 .op (.mv (e 1)) fun t63 =>
 .op (.call 150 [t62, t63]) fun t64 =>
 .op (.mv t64) fun t6 =>
 .done (e.upd 6 t6)
def c130_r10 (e : Env) : Reg :=
 .op (.mv (e 0)) fun t65 =>
 .op (.nilCheck t65) fun t66 =>
 .op (.fieldAddr 2 t66) fun t67 =>
 .op (.load none t67) fun t68 =>
 .op (.mv (e 6)) fun t69 =>
 .op (.mv (e 0)) fun t70 =>
 .op (.nilCheck t70) fun t71 =>
 .op (.fieldAddr 3 t71) fun t72 =>
 .op (.load none t72) fun t73 =>
 .op (.mv (e 6)) fun t74 =>
 .op (.mv (e 7)) fun t75 =>
 .op (.mv (e 7)) fun t76 =>
 .op (.indexSl 1 t68 t69) fun t77 =>
 .snap fun h13 =>
 .op (.store 1 t77 t75) fun _ =>
 .op (.indexSl 1 t73 t74) fun t78 =>
 .snap fun h15 =>
 .op (.store 1 t78 t76) fun _ =>
 .done e
def c130_r11 (e : Env) : Reg :=
 .op (.mv (e 0)) fun t79 =>
 .op (.call 148 [t79]) fun t80 =>
 .op (.bin .sub t80 (.int .i64 1)) fun t81 =>
 .op (.mv t81) fun t8 =>
 .done (e.upd 8 t8)
def c130_r12 (e : Env) : Reg :=
 .op (.mv (e 0)) fun t82 =>
 .op (.nilCheck t82) fun t83 =>
 .op (.fieldAddr 4 t83) fun t84 =>
 .op (.load none t84) fun t85 =>
 .op (.mv (e 8)) fun t86 =>
 .op (.mv (e 0)) fun t87 =>
 .op (.nilCheck t87) fun t88 =>
 .op (.fieldAddr 5 t88) fun t89 =>
 .op (.load none t89) fun t90 =>
 .op (.mv (e 6)) fun t91 =>
 .op (.mv (e 6)) fun t92 =>
 .op (.conv .i32 t92) fun t93 =>
 .op (.mv (e 8)) fun t94 =>
 .op (.conv .i32 t94) fun t95 =>
 .op (.indexSl 1 t85 t86) fun t96 =>
 .snap fun h15 =>
 .op (.store 1 t96 t93) fun _ =>
 .op (.indexSl 1 t90 t91) fun t97 =>
 .snap fun h17 =>
 .op (.store 1 t97 t95) fun _ =>
 .done e
def c130_r13 (e : Env) : Reg :=
 .op (.mv (e 0)) fun t98 =>
 .op (.nilCheck t98) fun t99 =>
 .op (.fieldAddr 2 t99) fun t100 =>
 .op (.load none t100) fun t101 =>
 .op (.mv (e 6)) fun t102 =>
 .op (.indexSl 1 t101 t102) fun t103 =>
 .op (.load none t103) fun t104 =>
 .op (.mv (e 2)) fun t105 =>
 .op (.bin .add t104 t105) fun t106 =>
 .op (.indexSl 1 t101 t102) fun t107 =>
 .op (.store 1 t107 t106) fun _ =>
 .done e
def c130_r14 (e : Env) : Reg :=
 .op (.mv (e 0)) fun t108 =>
 .op (.mv (e 6)) fun t109 =>
 .op (.call 151 [t108, t109]) fun t110 =>
 .done e
def c130 : CFn := ⟨(.seq (.seq (.region c130_r0) (.cond (fun e => e 23) .ret .skip)) (.seq (.seq (.region c130_r1) (.cond (fun e => e 30) (.region c130_r2) .skip)) (.seq (.region c130_r3) (.seq (.region c130_r4) (.seq (.seq (.region c130_r5) (.cond (fun e => e 48) (.seq (.region c130_r6) (.seq (.seq (.region c130_r7) (.cond (fun e => e 56) (.region c130_r8) .skip)) (.seq (.region c130_r9) (.seq (.region c130_r10) (.seq (.region c130_r11) (.region c130_r12)))))) .skip)) (.seq (.region c130_r13) (.region c130_r14))))))), []⟩
def p130 : Pers := ⟨9, [23, 30, 48, 56], 111, []⟩
def c131_r0 (e : Env) : Reg :=
 .op (.mv (.pointer none)) fun t6 =>
 .op (.mv (.slice none 0 0)) fun t7 =>
 .done ((e.upd 6 t6).upd 7 t7)
def c131_r1 (e : Env) : Reg :=
 .op (.mv (e 0)) fun t15 =>
 .op (.nilCheck t15) fun t16 =>
 .op (.fieldAddr 13 t16) fun t17 =>
 .op (.load none t17) fun t18 =>
 .op (.mv (e 2)) fun t19 =>
 .op (.call 139 [t18, t19]) fun t20 =>
 .op (.mv t20) fun t8 =>
 .done (e.upd 8 t8)
def c131_r2 (e : Env) : Reg :=
 .op (.mv (e 8)) fun t21 =>
 .op (.eqK .ptr true t21 (.pointer none)) fun t22 =>
 .done (e.upd 22 t22)
def c131_r3 (e : Env) : Reg :=
 .op (.mv (e 8)) fun t23 =>
 .op (.mv t23) fun t6 =>
 .op (.mv (.slice none 0 0)) fun t7 =>
 .done ((e.upd 6 t6).upd 7 t7)
def c131_r4 (e : Env) : Reg :=
 .op (.mv (.slice none 0 0)) fun t9 =>
 .done (e.upd 9 t9)
def c131_r5 (e : Env) : Reg :=
 .op (.mv (e 0)) fun t24 =>
 .op (.nilCheck t24) fun t25 =>
 .op (.fieldAddr 13 t25) fun t26 =>
 .op (.load none t26) fun t27 =>
 .op (.call 141 [t27]) fun t28 =>
 .done (e.upd 28 t28)
def c131_r6 (e : Env) : Reg :=
 .op (.mv (e 0)) fun t30 =>
 .op (.nilCheck t30) fun t31 =>
 .op (.fieldAddr 13 t31) fun t32 =>
 .op (.load none t32) fun t33 =>
 .op (.mv (e 0)) fun t34 =>
 .op (.nilCheck t34) fun t35 =>
 .op (.fieldAddr 9 t35) fun t36 =>
 .op (.load (some 4) t36) fun t37 =>
 .op (.mv (e 1)) fun t38 =>
 .snap fun h9 =>
 .op (.call 140 [t33, t37, t38]) fun t39 =>
 .op (.mv t39) fun t29 =>
 .op (.extract t29 0) fun t40 =>
 .op (.extract t29 1) fun t41 =>
 .op (.mv t40) fun t10 =>
 .op (.mv t41) fun t11 =>
 .done ((e.upd 10 t10).upd 11 t11)
def c131_r7 (e : Env) : Reg :=
 .op (.mv (e 11)) fun t42 =>
 .op (.un .not t42) fun t43 =>
 .done (e.upd 43 t43)
def c131_r8 (e : Env) : Reg :=
 .op (.mv (e 0)) fun t45 =>
 .op (.mv (e 2)) fun t46 =>
 .op (.call 152 [t45, t46]) fun t47 =>
 .op (.mv t47) fun t44 =>
 .op (.extract t44 0) fun t48 =>
 .op (.extract t44 1) fun t49 =>
 .op (.mv t48) fun t10 =>
 .op (.mv t49) fun t11 =>
 .done ((e.upd 10 t10).upd 11 t11)
def c131_r9 (e : Env) : Reg :=
 .op (.mv (e 11)) fun t50 =>
 .op (.un .not t50) fun t51 =>
 .done (e.upd 51 t51)
def c131_r10 (e : Env) : Reg :=
 .op (.mv (.pointer none)) fun t6 =>
 .op (.mv (.slice none 0 0)) fun t7 =>
 .done ((e.upd 6 t6).upd 7 t7)
def c131_r11 (e : Env) : Reg :=
 .op (.mv (e 0)) fun t53 =>
 .op (.nilCheck t53) fun t54 =>
 .op (.fieldAddr 13 t54) fun t55 =>
 .op (.load none t55) fun t56 =>
 .op (.mv (e 10)) fun t57 =>
 .op (.call 153 [t56, t57]) fun t58 =>
 .op (.mv t58) fun t52 =>
 .op (.extract t52 0) fun t59 =>
 .op (.extract t52 1) fun t60 =>
 .op (.alloc 250 [(.int .i64 0), (.int .i64 0), (.int .i64 0), (.int .i64 0)]) fun t12 =>
 .op (.store 4 t12 t59) fun _ =>
 .op (.mv t60) fun t13 =>
 .done ((e.upd 12 t12).upd 13 t13)
def c131_r12 (e : Env) : Reg :=
 .op (.mv (e 0)) fun t61 =>
 .op (.nilCheck t61) fun t62 =>
 .op (.fieldAddr 14 t62) fun t63 =>
 .op (.load none t63) fun t64 =>
 .op (.mv (e 10)) fun t65 =>
 .op (.load (some 4) (e 12)) fun t66 =>
 .op (.mv (e 0)) fun t67 =>
 .op (.nilCheck t67) fun t68 =>
 .op (.fieldAddr 9 t68) fun t69 =>
 .op (.load (some 4) t69) fun t70 =>
 .op (.mv (e 1)) fun t71 =>
 .snap fun h11 =>
 .op (.call 154 [t66, t70, t71]) fun t72 =>
 .chk none none (.load none t63) t64 <|
 .snap fun h12 =>
 .op (.call 136 [t64, t65, t72]) fun t73 =>
 .done e
def c131_r13 (e : Env) : Reg :=
 .op (.mv (e 9)) fun t74 =>
 .op (.mv (e 10)) fun t75 =>
 .op (.mv (e 1)) fun t76 =>
 .op (.build [(.int .i64 0), (.string ⟨#[]⟩), (.bool false), (.int .i64 0)] [(1, 1, t75), (3, 1, t76)]) fun t77 =>
 .op (.buildSlice 123 1 [(.int .i64 0), (.string ⟨#[]⟩), (.bool false), (.int .i64 0)] [(0, 4, t77)]) fun t78 =>
 .op (.append 123 4 40 t74 t78) fun t79 =>
 .op (.mv t79) fun t9 =>
 .done (e.upd 9 t9)
def c131_r14 (e : Env) : Reg :=
 .op (.mv (e 0)) fun t80 =>
 .op (.nilCheck t80) fun t81 =>
 .op (.fieldAddr 13 t81) fun t82 =>
 .op (.load none t82) fun t83 =>
 .op (.mv (e 2)) fun t84 =>
 .op (.mv (e 1)) fun t85 =>
 .op (.mv (e 0)) fun t86 =>
 .op (.nilCheck t86) fun t87 =>
 .op (.fieldAddr 14 t87) fun t88 =>
 .op (.load none t88) fun t89 =>
 .op (.mv (e 2)) fun t90 =>
 .snap fun h11 =>
 .op (.call 135 [t89, t90]) fun t91 =>
 .chk none none (.load none t82) t83 <|
 .snap fun h12 =>
 .op (.call 142 [t85, t91]) fun t92 =>
 .chk none none (.load none t82) t83 <|
 .snap fun h13 =>
 .op (.call 155 [t83, t84, t92]) fun t93 =>
 .op (.mv t93) fun t14 =>
 .done (e.upd 14 t14)
def c131_r15 (e : Env) : Reg :=
 .op (.mv (e 14)) fun t94 =>
 .op (.mv (e 9)) fun t95 =>
 .op (.mv (e 2)) fun t96 =>
 .op (.mv (e 1)) fun t97 =>
 .op (.build [(.int .i64 0), (.string ⟨#[]⟩), (.bool false), (.int .i64 0)] [(1, 1, t96), (2, 1, (.bool true)), (3, 1, t97)]) fun t98 =>
 .op (.buildSlice 123 1 [(.int .i64 0), (.string ⟨#[]⟩), (.bool false), (.int .i64 0)] [(0, 4, t98)]) fun t99 =>
 .op (.append 123 4 40 t95 t99) fun t100 =>
 .op (.mv t94) fun t6 =>
 .op (.mv t100) fun t7 =>
 .done ((e.upd 6 t6).upd 7 t7)
def c131 : CFn := ⟨(.seq (.region c131_r0) (.seq (.seq (.region c131_r1) (.seq (.region c131_r2) (.cond (fun e => e 22) (.seq (.region c131_r3) .ret) .skip))) (.seq (.region c131_r4) (.seq (.seq (.region c131_r5) (.cond (fun e => e 28) (.seq (.region c131_r6) (.seq (.seq (.region c131_r7) (.cond (fun e => e 43) (.region c131_r8) .skip)) (.seq (.seq (.region c131_r9) (.cond (fun e => e 51) (.seq (.region c131_r10) .ret) .skip)) (.seq (.region c131_r11) (.seq (.region c131_r12) (.region c131_r13)))))) .skip)) (.seq (.region c131_r14) (.seq (.region c131_r15) .ret)))))), [.t 6, .t 7]⟩
def p131 : Pers := ⟨15, [22, 28, 43, 51], 101, []⟩
def c132_r0 (e : Env) : Reg :=
 .op (.box 126 (e 1)) fun t5 =>
 .op (.mv (.bool false)) fun t8 =>
 .done ((e.upd 5 t5).upd 8 t8)
def c132_r1 (e : Env) : Reg :=
 .op (.mv (e 3)) fun t9 =>
 .op (.bin .lss t9 (.int .i64 1)) fun t10 =>
 .op (.mv t10) fun t11 =>
 .opg t11 false (.mv (e 3)) fun t12 =>
 .opg t11 false (.mv (e 0)) fun t13 =>
 .opg t11 false (.nilCheck t13) fun t14 =>
 .opg t11 false (.load (some 4) t14) fun t15 =>
 .opg t11 false (.load (some 4) (e 5)) fun t16 =>
 .opg t11 false (.mv (e 2)) fun t17 =>
 .snap fun h9 =>
 .opg t11 false (.call 134 [t15, t16, t17]) fun t18 =>
 .opg t11 false (.bin .gtr t12 t18) fun t19 =>
 .op (.pick t11 (.bool true) t19) fun t20 =>
 .done (e.upd 20 t20)
def c132_r2 (e : Env) : Reg :=
 .op (.mv (.bool false)) fun t8 =>
 .done (e.upd 8 t8)
def c132_r3 (e : Env) : Reg :=
 .op (.mv (e 0)) fun t21 =>
 .op (.mv (e 0)) fun t22 =>
 .op (.nilCheck t22) fun t23 =>
 .op (.fieldAddr 0 t23) fun t24 =>
 .op (.load none t24) fun t25 =>
 .op (.mv (e 2)) fun t26 =>
 .op (.minmax true [t25, t26]) fun t27 =>
 .op (.mv (e 3)) fun t28 =>
 .op (.fieldAddr 0 (e 5)) fun t29 =>
 .op (.load none t29) fun t30 =>
 .op (.bin .mul t28 t30) fun t31 =>
 .op (.bin .add t27 t31) fun t32 =>
 .op (.nilCheck t21) fun t33 =>
 .op (.fieldAddr 0 t33) fun t34 =>
 .snap fun h14 =>
 .op (.store 1 t34 t32) fun _ =>
 .done e
def c132_r4 (e : Env) : Reg :=
 .op (.mv (e 0)) fun t35 =>
 .op (.mv (e 0)) fun t36 =>
 .op (.nilCheck t36) fun t37 =>
 .op (.fieldAddr 3 t37) fun t38 =>
 .op (.load none t38) fun t39 =>
 .op (.mv (e 3)) fun t40 =>
 .op (.call 126 [t39, t40]) fun t41 =>
 .op (.nilCheck t35) fun t42 =>
 .op (.fieldAddr 3 t42) fun t43 =>
 .op (.store 1 t43 t41) fun _ =>
 .done e
def c132_r5 (e : Env) : Reg :=
 .op (.mv (.bool true)) fun t8 =>
 .done (e.upd 8 t8)
def c132 : CFn := ⟨(.seq (.region c132_r0) (.seq (.seq (.region c132_r1) (.cond (fun e => e 20) (.seq (.region c132_r2) .ret) .skip)) (.seq (.region c132_r3) (.seq (.region c132_r4) (.seq (.region c132_r5) .ret))))), [.t 8]⟩
def p132 : Pers := ⟨9, [20], 44, []⟩
def c134_r0 (e : Env) : Reg :=
 .op (.box 250 (e 0)) fun t3 =>
 .op (.box 126 (e 1)) fun t4 =>
 .op (.mv (.int .i64 0)) fun t6 =>
 .done (((e.upd 3 t3).upd 4 t4).upd 6 t6)
def c134_r1 (e : Env) : Reg :=
 .op (.fieldAddr 2 (e 4)) fun t9 =>
 .op (.load none t9) fun t10 =>
 .op (.mv t10) fun t7 =>
 .done (e.upd 7 t7)
def c134_r2 (e : Env) : Reg :=
 .op (.fieldAddr 0 (e 3)) fun t11 =>
 .op (.load none t11) fun t12 =>
 .op (.mv (e 2)) fun t13 =>
 .op (.bin .sub t12 t13) fun t14 =>
 .op (.mv t14) fun t8 =>
 .done (e.upd 8 t8)
def c134_r3 (e : Env) : Reg :=
 .op (.mv (e 8)) fun t15 =>
 .op (.bin .gtr t15 (.int .i64 0)) fun t16 =>
 .done (e.upd 16 t16)
def c134_r4 (e : Env) : Reg :=
 .op (.fieldAddr 2 (e 4)) fun t17 =>
 .op (.load none t17) fun t18 =>
 .op (.fieldAddr 0 (e 4)) fun t19 =>
 .op (.load none t19) fun t20 =>
 .op (.bin .mul t18 t20) fun t21 =>
 .op (.mv (e 8)) fun t22 =>
 .op (.bin .sub t21 t22) fun t23 =>
 .op (.fieldAddr 0 (e 4)) fun t24 =>
 .op (.load none t24) fun t25 =>
 .op (.bin .quo t23 t25) fun t26 =>
 .op (.minmax true [t26, (.int .i64 0)]) fun t27 =>
 .op (.mv t27) fun t7 =>
 .done (e.upd 7 t7)
def c134_r5 (e : Env) : Reg :=
 .op (.fieldAddr 2 (e 4)) fun t28 =>
 .op (.load none t28) fun t29 =>
 .op (.fieldAddr 0 (e 4)) fun t30 =>
 .op (.load none t30) fun t31 =>
 .op (.bin .mul t29 t31) fun t32 =>
 .op (.mv (e 8)) fun t33 =>
 .op (.bin .lss t32 t33) fun t34 =>
 .done (e.upd 34 t34)
def c134_r6 (e : Env) : Reg :=
 .op (.mv (.int .i64 0)) fun t7 =>
 .done (e.upd 7 t7)
def c134_r7 (e : Env) : Reg :=
 .op (.load (some 4) (e 3)) fun t35 =>
 .op (.load (some 4) (e 4)) fun t36 =>
 .op (.mv (e 2)) fun t37 =>
 .op (.call 156 [t35, t36, t37]) fun t38 =>
 .done (e.upd 38 t38)
def c134_r8 (e : Env) : Reg :=
 .op (.mv (e 7)) fun t39 =>
 .op (.fieldAddr 3 (e 4)) fun t40 =>
 .op (.load none t40) fun t41 =>
 .op (.fieldAddr 2 (e 3)) fun t42 =>
 .op (.load none t42) fun t43 =>
 .op (.fieldAddr 3 (e 3)) fun t44 =>
 .op (.load none t44) fun t45 =>
 .snap fun h7 =>
 .op (.call 126 [t43, t45]) fun t46 =>
 .chk none none (.load none t40) t41 <|
 .op (.bin .sub t41 t46) fun t47 =>
 .op (.minmax true [t47, (.int .i64 0)]) fun t48 =>
 .op (.minmax false [t39, t48]) fun t49 =>
 .op (.mv t49) fun t7 =>
 .done (e.upd 7 t7)
def c134_r9 (e : Env) : Reg :=
 .op (.mv (e 7)) fun t50 =>
 .op (.mv t50) fun t6 =>
 .done (e.upd 6 t6)
def c134 : CFn := ⟨(.seq (.region c134_r0) (.seq (.region c134_r1) (.seq (.seq (.region c134_r2) (.seq (.region c134_r3) (.cond (fun e => e 16) (.seq (.region c134_r4) (.seq (.region c134_r5) (.cond (fun e => e 34) (.region c134_r6) .skip))) .skip))) (.seq (.seq (.region c134_r7) (.cond (fun e => e 38) (.region c134_r8) .skip)) (.seq (.region c134_r9) .ret))))), [.t 6]⟩
def p134 : Pers := ⟨9, [16, 34, 38], 51, []⟩
def c135_r0 (e : Env) : Reg :=
 .op (.mv (.int .i64 0)) fun t4 =>
 .done (e.upd 4 t4)
def c135_r1 (e : Env) : Reg :=
 .op (.mv (e 0)) fun t5 =>
 .op (.eqK .ptr false t5 (.pointer none)) fun t6 =>
 .done (e.upd 6 t6)
def c135_r2 (e : Env) : Reg :=
 .op (.mv (.int .i64 0)) fun t4 =>
 .done (e.upd 4 t4)
def c135_r3_c2 (e : Env) (t7 : Value) (t8 : Value) (h7 : Heap) (t14 : Value) (t18 : Value) (t20 : Value) : Reg :=
 .op (.fieldAddr 2 t20) fun t21 =>
 .op (.load none t21) fun t22 =>
 .chk none (some h7) (.load none t21) t22 <|
 .op (.bin .rem t18 t22) fun t23 =>
 .snap fun h17 =>
 .op (.call 157 [t7, t8, t14, t23]) fun t24 =>
 .op (.mv t24) fun t4 =>
 .done (e.upd 4 t4)
def c135_r3_c1 (e : Env) (t7 : Value) (t8 : Value) (t9 : Value) (t13 : Value) (h7 : Heap) : Reg :=
 .op (.call 158 [t9, t13]) fun t14 =>
 .op (.mv (e 0)) fun t15 =>
 .op (.nilCheck t15) fun t16 =>
 .op (.fieldAddr 6 t16) fun t17 =>
 .op (.load none t17) fun t18 =>
 .chk none (some h7) (.load none t17) t18 <|
 .op (.mv (e 0)) fun t19 =>
 .op (.nilCheck t19) fun t20 =>
 c135_r3_c2 e t7 t8 h7 t14 t18 t20
def c135_r3 (e : Env) : Reg :=
 .op (.mv (e 0)) fun t7 =>
 .op (.mv (e 1)) fun t8 =>
 .op (.mv (e 0)) fun t9 =>
 .op (.mv (e 0)) fun t10 =>
 .op (.nilCheck t10) fun t11 =>
 .op (.fieldAddr 6 t11) fun t12 =>
 .op (.load none t12) fun t13 =>
 .snap fun h7 =>
 c135_r3_c1 e t7 t8 t9 t13 h7
def R135 := an (ro c135_r0.eq_1) <| an (ro c135_r1.eq_1) <| an (ro c135_r2.eq_1) <| an (ro6 c135_r3_c2.eq_1) <| an (ro5 c135_r3_c1.eq_1) <| ro c135_r3.eq_1
def c135 : CFn := ⟨(.seq (.region c135_r0) (.seq (.seq (.region c135_r1) (.cond (fun e => e 6) (.seq (.region c135_r2) .ret) .skip)) (.seq (.region c135_r3) .ret))), [.t 4]⟩
def p135 : Pers := ⟨5, [6], 25, []⟩
def c136_r0 (e : Env) : Reg :=
 .op (.mv (e 0)) fun t8 =>
 .op (.eqK .ptr false t8 (.pointer none)) fun t9 =>
 .done (e.upd 9 t9)
def c136_r1 (e : Env) : Reg :=
 .op (.mv (e 0)) fun t10 =>
 .op (.mv (e 0)) fun t11 =>
 .op (.nilCheck t11) fun t12 =>
 .op (.fieldAddr 6 t12) fun t13 =>
 .op (.load none t13) fun t14 =>
 .op (.call 158 [t10, t14]) fun t15 =>
 .op (.mv t15) fun t6 =>
 .done (e.upd 6 t6)
def c136_r2 (e : Env) : Reg :=
 .op (.mv (e 6)) fun t16 =>
 .op (.mv (e 0)) fun t17 =>
 .op (.nilCheck t17) fun t18 =>
 .op (.fieldAddr 0 t18) fun t19 =>
 .op (.load none t19) fun t20 =>
 .op (.lenSl t20) fun t21 =>
 .op (.bin .rem t16 t21) fun t22 =>
 .op (.mv t22) fun t7 =>
 .done (e.upd 7 t7)
def c136_r3 (e : Env) : Reg :=
 .op (.mv (e 0)) fun t23 =>
 .op (.nilCheck t23) fun t24 =>
 .op (.fieldAddr 1 t24) fun t25 =>
 .op (.load none t25) fun t26 =>
 .op (.mv (e 7)) fun t27 =>
 .op (.indexSl 1 t26 t27) fun t28 =>
 .op (.load none t28) fun t29 =>
 .op (.mv (e 6)) fun t30 =>
 .op (.bin .add t30 (.int .i64 1)) fun t31 =>
 .op (.bin .neq t29 t31) fun t32 =>
 .done (e.upd 32 t32)
def c136_r4 (e : Env) : Reg :=
 .op (.mv (e 0)) fun t33 =>
 .op (.nilCheck t33) fun t34 =>
 .op (.fieldAddr 0 t34) fun t35 =>
 .op (.load none t35) fun t36 =>
 .op (.mv (e 7)) fun t37 =>
 .op (.indexSl 1 t36 t37) fun t38 =>
 .op (.load none t38) fun t39 =>
 .op (.call 159 [t39]) fun t40 =>
 .done e
def c136_r5 (e : Env) : Reg :=
 .op (.mv (e 0)) fun t41 =>
 .op (.nilCheck t41) fun t42 =>
 .op (.fieldAddr 1 t42) fun t43 =>
 .op (.load none t43) fun t44 =>
 .op (.mv (e 7)) fun t45 =>
 .op (.mv (e 6)) fun t46 =>
 .op (.bin .add t46 (.int .i64 1)) fun t47 =>
 .op (.indexSl 1 t44 t45) fun t48 =>
 .op (.store 1 t48 t47) fun _ =>
 .done e
def c136_r6 (e : Env) : Reg :=
 .op (.mv (e 0)) fun t49 =>
 .op (.nilCheck t49) fun t50 =>
 .op (.fieldAddr 0 t50) fun t51 =>
 .op (.load none t51) fun t52 =>
 .op (.mv (e 7)) fun t53 =>
 .op (.indexSl 1 t52 t53) fun t54 =>
 .op (.load none t54) fun t55 =>
 .op (.mv (e 1)) fun t56 =>
 .op (.mv (e 2)) fun t57 =>
 .op (.call 160 [t55, t56, t57]) fun t58 =>
 .done e
def R136 := an (ro c136_r0.eq_1) <| an (ro c136_r1.eq_1) <| an (ro c136_r2.eq_1) <| an (ro c136_r3.eq_1) <| an (ro c136_r4.eq_1) <| an (ro c136_r5.eq_1) <| ro c136_r6.eq_1
def c136 : CFn := ⟨(.seq (.seq (.region c136_r0) (.cond (fun e => e 9) .ret .skip)) (.seq (.region c136_r1) (.seq (.region c136_r2) (.seq (.seq (.region c136_r3) (.cond (fun e => e 32) (.seq (.region c136_r4) (.region c136_r5)) .skip)) (.region c136_r6))))), []⟩
def p136 : Pers := ⟨8, [9, 32], 59, []⟩
def c139_r0 (e : Env) : Reg :=
 .op (.mv (.pointer none)) fun t4 =>
 .done (e.upd 4 t4)
def c139_r1 (e : Env) : Reg :=
 .op (.mv (e 0)) fun t6 =>
 .op (.eqK .ptr false t6 (.pointer none)) fun t7 =>
 .done (e.upd 7 t7)
def c139_r2 (e : Env) : Reg :=
 .op (.mv (.pointer none)) fun t4 =>
 .done (e.upd 4 t4)
def c139_r3 (e : Env) : Reg :=
 .op (.mv (e 0)) fun t8 =>
 .op (.nilCheck t8) fun t9 =>
 .op (.fieldAddr 1 t9) fun t10 =>
 .op (.load none t10) fun t11 =>
 .op (.mv (e 1)) fun t12 =>
 .op (.call 147 [t11, t12]) fun t13 =>
 .op (.mv t13) fun t5 =>
 .done (e.upd 5 t5)
def c139_r4 (e : Env) : Reg :=
 .op (.mv (e 5)) fun t14 =>
 .op (.bin .geq t14 (.int .i64 0)) fun t15 =>
 .done (e.upd 15 t15)
def c139_r5 (e : Env) : Reg :=
 .op (.mv (e 0)) fun t16 =>
 .op (.nilCheck t16) fun t17 =>
 .op (.fieldAddr 2 t17) fun t18 =>
 .op (.load none t18) fun t19 =>
 .op (.mv (e 5)) fun t20 =>
 .op (.indexSl 4 t19 t20) fun t21 =>
 .op (.mv t21) fun t4 =>
 .done (e.upd 4 t4)
def c139_r6 (e : Env) : Reg :=
 .op (.mv (.pointer none)) fun t4 =>
 .done (e.upd 4 t4)
def c139 : CFn := ⟨(.seq (.region c139_r0) (.seq (.seq (.region c139_r1) (.cond (fun e => e 7) (.seq (.region c139_r2) .ret) .skip)) (.seq (.seq (.region c139_r3) (.seq (.region c139_r4) (.cond (fun e => e 15) (.seq (.region c139_r5) .ret) .skip))) (.seq (.region c139_r6) .ret)))), [.t 4]⟩
def p139 : Pers := ⟨6, [7, 15], 22, []⟩
def c141_r0 (e : Env) : Reg :=
 .op (.mv (.bool false)) fun t2 =>
 .done (e.upd 2 t2)
def c141_r1 (e : Env) : Reg :=
 .op (.mv (e 0)) fun t3 =>
 .op (.eqK .ptr false t3 (.pointer none)) fun t4 =>
 .op (.mv t4) fun t5 =>
 .opg t5 false (.mv (e 0)) fun t6 =>
 .snap fun h4 =>
 .opg t5 false (.call 49 [t6]) fun t7 =>
 .opg t5 false (.mv (e 0)) fun t8 =>
 .opg t5 false (.nilCheck t8) fun t9 =>
 .opg t5 false (.fieldAddr 2 t9) fun t10 =>
 .opg t5 false (.load none t10) fun t11 =>
 .chk (some (t5, false)) (some h4) (.load none t10) t11 <|
 .opg t5 false (.lenSl t11) fun t12 =>
 .opg t5 false (.bin .eql t7 t12) fun t13 =>
 .op (.pick t5 (.bool true) t13) fun t14 =>
 .op (.mv t14) fun t2 =>
 .done (e.upd 2 t2)
def c141 : CFn := ⟨(.seq (.region c141_r0) (.seq (.region c141_r1) .ret)), [.t 2]⟩
def p141 : Pers := ⟨3, [], 15, []⟩
def c142_r0 (e : Env) : Reg :=
 .op (.alloc 250 [(.int .i64 0), (.int .i64 0), (.int .i64 0), (.int .i64 0)]) fun t4 =>
 .done (e.upd 4 t4)
def c142_r1 (e : Env) : Reg :=
 .op (.mv (e 0)) fun t5 =>
 .op (.mv (e 0)) fun t6 =>
 .op (.mv (e 1)) fun t7 =>
 .op (.build [(.int .i64 0), (.int .i64 0), (.int .i64 0), (.int .i64 0)] [(0, 1, t5), (1, 1, t6), (2, 1, t7)]) fun t8 =>
 .op (.store 4 (e 4) t8) fun _ =>
 .done e
def c142 : CFn := ⟨(.seq (.region c142_r0) (.seq (.region c142_r1) .ret)), [.c 4 (some 4)]⟩
def p142 : Pers := ⟨5, [], 9, []⟩
def c144_r0 (e : Env) : Reg :=
 .op (.mv (.int .i64 0)) fun t4 =>
 .op (.mv (.bool false)) fun t5 =>
 .done ((e.upd 4 t4).upd 5 t5)
def c144_r1 (e : Env) : Reg :=
 .op (.mv (e 0)) fun t7 =>
 .op (.mv (e 1)) fun t8 =>
 .op (.bin .add t7 t8) fun t9 =>
 .op (.mv t9) fun t6 =>
 .done (e.upd 6 t6)
def c144_r2 (e : Env) : Reg :=
 .op (.mv (e 6)) fun t10 =>
 .op (.mv (e 6)) fun t11 =>
 .op (.mv (e 0)) fun t12 =>
 .op (.bin .gtr t11 t12) fun t13 =>
 .op (.mv (e 1)) fun t14 =>
 .op (.bin .gtr t14 (.int .i64 0)) fun t15 =>
 .op (.eqK .bool false t13 t15) fun t16 =>
 .op (.mv t10) fun t4 =>
 .op (.mv t16) fun t5 =>
 .done ((e.upd 4 t4).upd 5 t5)
def R144 := an (ro c144_r0.eq_1) <| an (ro c144_r1.eq_1) <| ro c144_r2.eq_1
def c144 : CFn := ⟨(.seq (.region c144_r0) (.seq (.region c144_r1) (.seq (.region c144_r2) .ret))), [.t 4, .t 5]⟩
def p144 : Pers := ⟨7, [], 17, []⟩
def c145_r0 (e : Env) : Reg :=
 .op (.mv (.int .i64 0)) fun t2 =>
 .done (e.upd 2 t2)
def c145_r1 (e : Env) : Reg :=
 .op (.mv (e 0)) fun t3 =>
 .done (e.upd 3 t3)
def c145_r2 (e : Env) : Reg :=
 .op (.mv (.int .i64 (-9223372036854775808))) fun t2 =>
 .done (e.upd 2 t2)
def c145_r3 (e : Env) : Reg :=
 .op (.mv (.int .i64 9223372036854775807)) fun t2 =>
 .done (e.upd 2 t2)
def R145 := an (ro c145_r0.eq_1) <| an (ro c145_r1.eq_1) <| an (ro c145_r2.eq_1) <| ro c145_r3.eq_1
def c145 : CFn := ⟨(.seq (.region c145_r0) (.seq (.seq (.region c145_r1) (.cond (fun e => e 3) (.seq (.region c145_r2) .ret) .skip)) (.seq (.region c145_r3) .ret))), [.t 2]⟩
def p145 : Pers := ⟨3, [3], 4, []⟩
def c147_r0 (e : Env) : Reg :=
 .op (.mv (.int .i64 0)) fun t4 =>
 .done (e.upd 4 t4)
def c147_r1 (e : Env) : Reg :=
 .op (.mv (e 0)) fun t7 =>
 .op (.eqK .ptr false t7 (.pointer none)) fun t8 =>
 .done (e.upd 8 t8)
def c147_r2 (e : Env) : Reg :=
 .op (.mv (.int .i64 (-1))) fun t4 =>
 .done (e.upd 4 t4)
def c147_r3 (e : Env) : Reg :=
 .op (.mv (e 0)) fun t10 =>
 .op (.mv (e 1)) fun t11 =>
 .op (.call 165 [t10, t11]) fun t12 =>
 .op (.mv t12) fun t9 =>
 .op (.extract t9 0) fun t13 =>
 .op (.extract t9 1) fun t14 =>
 .op (.mv t13) fun t5 =>
 .op (.mv t14) fun t6 =>
 .done ((e.upd 5 t5).upd 6 t6)
def c147_r4 (e : Env) : Reg :=
 .op (.mv (e 6)) fun t15 =>
 .op (.mv t15) fun t4 =>
 .done (e.upd 4 t4)
def c147 : CFn := ⟨(.seq (.region c147_r0) (.seq (.seq (.region c147_r1) (.cond (fun e => e 8) (.seq (.region c147_r2) .ret) .skip)) (.seq (.region c147_r3) (.seq (.region c147_r4) .ret)))), [.t 4]⟩
def p147 : Pers := ⟨7, [8], 16, []⟩
def c148_r0 (e : Env) : Reg :=
 .op (.mv (.int .i64 0)) fun t2 =>
 .done (e.upd 2 t2)
def c148_r1 (e : Env) : Reg :=
 .op (.mv (e 0)) fun t3 =>
 .op (.eqK .ptr false t3 (.pointer none)) fun t4 =>
 .done (e.upd 4 t4)
def c148_r2 (e : Env) : Reg :=
 .op (.mv (.int .i64 0)) fun t2 =>
 .done (e.upd 2 t2)
def c148_r3 (e : Env) : Reg :=
 .op (.mv (e 0)) fun t5 =>
 .op (.nilCheck t5) fun t6 =>
 .op (.fieldAddr 0 t6) fun t7 =>
 .op (.load none t7) fun t8 =>
 .op (.call 70 [t8]) fun t9 =>
 .op (.mv t9) fun t2 =>
 .done (e.upd 2 t2)
def c148 : CFn := ⟨(.seq (.region c148_r0) (.seq (.seq (.region c148_r1) (.cond (fun e => e 4) (.seq (.region c148_r2) .ret) .skip)) (.seq (.region c148_r3) .ret))), [.t 2]⟩
def p148 : Pers := ⟨3, [4], 10, []⟩
def c150_r0 (e : Env) : Reg :=
 .op (.mv (.int .i64 0)) fun t4 =>
 .done (e.upd 4 t4)
def c150_r1 (e : Env) : Reg :=
 .op (.mv (e 0)) fun t7 =>
 .op (.eqK .ptr false t7 (.pointer none)) fun t8 =>
 .done (e.upd 8 t8)
def c150_r2 (e : Env) : Reg :=
 .op (.mv (.int .i64 (-1))) fun t4 =>
 .done (e.upd 4 t4)
def c150_r3 (e : Env) : Reg :=
 .op (.mv (e 0)) fun t10 =>
 .op (.mv (e 1)) fun t11 =>
 .op (.call 165 [t10, t11]) fun t12 =>
 .op (.mv t12) fun t9 =>
 .op (.extract t9 0) fun t13 =>
 .op (.extract t9 1) fun t14 =>
 .op (.mv t13) fun t5 =>
 .op (.mv t14) fun t6 =>
 .done ((e.upd 5 t5).upd 6 t6)
def c150_r4 (e : Env) : Reg :=
 .op (.mv (e 6)) fun t15 =>
 .op (.bin .geq t15 (.int .i64 0)) fun t16 =>
 .done (e.upd 16 t16)
def c150_r5 (e : Env) : Reg :=
 .op (.mv (.int .i64 (-1))) fun t4 =>
 .done (e.upd 4 t4)
def c150_r6 (e : Env) : Reg :=
 .op (.mv (e 0)) fun t17 =>
 .op (.nilCheck t17) fun t18 =>
 .op (.fieldAddr 0 t18) fun t19 =>
 .op (.load none t19) fun t20 =>
 .op (.mv (e 1)) fun t21 =>
 .op (.call 168 [t20, t21]) fun t22 =>
 .op (.mv t22) fun t6 =>
 .done (e.upd 6 t6)
def c150_r7 (e : Env) : Reg :=
 .op (.mv (e 6)) fun t23 =>
 .op (.bin .geq t23 (.int .i64 0)) fun t24 =>
 .done (e.upd 24 t24)
def c150_r8 (e : Env) : Reg :=
 .op (.mv (e 0)) fun t25 =>
 .op (.nilCheck t25) fun t26 =>
 .op (.fieldAddr 4 t26) fun t27 =>
 .op (.load none t27) fun t28 =>
 .op (.mv (e 5)) fun t29 =>
 .op (.mv (e 6)) fun t30 =>
 .op (.conv .i32 t30) fun t31 =>
 .op (.bin .add t31 (.int .i32 1)) fun t32 =>
 .op (.indexSl 1 t28 t29) fun t33 =>
 .op (.store 1 t33 t32) fun _ =>
 .done e
def c150_r9 (e : Env) : Reg :=
 .op (.mv (e 6)) fun t34 =>
 .op (.mv t34) fun t4 =>
 .done (e.upd 4 t4)
def c150 : CFn := ⟨(.seq (.region c150_r0) (.seq (.seq (.region c150_r1) (.cond (fun e => e 8) (.seq (.region c150_r2) .ret) .skip)) (.seq (.region c150_r3) (.seq (.seq (.region c150_r4) (.cond (fun e => e 16) (.seq (.region c150_r5) .ret) .skip)) (.seq (.seq (.region c150_r6) (.seq (.region c150_r7) (.cond (fun e => e 24) (.region c150_r8) .skip))) (.seq (.region c150_r9) .ret)))))), [.t 4]⟩
def p150 : Pers := ⟨7, [8, 16, 24], 35, []⟩
def c151_r0 (e : Env) : Reg :=
 .op (.mv (e 0)) fun t5 =>
 .op (.nilCheck t5) fun t6 =>
 .op (.fieldAddr 5 t6) fun t7 =>
 .op (.load none t7) fun t8 =>
 .op (.mv (e 1)) fun t9 =>
 .op (.indexSl 1 t8 t9) fun t10 =>
 .op (.load none t10) fun t11 =>
 .op (.conv .i64 t11) fun t12 =>
 .op (.mv t12) fun t4 =>
 .done (e.upd 4 t4)
def c151_r1 (e : Env) : Reg :=
 .op (.mv (e 4)) fun t13 =>
 .op (.bin .gtr t13 (.int .i64 0)) fun t14 =>
 .op (.mv t14) fun t15 =>
 .opg t15 true (.mv (e 0)) fun t16 =>
 .opg t15 true (.nilCheck t16) fun t17 =>
 .opg t15 true (.fieldAddr 2 t17) fun t18 =>
 .opg t15 true (.load none t18) fun t19 =>
 .opg t15 true (.mv (e 0)) fun t20 =>
 .opg t15 true (.nilCheck t20) fun t21 =>
 .opg t15 true (.fieldAddr 4 t21) fun t22 =>
 .opg t15 true (.load none t22) fun t23 =>
 .opg t15 true (.mv (e 4)) fun t24 =>
 .opg t15 true (.bin .sub t24 (.int .i64 1)) fun t25 =>
 .opg t15 true (.indexSl 1 t23 t25) fun t26 =>
 .opg t15 true (.load none t26) fun t27 =>
 .opg t15 true (.indexSl 1 t19 t27) fun t28 =>
 .opg t15 true (.load none t28) fun t29 =>
 .opg t15 true (.mv (e 0)) fun t30 =>
 .opg t15 true (.nilCheck t30) fun t31 =>
 .opg t15 true (.fieldAddr 2 t31) fun t32 =>
 .opg t15 true (.load none t32) fun t33 =>
 .opg t15 true (.mv (e 1)) fun t34 =>
 .opg t15 true (.indexSl 1 t33 t34) fun t35 =>
 .opg t15 true (.load none t35) fun t36 =>
 .opg t15 true (.bin .lss t29 t36) fun t37 =>
 .op (.pick t15 t37 (.bool false)) fun t38 =>
 .done (e.upd 38 t38)
def c151_r3 (e : Env) : Reg :=
 .op (.mv (e 0)) fun t41 =>
 .op (.nilCheck t41) fun t42 =>
 .op (.fieldAddr 4 t42) fun t43 =>
 .op (.load none t43) fun t44 =>
 .op (.mv (e 4)) fun t45 =>
 .op (.mv (e 0)) fun t46 =>
 .op (.nilCheck t46) fun t47 =>
 .op (.fieldAddr 4 t47) fun t48 =>
 .op (.load none t48) fun t49 =>
 .op (.mv (e 4)) fun t50 =>
 .op (.bin .sub t50 (.int .i64 1)) fun t51 =>
 .op (.indexSl 1 t49 t51) fun t52 =>
 .op (.load none t52) fun t53 =>
 .op (.indexSl 1 t44 t45) fun t54 =>
 .snap fun h14 =>
 .op (.store 1 t54 t53) fun _ =>
 .done e
def c151_r4 (e : Env) : Reg :=
 .op (.mv (e 0)) fun t55 =>
 .op (.nilCheck t55) fun t56 =>
 .op (.fieldAddr 5 t56) fun t57 =>
 .op (.load none t57) fun t58 =>
 .op (.mv (e 0)) fun t59 =>
 .op (.nilCheck t59) fun t60 =>
 .op (.fieldAddr 4 t60) fun t61 =>
 .op (.load none t61) fun t62 =>
 .op (.mv (e 4)) fun t63 =>
 .op (.indexSl 1 t62 t63) fun t64 =>
 .op (.load none t64) fun t65 =>
 .op (.mv (e 4)) fun t66 =>
 .op (.conv .i32 t66) fun t67 =>
 .op (.indexSl 1 t58 t65) fun t68 =>
 .snap fun h14 =>
 .op (.store 1 t68 t67) fun _ =>
 .done e
def c151_r2 (e : Env) : Reg :=
 .op (.mv (e 4)) fun t39 =>
 .op (.bin .sub t39 (.int .i64 1)) fun t40 =>
 .op (.mv t40) fun t4 =>
 .done (e.upd 4 t4)
def c151_l0 : CC := (.seq (.seq (.region c151_r1) (.cond (fun e => e 38) .skip (.exit 0))) (.seq (.block 1 (.seq (.region c151_r3) (.region c151_r4))) (.region c151_r2)))
def c151_r5 (e : Env) : Reg :=
 .op (.mv (e 0)) fun t69 =>
 .op (.nilCheck t69) fun t70 =>
 .op (.fieldAddr 4 t70) fun t71 =>
 .op (.load none t71) fun t72 =>
 .op (.mv (e 4)) fun t73 =>
 .op (.mv (e 0)) fun t74 =>
 .op (.nilCheck t74) fun t75 =>
 .op (.fieldAddr 5 t75) fun t76 =>
 .op (.load none t76) fun t77 =>
 .op (.mv (e 1)) fun t78 =>
 .op (.mv (e 1)) fun t79 =>
 .op (.conv .i32 t79) fun t80 =>
 .op (.mv (e 4)) fun t81 =>
 .op (.conv .i32 t81) fun t82 =>
 .op (.indexSl 1 t72 t73) fun t83 =>
 .snap fun h15 =>
 .op (.store 1 t83 t80) fun _ =>
 .op (.indexSl 1 t77 t78) fun t84 =>
 .snap fun h17 =>
 .op (.store 1 t84 t82) fun _ =>
 .done e
def c151 : CFn := ⟨(.seq (.region c151_r0) (.seq (.block 0 (.loop c151_l0)) (.region c151_r5))), []⟩
def p151 : Pers := ⟨5, [38], 85, []⟩
end Go.Proofs.YtlakhgibjfmjjaaGreat.Can
